/- Slots: what the evaluator knows of a frame's, and what an operand comes to. -/
import Derived.Test.YtkgncjlgmnbfoaaGreatDoorAmConv
import Derived.Test.YtkgncjlgmnbfoaaGreatDoorAmMaps
import Derived.Calls
namespace Go.Proofs.YtkgncjlgmnbfoaaGreatDoor.Am
open Go.RowKit

/-- What is known of a frame's slots. -/
def TmR (r : Inj) (glob : Nat) (tm : T Value) (tmps : Array Value) : Prop := ∀ t v, T.get tm t = some v → Nat.testBit glob t = true ∧ ∃ v', tmps[t]? = some v' ∧ VR r v v'
/-- The same within a region, of the slots in U: those that it has filled, the last one first. -/
structure SlR (r : Inj) (U : Nat → Prop) (ds : List Nat) (rho : Rho) (tm : T Value) (tmps : Array Value) : Prop where
  loc : ∀ (i d : Nat) (v : Value), U d → ds[i]? = some d → rho[i]? = some v → ∃ v', tmps[d]? = some v' ∧ VR r v v'
  tm : ∀ (t : Nat) (v : Value), U t → T.get tm t = some v → ∃ v', tmps[t]? = some v' ∧ VR r v v'
theorem TmR.mono {r r' : Inj} (h : r.le r') {g : Nat} {tm : T Value} {tmps : Array Value} (k : TmR r g tm tmps) : TmR r' g tm tmps := fun t v e => let ⟨q, v', a, b⟩ := k t v e; ⟨q, v', a, b.mono h⟩
theorem SlR.mono {r r' : Inj} (h : r.le r') {U : Nat → Prop} {ds : List Nat} {rho : Rho} {tm : T Value} {tmps : Array Value} (k : SlR r U ds rho tm tmps) : SlR r' U ds rho tm tmps :=
  ⟨fun i d v u a b => let ⟨v', p, q⟩ := k.loc i d v u a b; ⟨v', p, q.mono h⟩, fun t v u a => let ⟨v', p, q⟩ := k.tm t v u a; ⟨v', p, q.mono h⟩⟩

theorem nth0_eq (l : Rho) : nth0 l = l[0]? := by cases l <;> rfl
theorem nthC_eq : ∀ (d : Nat), ∃ g, nthC d = .mk g ∧ ∀ l, g l = l[d]?
  | 0 => ⟨nth0, rfl, nth0_eq⟩
  | d + 1 => by
    obtain ⟨g, h1, h2⟩ := nthC_eq d
    refine ⟨fun l => List.rec (motive := fun _ => Option Value) none (fun _ r _ => g r) l, ?_, fun l => ?_⟩
    · show Cl.rec (motive := fun _ => Cl (Rho → Option Value)) (fun g => .mk fun l => List.rec (motive := fun _ => Option Value) none (fun _ r _ => g r) l) (nthC d) = _
      rw [h1]
    · cases l with
      | nil => rfl
      | cons v l => exact h2 l
theorem whereT_some {t : Nat} : ∀ {ds : List Nat} {n : Nat}, whereT t ds = some n → ds[n]? = some t
  | [], n, h => by cases h
  | d :: ds, n, h => by
    have h0 : Bool.rec (motive := fun _ => Option Nat) (Option.rec (motive := fun _ => Option Nat) none (fun n => some (Nat.succ n)) (whereT t ds)) (some 0) (Nat.beq d t) = some n := h
    cases e : Nat.beq d t with
    | true =>
      rw [e] at h0
      cases h0
      rw [← Nat.eq_of_beq_eq_true e]; rfl
    | false =>
      rw [e] at h0
      cases e2 : whereT t ds with
      | none => rw [e2] at h0; cases h0
      | some m =>
        rw [e2] at h0
        cases h0
        have := whereT_some (ds := ds) e2
        simpa using this

/-- A compiled part: what it gives is what the model reckons. -/
def Gives {α β : Type} (c : Cl (G α)) (ds : List Nat) (us : List Operand) (R : Inj → α → β → Prop) (f : Act → β) : Prop :=
  ∃ g, c = .mk g ∧ ∀ r U rho tm a v, SlR r U ds rho tm a.tmps → (∀ t, Operand.tmp t ∈ us → U t) → g rho tm = some v → R r v (f a)
theorem compT_ok (ds : List Nat) (t : Nat) : Gives (compT ds t) ds [.tmp t] VR (fun a => a.eval (.tmp t)) := by
  unfold compT
  cases e : whereT t ds with
  | none =>
    refine ⟨_, rfl, fun r U rho tm a v hs hu h => ?_⟩
    obtain ⟨v', h1, h2⟩ := hs.tm t v (hu t (by simp)) h
    simp only [Act.eval, Array.getD_eq_getD_getElem?, h1]
    exact h2
  | some d =>
    obtain ⟨g, h1, h2⟩ := nthC_eq d
    simp only [h1]
    refine ⟨_, rfl, fun r U rho tm a v hs hu h => ?_⟩
    rw [h2] at h
    obtain ⟨v', h3, h4⟩ := hs.loc d t v (hu t (by simp)) (whereT_some e) h
    simp only [Act.eval, Array.getD_eq_getD_getElem?, h3]
    exact h4
theorem compO_ok (ds : List Nat) (x : Operand) : Gives (compO ds x) ds [x] VR (fun a => a.eval x) := by
  cases x with
  | tmp t => exact compT_ok ds t
  | const v =>
    unfold compO
    simp only
    cases e : plain v with
    | false => exact ⟨_, rfl, fun r U rho tm a v hs hu h => by cases h⟩
    | true => exact ⟨_, rfl, fun r U rho tm a v hs hu h => by cases h; exact .of_plain e⟩
  | global g => exact ⟨_, rfl, fun r U rho tm a v hs hu h => by cases h⟩
  | func f => exact ⟨_, rfl, fun r U rho tm a v hs hu h => by cases h; exact .func rfl rfl (fun i v v' e => by simp at e) rfl (fun i v v' e => by simp at e)⟩
theorem compL_ok (ds : List Nat) : ∀ (l : List Operand), Gives (compL ds l) ds l VRs (fun a => l.map a.eval)
  | [] => ⟨_, rfl, fun r U rho tm a v hs hu h => by cases h; exact .nil⟩
  | x :: l => by
    obtain ⟨g, h1, h2⟩ := compO_ok ds x
    obtain ⟨g', h3, h4⟩ := compL_ok ds l
    have h0 : compL ds (x :: l) = Cl.rec (motive := fun _ => Cl (G (List Value))) (fun g => Cl.rec (motive := fun _ => Cl (G (List Value))) (fun h => .mk fun r tm => onO (g r tm) fun v => onO (h r tm) fun l => some (v :: l)) (compL ds l)) (compO ds x) := rfl
    rw [h0, h1, h3]
    refine ⟨_, rfl, fun r U rho tm a v hs hu h => ?_⟩
    obtain ⟨y, e1, e2⟩ := onO_some h
    obtain ⟨ys, e3, e4⟩ := onO_some e2
    cases e4
    exact .cons (h2 r U rho tm a y hs (fun t q => hu t (by simp at q ⊢; simp [q])) e1) (h4 r U rho tm a ys hs (fun t q => hu t (by simp at q ⊢; simp [q])) e3)
theorem compP_ok (ds : List Nat) : ∀ (l : List (Nat × Operand)), Gives (compP ds l) ds (l.map (·.2)) PRs (fun a => l.map fun p => (p.1, a.eval p.2))
  | [] => ⟨_, rfl, fun r U rho tm a v hs hu h => by cases h; exact True.intro⟩
  | x :: l => by
    obtain ⟨g, h1, h2⟩ := compO_ok ds x.2
    obtain ⟨g', h3, h4⟩ := compP_ok ds l
    have h0 : compP ds (x :: l) = Cl.rec (motive := fun _ => Cl (G (List (Nat × Value)))) (fun g => Cl.rec (motive := fun _ => Cl (G (List (Nat × Value)))) (fun h => .mk fun r tm => onO (g r tm) fun v => onO (h r tm) fun l => some ((x.1, v) :: l)) (compP ds l)) (compO ds x.2) := rfl
    rw [h0, h1, h3]
    refine ⟨_, rfl, fun r U rho tm a v hs hu h => ?_⟩
    obtain ⟨y, e1, e2⟩ := onO_some h
    obtain ⟨ys, e3, e4⟩ := onO_some e2
    cases e4
    exact ⟨rfl, h2 r U rho tm a y hs (fun t q => hu t (by simp at q ⊢; simp [q])) e1, h4 r U rho tm a ys hs (fun t q => hu t (by simp at q ⊢; simp [q])) e3⟩
theorem compM_ok (ds : List Nat) (x : Option Operand) : Gives (compM ds x) ds x.toList VRo (fun a => x.map a.eval) := by
  cases x with
  | none => exact ⟨_, rfl, fun r U rho tm a v hs hu h => by cases h; exact True.intro⟩
  | some x =>
    obtain ⟨g, h1, h2⟩ := compO_ok ds x
    have h0 : compM ds (some x) = Cl.rec (motive := fun _ => Cl (G (Option Value))) (fun g => .mk fun r tm => onO (g r tm) fun v => some (some v)) (compO ds x) := rfl
    rw [h0, h1]
    refine ⟨_, rfl, fun r U rho tm a v hs hu h => ?_⟩
    obtain ⟨y, e1, e2⟩ := onO_some h
    cases e2
    exact h2 r U rho tm a y hs (fun t q => hu t (by simp at q ⊢; simp [q])) e1
end Go.Proofs.YtkgncjlgmnbfoaaGreatDoor.Am
