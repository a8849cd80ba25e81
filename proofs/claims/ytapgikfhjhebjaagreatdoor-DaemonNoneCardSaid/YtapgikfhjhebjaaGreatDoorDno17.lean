/- Functions without a body that ask nothing of memory, within the evaluator: at plain arguments (math's floors). -/
import Derived.Test.YtapgikfhjhebjaaGreatDoorDno07
import Derived.Test.YtapgikfhjhebjaaGreatDoorProg
import GoSem.ClaimWide
import Derived.Carry
import Derived.ChangeSame
import Derived.Test.YtapgikfhjhebjaaGreatDoorDno16
namespace Go.Proofs.YtapgikfhjhebjaaGreatDoor.Am
open Go.RowKit

noncomputable def extP (P : Program) (e : Array Value → Sem Value) (args : List Value) : M Value := M.chk (args.all plain) (M.on (semP P (e args.toArray)) pV)
theorem ext_pure {P : Program} {f : Nat} {fn : Func} {e : Array Value → Sem Value} (hf : P.funcs[f]? = some fn) (h1 : (fn.name == "runtime.NumGoroutine") = false) (h2 : fn.body = none) (h3 : Extern.findNext fn = none) (h4 : Extern.find fn = some e) : ExtOK P f (extP P e) where
  loc := fun args => lo_chk _ (lo_on _ fun _ => lo_pV _)
  ok := by
    intro w0 w r args args' s out s' h hr ha
    cases out with
    | inr c => exact ((np_chk _ (np_on _ fun _ => np_pV _) : NoPan (extP P e args)).no _ _ _ h).elim
    | inl v =>
      have h : extP P e args s = .some v s' := h
      unfold extP at h
      obtain ⟨g1, h⟩ := chk_some h
      obtain ⟨v1, g2, h⟩ := on_some h
      obtain ⟨rfl, rfl, g3⟩ := pV_some h
      have ea : args' = args := plain_VRs_eq ha g1
      subst ea
      exact ⟨v, v, w, r, rfl, .of_plain g3, .of_rel rfl hr, rfl, rfl, call_ext hf h1 h2 h3 h4 _ (semP_run g2)⟩
noncomputable def ceilX : List Value → M Value := extP Tryz.prog (Extern.MathFloor.toIntegral "math.archCeil" .up)
theorem ext_ceil {f : Nat} {fn : Func} (hf : Tryz.prog.funcs[f]? = some fn) (h1 : (fn.name == "runtime.NumGoroutine") = false) (h2 : fn.body = none) (h3 : Extern.findNext fn = none) (h4 : Extern.find fn = some (Extern.MathFloor.toIntegral "math.archCeil" .up)) : ExtOK Tryz.prog f ceilX := ext_pure hf h1 h2 h3 h4
noncomputable def floorX : List Value → M Value := extP Tryz.prog (Extern.MathFloor.toIntegral "math.archFloor" .down)
theorem ext_floor {f : Nat} {fn : Func} (hf : Tryz.prog.funcs[f]? = some fn) (h1 : (fn.name == "runtime.NumGoroutine") = false) (h2 : fn.body = none) (h3 : Extern.findNext fn = none) (h4 : Extern.find fn = some (Extern.MathFloor.toIntegral "math.archFloor" .down)) : ExtOK Tryz.prog f floorX := ext_pure hf h1 h2 h3 h4
noncomputable def truncX : List Value → M Value := extP Tryz.prog (Extern.MathFloor.toIntegral "math.archTrunc" .zero)
theorem ext_trunc {f : Nat} {fn : Func} (hf : Tryz.prog.funcs[f]? = some fn) (h1 : (fn.name == "runtime.NumGoroutine") = false) (h2 : fn.body = none) (h3 : Extern.findNext fn = none) (h4 : Extern.find fn = some (Extern.MathFloor.toIntegral "math.archTrunc" .zero)) : ExtOK Tryz.prog f truncX := ext_pure hf h1 h2 h3 h4
noncomputable def bitsX : List Value → M Value := extP Tryz.prog (Extern.MathFloatBits.float64bits)
theorem ext_bits {f : Nat} {fn : Func} (hf : Tryz.prog.funcs[f]? = some fn) (h1 : (fn.name == "runtime.NumGoroutine") = false) (h2 : fn.body = none) (h3 : Extern.findNext fn = none) (h4 : Extern.find fn = some (Extern.MathFloatBits.float64bits)) : ExtOK Tryz.prog f bitsX := ext_pure hf h1 h2 h3 h4
noncomputable def fromX : List Value → M Value := extP Tryz.prog (Extern.MathFloatBits.float64frombits)
theorem ext_fromb {f : Nat} {fn : Func} (hf : Tryz.prog.funcs[f]? = some fn) (h1 : (fn.name == "runtime.NumGoroutine") = false) (h2 : fn.body = none) (h3 : Extern.findNext fn = none) (h4 : Extern.find fn = some (Extern.MathFloatBits.float64frombits)) : ExtOK Tryz.prog f fromX := ext_pure hf h1 h2 h3 h4
end Go.Proofs.YtapgikfhjhebjaaGreatDoor.Am
/- Ways that fork at what is not known: both are gone, and what comes of them is joined. -/
namespace Go.Proofs.YtapgikfhjhebjaaGreatDoor.Am
open Go.RowKit

noncomputable def delL (ls : List Nat) (t : T Cell) : T Cell := List.rec (motive := fun _ => T Cell) t (fun l _ ih => T.del ih l) ls
noncomputable def delR (n : Nat) : Nat → T Cell → T Cell := Nat.rec (motive := fun _ => Nat → T Cell → T Cell) (fun _ t => t) (fun _ ih l t => ih (Nat.succ l) (T.del t l)) n
noncomputable def maxN (a b : Nat) : Nat := Bool.rec (motive := fun _ => Nat) a b (Nat.ble a b)
noncomputable def lowL (lim : Nat) (ls : List Nat) : List Nat := List.rec (motive := fun _ => List Nat) [] (fun l _ ih => Bool.rec (motive := fun _ => List Nat) ih (l :: ih) (Nat.blt l lim)) ls
noncomputable def joinV (a b : Value) : Option Value :=
  match a, b with
  | .bool x, .bool y => some (Bool.rec (motive := fun _ => Value) topB (.bool x) (x == y))
  | .bool _, .complex _ 2 _ => some topB
  | .complex _ 2 _, .bool _ => some topB
  | .complex _ 2 _, .complex _ 2 _ => some topB
  | .int k n, .int k' m => Bool.rec (motive := fun _ => Option Value) none (some (.int k n)) (Nat.beq (kNum k) (kNum k') && eqI n m)
  | _, _ => none
/-- Where both ways begin: each touch of what is there is noted. -/
def St.fork (s : St) : St := ⟨s.mem, s.next, s.next, [], [], s.cx⟩
/-- Where both ways end: what either has written is not known any more, nor is what either has made. -/
noncomputable def St.joined (s s1 s2 : St) : St :=
  ⟨delR (Nat.sub (maxN s1.next s2.next) s.next) s.next (delL (lowL s.next (s1.wr ++ s2.wr)) s.mem), maxN s1.next s2.next, s.lim,
    lowL s.lim (s1.rd ++ s2.rd ++ (s1.wr ++ s2.wr)) ++ s.rd, lowL s.lim (s1.wr ++ s2.wr) ++ s.wr, s.cx⟩
noncomputable def alt (m1 m2 : M (Value × FrameMode)) : M (Value × FrameMode) := fun s =>
  match m1 s.fork, m2 s.fork with
  | .some p s1, .some q s2 => (match joinV p.1 q.1 with | some v => .some (v, .run) (s.joined s1 s2) | none => .none)
  | _, _ => .none

theorem get_delL : ∀ (ls : List Nat) (t : T Cell) (j : Nat), T.get (delL ls t) j = if j ∈ ls then none else T.get t j
  | [], t, j => by simp [delL]
  | l :: ls, t, j => by
    show T.get (T.del (delL ls t) l) j = _
    rw [T.get_del, get_delL ls t j]
    by_cases h : j = l
    · simp [h]
    · simp [h]
theorem get_delR : ∀ (n l : Nat) (t : T Cell) (j : Nat), T.get (delR n l t) j = if l ≤ j ∧ j < l + n then none else T.get t j
  | 0, l, t, j => by
    rw [if_neg (by omega)]
    rfl
  | n + 1, l, t, j => by
    show T.get (delR n (l + 1) (T.del t l)) j = _
    rw [get_delR n (l + 1), T.get_del]
    by_cases h : j = l
    · rw [if_pos h, if_pos (show l ≤ j ∧ j < l + (n + 1) by omega)]
      split <;> rfl
    · rw [if_neg h]
      by_cases h2 : l + 1 ≤ j ∧ j < l + 1 + n
      · rw [if_pos h2, if_pos (by omega)]
      · rw [if_neg h2, if_neg (by omega)]
theorem maxN_eq (a b : Nat) : maxN a b = max a b := by
  unfold maxN
  cases h : Nat.ble a b with
  | true => exact (Nat.max_eq_right (Nat.le_of_ble_eq_true h)).symm
  | false =>
    have : ¬ a ≤ b := fun e => by rw [Nat.ble_eq_true_of_le e] at h; cases h
    exact (Nat.max_eq_left (Nat.le_of_lt (Nat.lt_of_not_le this))).symm
theorem mem_lowL {lim l : Nat} : ∀ {ls : List Nat}, l ∈ lowL lim ls ↔ l ∈ ls ∧ l < lim
  | [] => by simp [lowL]
  | a :: ls => by
    have ih := mem_lowL (lim := lim) (l := l) (ls := ls)
    show l ∈ (Bool.rec (lowL lim ls) (a :: lowL lim ls) (Nat.blt a lim) : List Nat) ↔ _
    cases h : Nat.blt a lim with
    | true =>
      have := blt_lt h
      simp only [List.mem_cons, ih]
      constructor
      · rintro (rfl | ⟨h1, h2⟩)
        · exact ⟨.inl rfl, this⟩
        · exact ⟨.inr h1, h2⟩
      · rintro ⟨rfl | h1, h2⟩
        · exact .inl rfl
        · exact .inr ⟨h1, h2⟩
    | false =>
      have : ¬ a < lim := fun e => by
        have : Nat.blt a lim = true := by simpa [Nat.blt] using Nat.ble_eq_true_of_le e
        rw [this] at h
        cases h
      simp only [List.mem_cons, ih]
      constructor
      · rintro ⟨h1, h2⟩
        exact ⟨.inr h1, h2⟩
      · rintro ⟨rfl | h1, h2⟩
        · exact absurd h2 this
        · exact ⟨h1, h2⟩
theorem get_joined (s s1 s2 : St) (h1 : s.next ≤ s1.next) (j : Nat) : T.get (s.joined s1 s2).mem j =
    if (s.next ≤ j ∧ j < max s1.next s2.next) ∨ (j ∈ s1.wr ++ s2.wr ∧ j < s.next) then none else T.get s.mem j := by
  show T.get (delR (Nat.sub (maxN s1.next s2.next) s.next) s.next _) j = _
  rw [get_delR, get_delL, maxN_eq]
  have e : s.next + Nat.sub (max s1.next s2.next) s.next = max s1.next s2.next := by
    show s.next + (max s1.next s2.next - s.next) = _
    omega
  rw [e]
  simp only [mem_lowL]
  by_cases h : s.next ≤ j ∧ j < max s1.next s2.next
  · rw [if_pos h, if_pos (.inl h)]
  · rw [if_neg h]
    by_cases h2 : j ∈ s1.wr ++ s2.wr ∧ j < s.next
    · rw [if_pos h2, if_pos (.inr h2)]
    · rw [if_neg h2, if_neg (by rintro (h3 | h3); exact h h3; exact h2 h3)]
theorem alt_rOf {m1 m2 : M (Value × FrameMode)} {s s' : St} {o : Out (Value × FrameMode)} (h : alt m1 m2 s = rOf o s') :
    ∃ p s1 q s2 v, m1 s.fork = .some p s1 ∧ m2 s.fork = .some q s2 ∧ joinV p.1 q.1 = some v ∧ o = .inl (v, .run) ∧ s' = s.joined s1 s2 := by
  unfold alt at h
  split at h
  · rename_i p s1 q s2 e1 e2
    split at h
    · rename_i v e3
      obtain ⟨rfl, rfl⟩ := rOf_inl h
      exact ⟨p, s1, q, s2, v, e1, e2, e3, rfl, rfl⟩
    · exact (rOf_none h).elim
  · exact (rOf_none h).elim
theorem lo_alt {m1 m2 : M (Value × FrameMode)} (h1 : Loc m1) (h2 : Loc m2) : Loc (alt m1 m2) := ⟨fun s o s' h hb => by
  obtain ⟨p, s1, q, s2, v, e1, e2, e3, rfl, rfl⟩ := alt_rOf h
  obtain ⟨R1, W1, r1, w1, g1, i1, j1⟩ := h1.at' s.fork (.inl p) s1 e1 (Nat.le_refl _)
  obtain ⟨R2, W2, r2, w2, g2, i2, j2⟩ := h2.at' s.fork (.inl q) s2 e2 (Nat.le_refl _)
  have n1 : s.next ≤ s1.next := g1.nxt
  have n2 : s.next ≤ s2.next := g2.nxt
  have x1 : s1.rd = r1 := by rw [g1.rd]; exact List.append_nil _
  have x2 : s2.rd = r2 := by rw [g2.rd]; exact List.append_nil _
  have y1 : s1.wr = w1 := by rw [g1.wr]; exact List.append_nil _
  have y2 : s2.wr = w2 := by rw [g2.wr]; exact List.append_nil _
  have hnx : (s.joined s1 s2).next = max s1.next s2.next := maxN_eq _ _
  refine ⟨fun l => (R1 l ∨ W1 l) ∨ (R2 l ∨ W2 l), fun l => (s.next ≤ l ∧ l < max s1.next s2.next) ∨ (l ∈ s1.wr ++ s2.wr ∧ l < s.next),
    lowL s.lim (s1.rd ++ s2.rd ++ (s1.wr ++ s2.wr)), lowL s.lim (s1.wr ++ s2.wr), ⟨rfl, rfl, ?_, rfl, ?_, ?_, ?_, ?_, ?_⟩, ?_, ?_⟩
  · rw [hnx]; omega
  · show s.lim ≤ _
    rw [hnx]
    have : s.lim ≤ s.next := hb
    omega
  · intro l e
    rw [hnx]
    rcases e with (e | e) | (e | e)
    · have := g1.rlt l e; omega
    · have := g1.wlt l e; omega
    · have := g2.rlt l e; omega
    · have := g2.wlt l e; omega
  · intro l e
    rw [hnx]
    rcases e with e | e <;> omega
  · intro l e
    rw [get_joined s s1 s2 n1, if_neg e]
  · intro t a1 a2 a3 a4
    obtain ⟨t1, b1, b2, _, _, b5, b6, _⟩ := g1.any t.fork a1 a1 a3 fun l e => a4 l (.inl (.inl e))
    obtain ⟨t2, c1, c2, _, _, c5, c6, _⟩ := g2.any t.fork a1 a1 a3 fun l e => a4 l (.inl (.inr e))
    have b1' : m1 t.fork = .some p t1 := b1
    have c1' : m2 t.fork = .some q t2 := c1
    have z1 : t1.rd = s1.rd := by rw [b5, x1]; exact List.append_nil _
    have z2 : t2.rd = s2.rd := by rw [c5, x2]; exact List.append_nil _
    have u1 : t1.wr = s1.wr := by rw [b6, y1]; exact List.append_nil _
    have u2 : t2.wr = s2.wr := by rw [c6, y2]; exact List.append_nil _
    refine ⟨t.joined t1 t2, ?_, ?_, a2, a3, ?_, ?_, ?_, ?_⟩
    · unfold alt
      rw [b1', c1']
      simp only [e3]
      rfl
    · show maxN t1.next t2.next = maxN s1.next s2.next
      rw [b2, c2]
    · show lowL t.lim (t1.rd ++ t2.rd ++ (t1.wr ++ t2.wr)) ++ t.rd = _
      rw [z1, z2, u1, u2, a2]
    · show lowL t.lim (t1.wr ++ t2.wr) ++ t.wr = _
      rw [u1, u2, a2]
    · intro l e
      rw [get_joined s s1 s2 n1, get_joined t t1 t2 (by rw [a1, b2]; exact n1), if_pos e, if_pos (by rw [a1, b2, c2, u1, u2]; exact e)]
    · intro l e
      rw [get_joined t t1 t2 (by rw [a1, b2]; exact n1), if_neg (by rw [a1, b2, c2, u1, u2]; exact e)]
  · intro l e hl
    have hl2 : l < s.next := Nat.lt_of_lt_of_le hl hb
    rw [mem_lowL]
    refine ⟨?_, hl⟩
    rw [x1, x2, y1, y2]
    rcases e with (e | e) | (e | e)
    · simp [i1 l e hl2]
    · simp [j1 l e hl2]
    · simp [i2 l e hl2]
    · simp [j2 l e hl2]
  · intro l e hl
    have hl2 : l < s.next := Nat.lt_of_lt_of_le hl hb
    rw [mem_lowL]
    rcases e with e | e
    · omega
    · exact ⟨e.1, hl⟩⟩
/-- Less known of the memory. -/
theorem Rel.sub {w0 w : World} {r : Inj} {mem mem' : T Cell} (h : Rel w0 r mem w) (hs : ∀ l c, T.get mem' l = some c → T.get mem l = some c) : Rel w0 r mem' w where
  below := h.below
  dom := h.dom
  cell := fun l b v e => h.cell l b v (hs _ _ e)
  sep := fun l1 l2 b1 v1 b2 v2 b' d1 d2 e1 e2 => h.sep l1 l2 b1 v1 b2 v2 b' d1 d2 (hs _ _ e1) (hs _ _ e2)
  obj := fun l o e => h.obj l o (hs _ _ e)
  sepO := fun l1 l2 o1 o2 b' d1 d2 e1 e2 => h.sepO l1 l2 o1 o2 b' d1 d2 (hs _ _ e1) (hs _ _ e2)
  tok := fun t sz e => by
    obtain ⟨k, q1, q2, q3, q4, q5, q6⟩ := h.tok t sz (hs _ _ e)
    exact ⟨k, q1, q2, q3, q4, q5, fun l b v d e => q6 l b v d (hs _ _ e)⟩
  sepT := fun t1 t2 s1 s2 k1 k2 e1 e2 => h.sepT t1 t2 s1 s2 k1 k2 (hs _ _ e1) (hs _ _ e2)
  known := h.known
  szs := fun l n e => h.szs l n (hs _ _ e)
  olds := h.olds.less hs
theorem VR.top_bool {r : Inj} {k : FloatKind} {b : Nat} {x : Value} (h : VR r (.complex k 2 b) x) : VR r topB x := by
  cases h with
  | complex h => exact .complex h
theorem VR.bool_top {r : Inj} {b : Bool} {x : Value} (h : VR r (.bool b) x) : VR r topB x := by
  cases h
  exact .complex ⟨b, rfl⟩
theorem joinV_vr {r : Inj} {a b v : Value} (h : joinV a b = some v) : (∀ x, VR r a x → VR r v x) ∧ (∀ x, VR r b x → VR r v x) := by
  unfold joinV at h
  split at h
  · rename_i x y
    cases h
    cases hb : x == y with
    | false => exact ⟨fun _ e => e.bool_top, fun _ e => e.bool_top⟩
    | true =>
      have := eq_of_beq hb
      subst this
      exact ⟨fun _ e => e, fun _ e => e⟩
  · cases h; exact ⟨fun _ e => e.bool_top, fun _ e => e.top_bool⟩
  · cases h; exact ⟨fun _ e => e.top_bool, fun _ e => e.bool_top⟩
  · cases h; exact ⟨fun _ e => e.top_bool, fun _ e => e.top_bool⟩
  · rename_i k n k' m
    cases hb : Nat.beq (kNum k) (kNum k') && eqI n m with
    | false => rw [hb] at h; cases h
    | true =>
      rw [hb] at h
      cases h
      rw [Bool.and_eq_true] at hb
      have e1 := kNum_inj hb.1
      have e2 : n = m := by have := hb.2; rw [eqI_eq] at this; exact of_decide_eq_true this
      subst e1
      subst e2
      exact ⟨fun _ e => e, fun _ e => e⟩
  · cases h
/-- Of one of the two ways: what holds behind it holds behind both. -/
theorem Goes.joined {w0 w' : World} {r r' : Inj} {s s1 s2 si : St} {m : M (Value × FrameMode)} {o : Out (Value × FrameMode)} (hm : Loc m) (e : m s.fork = rOf o si) (hsi : si = s1 ∨ si = s2) (n1 : s.next ≤ s1.next) (h : Goes w0 r s.fork si r' w') :
    Goes w0 r s (s.joined s1 s2) r' w' := by
  obtain ⟨R1, W1, d1, w1, g1, _, j1⟩ := hm.at' s.fork o si e (Nat.le_refl _)
  have hnx : (s.joined s1 s2).next = max s1.next s2.next := maxN_eq _ _
  have hle : si.next ≤ max s1.next s2.next := by rcases hsi with rfl | rfl <;> omega
  have hw : si.wr = w1 := by rw [g1.wr]; exact List.append_nil _
  refine ⟨h.le, by rw [hnx]; omega, fun b q => (h.domB b q).imp id fun x => ⟨x.1, ?_⟩, fun b q => (h.domE b q).imp id fun x => ⟨x.1, ?_⟩, h.rel.sub fun l c q => ?_⟩
  · rw [hnx]; have := x.2; omega
  · rw [hnx]; have := x.2; omega
  · rw [get_joined s s1 s2 n1] at q
    split at q
    · cases q
    · rename_i hn
      rw [← q]
      refine g1.old l fun hW => hn ?_
      have hl := g1.wlt l hW
      rcases Nat.lt_or_ge l s.next with h1 | h1
      · have := j1 l hW h1
        rw [← hw] at this
        refine .inr ⟨List.mem_append.2 ?_, h1⟩
        rcases hsi with rfl | rfl
        · exact .inl this
        · exact .inr this
      · exact .inl ⟨h1, by omega⟩
end Go.Proofs.YtapgikfhjhebjaaGreatDoor.Am
/- Frames that fork at what is not known: each way is gone, and what is said of them is so. -/
namespace Go.Proofs.YtapgikfhjhebjaaGreatDoor.Am
open Go.RowKit

noncomputable def unkB (v : Option Value) : Bool :=
  match v with
  | some (.complex _ 2 _) => true
  | _ => false
noncomputable def AF.setS (af : AF) (t : Nat) (v : Value) : AF := { af with tmps := T.set af.tmps t v }
def AF.on (af : AF) (k : List Item) : AF := { af with todo := k }
noncomputable def AF.keep (af : AF) (d : Option Nat) (v : Value) (k : List Item) : AF := { af with tmps := keepT d (keepD d af.glob) v af.tmps, todo := k }
noncomputable def okD (d : Option Nat) (n : Nat) : Bool := match d with | some d => Nat.blt d n | none => true
/-- One operation of a region, run by itself. -/
noncomputable def opA (E : Env) (call round : CallT) (af : AF) (o : Oper) (k : List Item) : M AF :=
  noP (Cl.rec (motive := fun _ => M AF) (fun f => M.chk (okD o.dst af.n) (M.bind (f call round [] af.tmps) fun v => keepV o.dst (keepD o.dst af.glob) v af.tmps fun tm => M.pure { af with tmps := tm, todo := k })) (compOp E [] o.op))
/-- One that is not wanted. -/
noncomputable def skipA (af : AF) (o : Oper) (k : List Item) : M AF := M.chk (okD o.dst af.n) (keepV o.dst (keepD o.dst af.glob) undef af.tmps fun tm => M.pure { af with tmps := tm, todo := k })
def guarded (ops : Array Oper) : Bool := ops.toList.any fun o => o.guard.isSome
noncomputable def both (ih : AF → M (Value × FrameMode)) (af : AF) (t : Nat) : M (Value × FrameMode) := alt (ih (af.setS t (.bool true))) (ih (af.setS t (.bool false)))
noncomputable def forkG (E : Env) (call round : CallT) (ih : AF → M (Value × FrameMode)) (af : AF) (ops : Array Oper) (o : Oper) (k : List Item) : M (Value × FrameMode) :=
  Option.rec (motive := fun _ => M (Value × FrameMode)) (M.bind (opA E call round af o k) ih)
    (fun g => M.on ((ops[g.1]?).bind (·.dst)) fun d => M.on (T.get af.tmps d) fun v => M.if (unkB (some v)) (both ih af d)
        (M.chk (isK v) (M.if (isB v g.2) (M.bind (opA E call round af o k) ih) (M.bind (skipA af o k) ih)))) o.guard
noncomputable def forkI (E : Env) (call round : CallT) (dcall : DeferT) (ih : AF → M (Value × FrameMode)) (af : AF) : M (Value × FrameMode) :=
  match af.todo with
  | .inRegion _ [] :: k => ih (af.on k)
  | .inRegion ops (i :: l) :: k => M.on ops[i]? fun o => forkG E call round ih af ops o (.inRegion ops l :: k)
  | .code (.region _ ops false) :: k => M.if (guarded ops) (ih (af.on (.inRegion ops (List.range ops.size) :: k))) (M.bind (stepA E call round dcall af) (stepR ih))
  | .code (.cond (.tmp t) _ _) :: _ => M.if (unkB (T.get af.tmps t)) (both ih af t) (M.bind (stepA E call round dcall af) (stepR ih))
  | _ => M.bind (stepA E call round dcall af) (stepR ih)
noncomputable def forkS (E : Env) (call round : CallT) (dcall : DeferT) (ih : AF → M (Value × FrameMode)) (af : AF) : M (Value × FrameMode) :=
  match af.mode with
  | .run => forkI E call round dcall ih (af.on (skim 64 af.todo))
  | _ => M.bind (stepA E call round dcall af) (stepR ih)
/-- A frame to its end, each way. 'fuel' is that of the calls in it. -/
noncomputable def forkM (E : Env) (fuel : Nat) (n : Nat) : AF → M (Value × FrameMode) :=
  Nat.rec (motive := fun _ => AF → M (Value × FrameMode)) (fun _ => M.fail) (fun _ ih af => forkS E (callW E (runF E fuel)) (roundW (runF E fuel)) (deferW E (runF E fuel)) ih af) n
section
variable {E : Env} {call round : CallT} {dcall : DeferT} {w0 w : World} {r : Inj} {base : List Deferred × List Frame}
theorem FinE.normal {P : Program} {cx1 cx2 : Ctx} {fr : Frame} {m : Machine} {w' : World} {p : Value × FrameMode} {v : Value} (hk : fr.kind = .normal) (hv : ∀ x, VR r p.1 x → VR r v x) (h : FinE P r base cx1 fr m w' (.inl p)) : FinE P r base cx2 fr m w' (.inl (v, .run)) := by
  obtain ⟨cs', h1, v', q1, q2, q3⟩ := h
  refine ⟨cs', ?_, v', hv _ q1, q2, q3⟩
  rcases h1 with h1 | ⟨_, _, _, _, _, h1, _⟩
  · exact .inl h1
  · rw [hk] at h1
    cases h1
theorem FR.setS {P : Program} {af : AF} {cx : Ctx} {fr : Frame} {cs : List Frame} (h : FR P r af cx base fr cs) {t : Nat} (hu : unkB (T.get af.tmps t) = true) : ∃ b, FR P r (af.setS t (.bool b)) cx base fr cs := by
  unfold unkB at hu
  split at hu
  · rename_i b e
    obtain ⟨q1, v', q2, q3⟩ := h.tm t _ e
    cases q3 with
    | complex q3 =>
      obtain ⟨b, rfl⟩ := q3
      refine ⟨b, h.fn, h.size, fun y v e2 => ?_, h.todo, h.mode, h.round, h.rk, h.known, h.cx⟩
      replace e2 : T.get (T.set af.tmps t (.bool b)) y = some v := e2
      rw [T.get_set] at e2
      split at e2
      · rename_i hy
        cases e2
        subst hy
        exact ⟨q1, _, q2, .bool b⟩
      · exact h.tm y v e2
  · cases hu
/-- As RunOK, of frames of the common kind. -/
structure ForkOK (E : Env) (run : AF → M (Value × FrameMode)) : Prop where
  loc : ∀ af, Loc (run af)
  ok : ∀ {w0 w : World} {r : Inj} {base : List Deferred × List Frame} {af : AF} {fr : Frame} {cs : List Frame} {s : St} {out : Out (Value × FrameMode)} {s' : St}, run af s = rOf out s' → FR E.P r af s.cx base fr cs → fr.kind = .normal → Rel w0 r s.mem w → Bnd s → Fresh r s.next s'.next →
    ∃ w' r', Goes w0 r s s' r' w' ∧ s'.lim = s.lim ∧ FinE E.P r' base s'.cx fr (lone fr cs w) w' out
theorem both_ok {ih : AF → M (Value × FrameMode)} (hi : ForkOK E ih) {af : AF} {t : Nat} {fr : Frame} {cs : List Frame} {s s' : St} {out : Out (Value × FrameMode)} (h : both ih af t s = rOf out s') (hu : unkB (T.get af.tmps t) = true)
    (hF : FR E.P r af s.cx base fr cs) (hk : fr.kind = .normal) (hr : Rel w0 r s.mem w) (hf : Fresh r s.next s'.next) :
    ∃ w' r', Goes w0 r s s' r' w' ∧ s'.lim = s.lim ∧ FinE E.P r' base s'.cx fr (lone fr cs w) w' out := by
  obtain ⟨p, s1, q, s2, v, e1, e2, e3, rfl, rfl⟩ := alt_rOf h
  have n1 : s.next ≤ s1.next := ((hi.loc _).at' s.fork (.inl p) s1 e1 (Nat.le_refl _)).next
  have hnx : (s.joined s1 s2).next = max s1.next s2.next := maxN_eq _ _
  obtain ⟨b, hF'⟩ := hF.setS hu
  cases b with
  | true =>
    obtain ⟨w', r', k1, _, k3⟩ := hi.ok (out := .inl p) (s := s.fork) e1 hF' hk hr (Nat.le_refl _) (fun b x y => hf b x (by rw [hnx]; omega))
    exact ⟨w', r', k1.joined (hi.loc _) (o := .inl p) e1 (.inl rfl) n1, rfl, k3.normal hk (fun x => (joinV_vr e3).1 x)⟩
  | false =>
    obtain ⟨w', r', k1, _, k3⟩ := hi.ok (out := .inl q) (s := s.fork) e2 hF' hk hr (Nat.le_refl _) (fun b x y => hf b x (by rw [hnx]; omega))
    exact ⟨w', r', k1.joined (hi.loc _) (o := .inl q) e2 (.inr rfl) n1, rfl, k3.normal hk (fun x => (joinV_vr e3).2 x)⟩

/-! ### One step -/
theorem stepI_ok (he : EnvOK E) (c1 : CallOK E call) (c2 : RoundOK E round) (c3 : DeferOK E dcall) {ih : AF → M (Value × FrameMode)} (hi : ForkOK E ih) {af : AF} {fr : Frame} {cs : List Frame} {s s' : St} {out : Out (Value × FrameMode)}
    (h : M.bind (stepA E call round dcall af) (stepR ih) s = rOf out s') (hF : FR E.P r af s.cx base fr cs) (hk : fr.kind = .normal) (hr : Rel w0 r s.mem w) (hb : Bnd s) (hf : Fresh r s.next s'.next) :
    ∃ w' r', Goes w0 r s s' r' w' ∧ s'.lim = s.lim ∧ FinE E.P r' base s'.cx fr (lone fr cs w) w' out := by
  have lR : ∀ p, Loc (stepR ih p) := fun p => by
    cases p with
    | go af => exact hi.loc af
    | fin v u => exact lo_pure _
  rcases bind_rOf h with ⟨p, s1, e1, e2⟩ | ⟨c, e1, rfl⟩
  · have L1 := (lo_stepA he c1 c2 c3 af).at' s (.inl p) s1 e1 hb
    have L2 := (lR p).at' s1 out s' e2 L1.bnd
    obtain ⟨w1, r1, k1, k2, k3⟩ := stepA_ok (out := .inl p) he c1 c2 c3 e1 hF hr hb (fun b x y => hf b x (Nat.lt_of_lt_of_le y L2.next))
    cases p with
    | go af' =>
      obtain ⟨fr', cs', k4, k5, k6⟩ := k3
      have hk' : fr'.kind = .normal := by
        unfold Kin at k4
        simp only [Prod.mk.injEq] at k4
        rw [k4.1]; exact hk
      obtain ⟨w2, r2, q1, q2, q3⟩ := hi.ok (show ih af' s1 = rOf out s' from e2) k5 hk' k1.rel L1.bnd (k1.fresh hf)
      exact ⟨w2, r2, k1.trans q1, q2.trans k2, q3.head k4 k6⟩
    | fin v u =>
      obtain ⟨rfl, rfl⟩ := rOf_inl (show R.some (v, u) s1 = rOf out s' from e2)
      exact ⟨w1, r1, k1, k2, k3⟩
  · obtain ⟨w1, r1, k1, k2, k3⟩ := stepA_ok (out := .inr c) he c1 c2 c3 e1 hF hr hb hf
    exact ⟨w1, r1, k1, k2, k3⟩
theorem okD_lt {d : Option Nat} {n x : Nat} (h : okD d n = true) (e : d = some x) : x < n := by
  subst e
  exact blt_lt h
theorem FR.keep {P : Program} {af : AF} {cx : Ctx} {fr : Frame} {cs : List Frame} {r' : Inj} {cx' : Ctx} {cs' : List Frame} {dfs' : List Deferred} {d : Option Nat} {v v' : Value} {k : List Item} (h : FR P r af cx base fr cs) (hm : af.mode = .run) (hle : r.le r') (hd : okD d af.n = true) (hv : VR r' v v') (hx : CxR r' base cx' fr dfs' cs') :
    FR P r' { af with tmps := keepT d (keepD d af.glob) v af.tmps, todo := k } cx' base (Am.frm fr (putT fr.tmps d v') dfs' k) cs' :=
  ⟨h.fn, by rw [← h.size]; exact putT_size _ _ _, (h.tm.mono hle).keep hv (fun x e => by rw [h.size]; exact okD_lt hd e), fun _ => rfl, by rw [show ({ af with tmps := keepT d (keepD d af.glob) v af.tmps, todo := k } : AF).mode = .run from hm]; exact .run, h.round.mono hle, h.rk, h.known, hx⟩
theorem lo_opA (he : EnvOK E) (c1 : CallOK E call) (c2 : RoundOK E round) (af : AF) (o : Oper) (k : List Item) : Loc (opA E call round af o k) := by
  obtain ⟨f, h1, h2, _⟩ := compOp_ok he.ty o []
  unfold opA
  rw [h1]
  exact lo_noP (lo_chk _ (lo_bind (h2 call round c1 c2 _ _) fun v => by rw [keepV_eq]; exact lo_pure _))
theorem lo_skipA (af : AF) (o : Oper) (k : List Item) : Loc (skipA af o k) := lo_chk _ (by rw [keepV_eq]; exact lo_pure _)
theorem opA_ok (he : EnvOK E) (c1 : CallOK E call) (c2 : RoundOK E round) {af af1 : AF} {ops : Array Oper} {i : Nat} {l : List Nat} {o : Oper} {k : List Item} {fr : Frame} {cs : List Frame} {s s1 : St} (h : opA E call round af o (.inRegion ops l :: k) s = .some af1 s1)
    (ho : ops[i]? = some o) (hw : Region.wanted o (yielded ops fr.tmps) = true) (ht : af.todo = .inRegion ops (i :: l) :: k) (hm : af.mode = .run) (hF : FR E.P r af s.cx base fr cs) (hr : Rel w0 r s.mem w) (hb : Bnd s) (hf : Fresh r s.next s1.next) :
    ∃ w1 r1 fr' cs', Goes w0 r s s1 r1 w1 ∧ s1.lim = s.lim ∧ Kin fr fr' ∧ FR E.P r1 af1 s1.cx base fr' cs' ∧ Steps E.P (lone fr cs w) (lone fr' cs' w1) := by
  obtain ⟨f, h1, _, h3⟩ := compOp_ok he.ty o []
  unfold opA at h
  rw [h1] at h
  obtain ⟨p, hp, h⟩ := noP_rOf (o := .inl af1) h
  cases hp
  replace h : M.chk (okD o.dst af.n) (M.bind (f call round [] af.tmps) fun v => keepV o.dst (keepD o.dst af.glob) v af.tmps fun tm => M.pure { af with tmps := tm, todo := .inRegion ops l :: k }) s = .some af1 s1 := h
  obtain ⟨hd, h⟩ := chk_some h
  obtain ⟨v, s2, e1, e2⟩ := bind_some h
  rw [keepV_eq] at e2
  obtain ⟨rfl, rfl⟩ := pure_some e2
  obtain ⟨w', r', dfs', cs', g1, g2, g3, v', g4, g5⟩ := h3 call round c1 c2 w0 w r (fun _ => True) [] af.tmps fr fr.tmps fr.defers cs base s (.inl v) s2 ⟨fun i d v _ e => by simp at e, fun t v _ e => (hF.tm t v e).2⟩ (fun _ _ => True.intro) hr hF.cx hb hf e1 ops i l k ho hw
  refine ⟨w', r', Am.frm fr (putT fr.tmps o.dst v') dfs' (.inRegion ops l :: k), cs', g1, g3, rfl, hF.keep hm g1.le hd g4 g2, ?_⟩
  have e := hF.frm hm
  rw [ht] at e
  rw [e]
  exact g5
theorem skipA_ok {af af1 : AF} {ops : Array Oper} {i : Nat} {l : List Nat} {o : Oper} {k : List Item} {fr : Frame} {cs : List Frame} {s s1 : St} (h : skipA af o (.inRegion ops l :: k) s = .some af1 s1)
    (ho : ops[i]? = some o) (hw : Region.wanted o (yielded ops fr.tmps) = false) (ht : af.todo = .inRegion ops (i :: l) :: k) (hm : af.mode = .run) (hF : FR E.P r af s.cx base fr cs) :
    s1 = s ∧ ∃ fr', Kin fr fr' ∧ FR E.P r af1 s.cx base fr' cs ∧ Steps E.P (lone fr cs w) (lone fr' cs w) := by
  unfold skipA at h
  obtain ⟨hd, h⟩ := chk_some h
  rw [keepV_eq] at h
  obtain ⟨rfl, rfl⟩ := pure_some h
  refine ⟨rfl, Am.frm fr (putT fr.tmps o.dst undef) fr.defers (.inRegion ops l :: k), rfl, hF.keep hm (Inj.le_refl r) hd .undef hF.cx, ?_⟩
  have e := hF.frm hm
  rw [ht] at e
  rw [e]
  exact .one (step_op_skip_frm ho hw)
/-- On from where a step has led. -/
theorem on_ok {ih : AF → M (Value × FrameMode)} (hi : ForkOK E ih) {af1 : AF} {fr fr' : Frame} {cs cs' : List Frame} {s s1 s' : St} {w1 : World} {r1 : Inj} {out : Out (Value × FrameMode)} (h : ih af1 s1 = rOf out s') (hk : fr.kind = .normal) (hb1 : Bnd s1) (hf : Fresh r s.next s'.next)
    (g1 : Goes w0 r s s1 r1 w1) (g2 : s1.lim = s.lim) (g3 : Kin fr fr') (g4 : FR E.P r1 af1 s1.cx base fr' cs') (g5 : Steps E.P (lone fr cs w) (lone fr' cs' w1)) :
    ∃ w' r', Goes w0 r s s' r' w' ∧ s'.lim = s.lim ∧ FinE E.P r' base s'.cx fr (lone fr cs w) w' out := by
  have hk' : fr'.kind = .normal := by
    have := g3
    unfold Kin at this
    simp only [Prod.mk.injEq] at this
    rw [this.1]; exact hk
  obtain ⟨w2, r2, q1, q2, q3⟩ := hi.ok h g4 hk' g1.rel hb1 (g1.fresh hf)
  exact ⟨w2, r2, g1.trans q1, q2.trans g2, q3.head g3 g5⟩
theorem lo_forkG (he : EnvOK E) (c1 : CallOK E call) (c2 : RoundOK E round) {ih : AF → M (Value × FrameMode)} (hl : ∀ af, Loc (ih af)) (af : AF) (ops : Array Oper) (o : Oper) (k : List Item) : Loc (forkG E call round ih af ops o k) := by
  unfold forkG
  have h1 := lo_bind (lo_opA he c1 c2 af o k) hl
  cases o.guard with
  | none => exact h1
  | some g => exact lo_on _ fun d => lo_on _ fun v => lo_if _ (lo_alt (hl _) (hl _)) (lo_chk _ (lo_if _ h1 (lo_bind (lo_skipA af o k) hl)))
theorem forkG_ok (he : EnvOK E) (c1 : CallOK E call) (c2 : RoundOK E round) {ih : AF → M (Value × FrameMode)} (hi : ForkOK E ih) {af : AF} {ops : Array Oper} {i : Nat} {l : List Nat} {o : Oper} {k : List Item} {fr : Frame} {cs : List Frame} {s s' : St} {out : Out (Value × FrameMode)} (h : forkG E call round ih af ops o (.inRegion ops l :: k) s = rOf out s')
    (ho : ops[i]? = some o) (ht : af.todo = .inRegion ops (i :: l) :: k) (hm : af.mode = .run) (hF : FR E.P r af s.cx base fr cs) (hk : fr.kind = .normal) (hr : Rel w0 r s.mem w) (hb : Bnd s) (hf : Fresh r s.next s'.next) :
    ∃ w' r', Goes w0 r s s' r' w' ∧ s'.lim = s.lim ∧ FinE E.P r' base s'.cx fr (lone fr cs w) w' out := by
  have run : Region.wanted o (yielded ops fr.tmps) = true → M.bind (opA E call round af o (.inRegion ops l :: k)) ih s = rOf out s' → ∃ w' r', Goes w0 r s s' r' w' ∧ s'.lim = s.lim ∧ FinE E.P r' base s'.cx fr (lone fr cs w) w' out := by
    intro hw e
    rcases bind_rOf e with ⟨af1, s1, e1, e2⟩ | ⟨c, e1, _⟩
    · have L1 := (lo_opA he c1 c2 af o (.inRegion ops l :: k)).at' s (.inl af1) s1 e1 hb
      have L2 := (hi.loc af1).at' s1 out s' e2 L1.bnd
      obtain ⟨w1, r1, fr', cs', g1, g2, g3, g4, g5⟩ := opA_ok he c1 c2 e1 ho hw ht hm hF hr hb (fun b x y => hf b x (Nat.lt_of_lt_of_le y L2.next))
      exact on_ok hi e2 hk L1.bnd hf g1 g2 g3 g4 g5
    · unfold opA at e1
      obtain ⟨p, hp, _⟩ := noP_rOf (o := .inr c) e1
      cases hp
  unfold forkG at h
  cases hg : o.guard with
  | none =>
    rw [hg] at h
    exact run (by unfold Region.wanted; rw [hg]) h
  | some g =>
    obtain ⟨j, want⟩ := g
    rw [hg] at h
    replace h : M.on ((ops[j]?).bind (·.dst)) (fun d => M.on (T.get af.tmps d) fun v => M.if (unkB (some v)) (both ih af d)
        (M.chk (isK v) (M.if (isB v want) (M.bind (opA E call round af o (.inRegion ops l :: k)) ih) (M.bind (skipA af o (.inRegion ops l :: k)) ih)))) s = rOf out s' := h
    obtain ⟨d, e1, h⟩ := on_rOf h
    obtain ⟨v, e2, h⟩ := on_rOf h
    rw [if_eq] at h
    cases hu : unkB (some v) with
    | true =>
      rw [hu, if_pos rfl] at h
      exact both_ok hi h (by rw [e2]; exact hu) hF hk hr hf
    | false =>
      rw [hu, if_neg (by simp)] at h
      obtain ⟨hK, h⟩ := chk_rOf h
      obtain ⟨q, hq, hqd⟩ := Option.bind_eq_some_iff.1 e1
      obtain ⟨_, v', e3, e4⟩ := hF.tm d v e2
      have hy : Region.wanted o (yielded ops fr.tmps) = isB v want := by
        rw [← isB_wanted e4 hK]
        unfold Region.wanted yielded
        simp only [hg, hq, hqd, Option.bind_some, e3]
        cases v' <;> rfl
      rw [if_eq] at h
      cases hB : isB v want with
      | true =>
        rw [hB, if_pos rfl] at h
        exact run (by rw [hy, hB]) h
      | false =>
        rw [hB, if_neg (by simp)] at h
        rcases bind_rOf h with ⟨af1, s1, e5, e6⟩ | ⟨c, e5, _⟩
        · obtain ⟨rfl, fr', g3, g4, g5⟩ := skipA_ok (w := w) e5 ho (by rw [hy, hB]) ht hm hF
          exact on_ok hi e6 hk hb hf (.of_rel rfl hr) rfl g3 g4 g5
        · unfold skipA at e5
          obtain ⟨_, e5⟩ := chk_rOf (o := .inr c) e5
          rw [keepV_eq] at e5
          cases e5
theorem lo_forkI (he : EnvOK E) (c1 : CallOK E call) (c2 : RoundOK E round) (c3 : DeferOK E dcall) {ih : AF → M (Value × FrameMode)} (hl : ∀ af, Loc (ih af)) (af : AF) : Loc (forkI E call round dcall ih af) := by
  have h1 : Loc (M.bind (stepA E call round dcall af) (stepR ih)) := lo_bind (lo_stepA he c1 c2 c3 af) fun p => by
    cases p with
    | go af => exact hl af
    | fin v u => exact lo_pure _
  unfold forkI
  split
  · exact hl _
  · exact lo_on _ fun o => lo_forkG he c1 c2 hl _ _ _ _
  · exact lo_if _ (hl _) h1
  · exact lo_if _ (lo_alt (hl _) (hl _)) h1
  · exact h1
theorem forkI_cases (ih : AF → M (Value × FrameMode)) (af : AF) :
    (∃ o k, af.todo = .inRegion o [] :: k ∧ forkI E call round dcall ih af = ih (af.on k)) ∨
    (∃ ops i l k, af.todo = .inRegion ops (i :: l) :: k ∧ forkI E call round dcall ih af = M.on ops[i]? fun o => forkG E call round ih af ops o (.inRegion ops l :: k)) ∨
    (∃ id ops k, af.todo = .code (.region id ops false) :: k ∧ forkI E call round dcall ih af = M.if (guarded ops) (ih (af.on (.inRegion ops (List.range ops.size) :: k))) (M.bind (stepA E call round dcall af) (stepR ih))) ∨
    (∃ t a b k, af.todo = .code (.cond (.tmp t) a b) :: k ∧ forkI E call round dcall ih af = M.if (unkB (T.get af.tmps t)) (both ih af t) (M.bind (stepA E call round dcall af) (stepR ih))) ∨
    forkI E call round dcall ih af = M.bind (stepA E call round dcall af) (stepR ih) := by
  unfold forkI
  split
  · exact .inl ⟨_, _, by assumption, rfl⟩
  · exact .inr (.inl ⟨_, _, _, _, by assumption, rfl⟩)
  · exact .inr (.inr (.inl ⟨_, _, _, by assumption, rfl⟩))
  · exact .inr (.inr (.inr (.inl ⟨_, _, _, _, by assumption, rfl⟩)))
  · exact .inr (.inr (.inr (.inr rfl)))
theorem forkI_ok (he : EnvOK E) (c1 : CallOK E call) (c2 : RoundOK E round) (c3 : DeferOK E dcall) {ih : AF → M (Value × FrameMode)} (hi : ForkOK E ih) {af : AF} {fr : Frame} {cs : List Frame} {s s' : St} {out : Out (Value × FrameMode)} (h : forkI E call round dcall ih af s = rOf out s')
    (hm : af.mode = .run) (hF : FR E.P r af s.cx base fr cs) (hk : fr.kind = .normal) (hr : Rel w0 r s.mem w) (hb : Bnd s) (hf : Fresh r s.next s'.next) :
    ∃ w' r', Goes w0 r s s' r' w' ∧ s'.lim = s.lim ∧ FinE E.P r' base s'.cx fr (lone fr cs w) w' out := by
  have to : ∀ (k : List Item), FR E.P r (af.on k) s.cx base (frm fr fr.tmps fr.defers k) cs := fun k => by
    have := hF.to k
    rw [← hm] at this
    exact this
  rcases forkI_cases (E := E) (call := call) (round := round) (dcall := dcall) ih af with ⟨o, k, ht, e0⟩ | ⟨ops, i, l, k, ht, e0⟩ | ⟨id, ops, k, ht, e0⟩ | ⟨t, a, b, k, ht, e0⟩ | e0 <;> rw [e0] at h
  · have e := hF.frm hm
    rw [ht] at e
    have hst : Steps E.P (lone (frm fr fr.tmps fr.defers (.inRegion o [] :: k)) cs w) (lone (frm fr fr.tmps fr.defers k) cs w) := .one step_region_end_frm
    rw [← e] at hst
    exact on_ok (s := s) hi h hk hb hf (.of_rel rfl hr) rfl (fr' := frm fr fr.tmps fr.defers k) rfl (to k) hst
  · obtain ⟨o, ho, h⟩ := on_rOf h
    exact forkG_ok he c1 c2 hi h ho ht hm hF hk hr hb hf
  · rw [if_eq] at h
    split at h
    · have e := hF.frm hm
      rw [ht] at e
      have hst : Steps E.P (lone (frm fr fr.tmps fr.defers (.code (.region id ops false) :: k)) cs w) (lone (frm fr fr.tmps fr.defers (.inRegion ops (List.range ops.size) :: k)) cs w) := .one step_region_frm
      rw [← e] at hst
      exact on_ok (s := s) hi h hk hb hf (.of_rel rfl hr) rfl (fr' := frm fr fr.tmps fr.defers (.inRegion ops (List.range ops.size) :: k)) rfl (to _) hst
    · exact stepI_ok he c1 c2 c3 hi h hF hk hr hb hf
  · rw [if_eq] at h
    split at h
    · rename_i hu
      exact both_ok hi h hu hF hk hr hf
    · exact stepI_ok he c1 c2 c3 hi h hF hk hr hb hf
  · exact stepI_ok he c1 c2 c3 hi h hF hk hr hb hf
theorem forkS_ok (he : EnvOK E) (c1 : CallOK E call) (c2 : RoundOK E round) (c3 : DeferOK E dcall) {ih : AF → M (Value × FrameMode)} (hi : ForkOK E ih) : ForkOK E (forkS E call round dcall ih) where
  loc := fun af => by
    unfold forkS
    split
    · exact lo_forkI he c1 c2 c3 hi.loc _
    · exact lo_bind (lo_stepA he c1 c2 c3 af) fun p => by
        cases p with
        | go af => exact hi.loc af
        | fin v u => exact lo_pure _
  ok := by
    intro w0 w r base af fr cs s out s' h hF hk hr hb hf
    have e0 : forkS E call round dcall ih af = match af.mode with
      | .run => forkI E call round dcall ih (af.on (skim 64 af.todo))
      | _ => M.bind (stepA E call round dcall af) (stepR ih) := rfl
    rw [e0] at h
    cases hm : af.mode with
    | run =>
      rw [hm] at h
      have hsk := skim_ok (P := E.P) (b := fr) (t := fr.tmps) (d := fr.defers) (cs := cs) (w := w) 64 af.todo
      rw [← hF.frm hm] at hsk
      have hF' := hF.to (skim 64 af.todo)
      rw [← hm] at hF'
      obtain ⟨w', r', k1, k2, k3⟩ := forkI_ok (af := af.on (skim 64 af.todo)) he c1 c2 c3 hi h hm hF' hk hr hb hf
      exact ⟨w', r', k1, k2, k3.head rfl hsk⟩
    | returning => rw [hm] at h; exact stepI_ok he c1 c2 c3 hi h hF hk hr hb hf
    | panicking c => rw [hm] at h; exact stepI_ok he c1 c2 c3 hi h hF hk hr hb hf
theorem forkM_ok (he : EnvOK E) (fuel : Nat) : ∀ n, ForkOK E (forkM E fuel n)
  | 0 => ⟨fun _ => lo_fail, fun h => (rOf_none h).elim⟩
  | n + 1 => forkS_ok he (callW_ok he (runF_ok he fuel)) (roundW_ok (runF_ok he fuel)) (deferW_ok he (runF_ok he fuel)) (forkM_ok he fuel n)
end

/-! ### Calls -/
noncomputable def enterK (E : Env) (f : Nat) (args : List Value) : M AF :=
  M.on (E.fn.get f) fun fn => M.on fn.body fun c => M.chk (Nat.ble args.length fn.ntmps)
    (fN fn.ntmps fun n => fN (Nat.sub (Nat.pow 2 n) 1) fun g => M.pure { fn := f, n, glob := g, tmps := argsT g args 0 .E, todo := [.code c], mode := .run, kind := .normal, roundOf := none })
/-- A call whose frame forks. -/
noncomputable def callK (E : Env) (fuel n f : Nat) (args : List Value) : M Value := within cxN (M.bind (M.bind (enterK E f args) (forkM E fuel n)) fstV)
section
variable {E : Env} {w0 w : World} {r : Inj} {base : List Deferred × List Frame}
theorem enterK_some {f : Nat} {args : List Value} {s s' : St} {af : AF} (h : enterK E f args s = .some af s') : s = s' ∧ ∃ fn c g, E.fn.get f = some fn ∧ fn.body = some c ∧ args.length ≤ fn.ntmps ∧
    af = { fn := f, n := fn.ntmps, glob := g, tmps := argsT g args 0 .E, todo := [.code c], mode := .run, kind := .normal, roundOf := none } := by
  unfold enterK at h
  obtain ⟨fn, h1, h⟩ := on_some h
  obtain ⟨c, h2, h⟩ := on_some h
  obtain ⟨h3, h⟩ := chk_some h
  rw [fN_eq, fN_eq] at h
  obtain ⟨rfl, rfl⟩ := pure_some h
  exact ⟨rfl, fn, c, _, h1, h2, Nat.le_of_ble_eq_true h3, rfl⟩
theorem lo_enterK (f : Nat) (args : List Value) : Loc (enterK E f args) := lo_on _ fun _fn => lo_on _ fun _c => lo_chk _ (lo_fN _ fun _n => lo_fN _ fun _g => lo_pure _)
theorem np_enterK (f : Nat) (args : List Value) : NoPan (enterK E f args) := np_on _ fun _fn => np_on _ fun _c => np_chk _ (np_fN _ fun _n => np_fN _ fun _g => np_pure _)
theorem enterK_ok (he : EnvOK E) {f : Nat} {args args' : List Value} {s s' : St} {af : AF} (h : enterK E f args s = .some af s') (ha : VRs r args args') {cx : Ctx} {cs : List Frame} (hcx : CxR r base cx (Frame.enter E.P f args'.toArray .normal) [] cs) :
    (∀ w, (callFunc f args'.toArray).run E.P w = .ok (.enter f args'.toArray) w) ∧ FR E.P r af cx base (Frame.enter E.P f args'.toArray .normal) cs ∧ s = s' := by
  obtain ⟨rfl, fn, c, g, h1, h2, h3, rfl⟩ := enterK_some h
  obtain ⟨k1, k2⟩ := he.fn f fn h1
  refine ⟨fun w => ?_, ⟨rfl, ?_, ?_, fun _ => ?_, .run, True.intro, fun e => absurd rfl e, fun _ => ⟨fn, k1⟩, hcx⟩, rfl⟩
  · unfold callFunc
    simp [Sem.run, program, k1, k2, h2]
  · simp only [Frame.enter, k1, Option.map_some, Option.getD_some, Array.size_append, List.size_toArray, Array.size_replicate]
    have := ha.1
    omega
  · intro y v e
    rcases argsT_get e with ⟨j, e1, e2, e3⟩ | e
    · obtain ⟨v', q1, q2⟩ := ha.get e2
      refine ⟨e3, v', ?_, q2⟩
      rw [Nat.zero_add] at e1
      subst e1
      simp only [Frame.enter]
      rw [Array.getElem?_append_left (by simpa using (List.getElem?_eq_some_iff.1 q1).1)]
      simpa using q1
    · cases e
  · simp [Frame.enter, k1, h2]
theorem orc_callK (he : EnvOK E) (fuel n f : Nat) : OrcOK E.P f (callK E fuel n f) where
  loc := fun args => lo_within _ (lo_bind (lo_bind (lo_enterK _ _) (forkM_ok he fuel n).loc) fun p => lo_pure _)
  ok := by
    intro w0 w r args args' s out s' h hr hb hf ha
    obtain ⟨s2, e1, rfl⟩ := within_rOf (show within cxN (M.bind (M.bind (enterK E f args) (forkM E fuel n)) fstV) s = rOf out s' from h)
    obtain ⟨af, s1, o, e2, e3, rfl⟩ := fst_rOf (np_enterK _ _) e1
    have hen := fun (c : Frame) (cs : List Frame) => enterK_ok (base := ([], c :: cs)) (cx := cxN) he e2 ha (cs := c :: cs) ⟨⟨rfl, rfl⟩, rfl, .nil⟩
    refine ⟨(hen default []).1, fun c cs => ?_⟩
    obtain ⟨_, hF, rfl⟩ := hen c cs
    obtain ⟨w', r', k1, k2, cs', k3, k4⟩ := (forkM_ok he fuel n).ok e3 hF rfl hr hb hf
    have hcs : cs' = c :: cs := by
      rcases k3 with k3 | ⟨_, _, _, _, _, k, _⟩
      · exact k3.2
      · cases k
    refine ⟨w', r', ⟨k1.le, k1.nxt, k1.domB, k1.domE, k1.rel⟩, k2, rfl, ?_⟩
    cases o with
    | inl p =>
      obtain ⟨v', q1, q2, q3⟩ := k4
      exact ⟨v', q1, q2 c cs hcs⟩
    | inr ch =>
      obtain ⟨ch', q1, q2⟩ := k4
      exact ⟨ch', q1, q2 c cs hcs⟩
/-- A call of anything that the given values stand for, from any world: it returns what is said, if that has no address in it; nothing that was there is touched. -/
theorem calls_fork (he : EnvOK E) {fuel n f : Nat} {args : List Value} {v : Value} (h : valR (callK E fuel n f args st0) = some v) (hp : plain v = true) {args' : Array Value} {K : Know} (ha : VRs (.nil K) args args'.toList) (w : World) (hK : K.sure w) :
    Calls E.P f args' w fun e w' => e = .returned v ∧ Below w.heap.size w w' := by
  intro cs
  obtain ⟨s', h⟩ := valR_some h
  obtain ⟨s2, e1, rfl⟩ := within_rOf (o := .inl v) (show within cxN (M.bind (M.bind (enterK E f args) (forkM E fuel n)) fstV) st0 = rOf (.inl v) s' from h)
  obtain ⟨af, s1, o, e2, e3, e4⟩ := fst_rOf (np_enterK _ _) e1
  obtain ⟨_, hF, rfl⟩ := enterK_ok (r := .nil K) (base := ([], cs)) (cx := cxN) he e2 ha (cs := cs) ⟨⟨rfl, rfl⟩, rfl, .nil⟩
  obtain ⟨w', r', k1, k2, cs', k3, k4⟩ := (forkM_ok he fuel n).ok e3 hF rfl (Rel.empty w hK) (Nat.le_refl _) (fun _ _ _ => ⟨rfl, rfl⟩)
  cases o with
  | inr c => cases e4
  | inl p =>
    cases e4
    obtain ⟨v', q1, q2, q3⟩ := k4
    obtain ⟨fr', x1, x2, x3⟩ := q3 rfl rfl
    have hcs : cs' = cs := by
      rcases k3 with k3 | ⟨_, _, _, _, _, k, _⟩
      · exact k3.2
      · cases k
    subst hcs
    exact ⟨.returned v', w', fr', ⟨by rw [q1.eq_of_plain hp], k1.rel.below⟩, x3, x1, x2⟩
end
end Go.Proofs.YtapgikfhjhebjaaGreatDoor.Am
/- What is not known of a call's arguments, by their types; arguments that read behind a call as before. -/
namespace Go.Proofs.YtapgikfhjhebjaaGreatDoor.Am
open Go.RowKit Go.ChangeShapes

noncomputable def topD (u : TypeDesc) : Value :=
  match u with
  | .bool => .complex .f32 2 0
  | .int k => .complex .f32 1 (kNum k)
  | .string => .complex .f32 4 0
  | .slice _ => .complex .f32 3 0
  | _ => .complex .f32 0 0
noncomputable def topC (P : Program) (t : Nat) : Value :=
  match P.underlying t with
  | some u => topD u
  | none => .complex .f32 0 0
noncomputable def topT (P : Program) (t : Nat) : Option Value :=
  match P.underlying t with
  | some (.struct _) | some (.array _ _) => onO (P.cellTypes P.depth t) fun ts => Bool.rec (motive := fun _ => Option Value) none (some (.agg (ts.map (topC P)).toArray)) (Nat.beq ts.length (P.cellsOf t))
  | _ => some (topC P t)
/-- All that arguments of these types may be. -/
noncomputable def topL (P : Program) (ts : List Nat) : Option (List Value) := List.rec (motive := fun _ => Option (List Value)) (some []) (fun t _ ih => onO (topT P t) fun v => onO ih fun l => some (v :: l)) ts

section
variable {P : Program} {w : World} {rc : Reach} {base : Nat} {r : Inj}
theorem cell_top {t : Nat} {v : Value} (h : Cell.okWide P w rc base t v) : VR r (topC P t) v := by
  unfold topC
  cases hu : P.underlying t with
  | none => unfold Cell.okWide Cell.ok at h; rw [hu] at h; exact h.elim
  | some u =>
    have hone : ∀ {a b : Nat}, TopR r.known a b v → VR r (.complex .f32 a b) v := fun h => .complex h
    cases u <;> cases v <;> simp [Cell.okWide, Cell.ok, hu] at h <;> simp only [topD] <;> first
      | exact hone (show TopR _ 0 0 _ from rfl)
      | exact hone ⟨_, rfl⟩
      | exact hone ⟨_, _, rfl, by rw [h.1]⟩
      | exact hone ⟨_, _, _, rfl⟩
theorem value_top {t : Nat} {v a : Value} (h : Value.okWide P w rc base t v) (ha : topT P t = some a) : VR r a v := by
  have agg : (∃ cs, v = .agg cs ∧ cs.size = P.cellsOf t ∧ Row.okWide P w rc base t cs) →
      (onO (P.cellTypes P.depth t) fun ts => Bool.rec (motive := fun _ => Option Value) none (some (.agg (ts.map (topC P)).toArray)) (Nat.beq ts.length (P.cellsOf t))) = some a → VR r a v := by
    rintro ⟨cs, rfl, hsz, ts, h1, _, h3⟩ ha
    obtain ⟨ts', e1, e2⟩ := onO_some ha
    rw [h1] at e1
    cases e1
    cases hb : Nat.beq ts.length (P.cellsOf t) with
    | false => rw [hb] at e2; cases e2
    | true =>
      rw [hb] at e2
      cases e2
      have hlen : ts.length = cs.size := by rw [hsz]; exact Nat.eq_of_beq_eq_true hb
      refine .agg (by simpa using hlen) fun i x v' q1 q2 => ?_
      obtain ⟨u, q3, q4⟩ := h3 i v' q2
      have hi : i < cs.size := (Array.getElem?_eq_some_iff.1 q2).1
      rw [Nat.mod_eq_of_lt (by rw [hlen]; exact hi)] at q3
      simp only [List.getElem?_toArray, List.getElem?_map, q3, Option.map_some, Option.some.injEq] at q1
      rw [← q1]
      exact cell_top q4
  unfold topT at ha
  unfold Value.okWide at h
  split at ha
  · rename_i e; rw [e] at h; exact agg h ha
  · rename_i e; rw [e] at h; exact agg h ha
  · cases ha
    split at h
    · simp_all
    · simp_all
    · exact cell_top h
theorem topL_ok : ∀ {ts : List Nat} {l vs : List Value}, topL P ts = some l → vs.length = ts.length → (∀ (j : Nat) t v, ts[j]? = some t → vs[j]? = some v → Value.okWide P w rc base t v) → VRs r l vs
  | [], l, vs, h, hl, _ => by
    cases h
    have : vs = [] := List.eq_nil_of_length_eq_zero (by simpa using hl)
    rw [this]
    exact .nil
  | t :: ts, l, [], _, hl, _ => by simp at hl
  | t :: ts, l, v :: vs, h, hl, hv => by
    obtain ⟨a, e1, e2⟩ := onO_some (show onO (topT P t) (fun v => onO (topL P ts) fun l => some (v :: l)) = some l from h)
    obtain ⟨l1, e3, e4⟩ := onO_some e2
    cases e4
    exact .cons (value_top (hv 0 t v rfl rfl) e1) (topL_ok e3 (by simpa using hl) fun j t v q1 q2 => hv (j + 1) t v (by simpa using q1) (by simpa using q2))
end

/-- A type's zero. -/
noncomputable def zeroT (P : Program) (t : Nat) : Value := ((P.info? t).bind (·.zero)).getD .nilFunc
/-- A call with any arguments of its types, from any world. -/
theorem calls_top {E : Env} (he : EnvOK E) {fuel n f : Nat} {fn : Func} {v : Value} {l : List Value} (hl : topL E.P fn.params.toList = some l) (h : valR (callK E fuel n f l st0) = some v) (hp : plain v = true) {w : World} {rc : Reach} {base : Nat} {args : Array Value} (hsz : args.toList.length = fn.params.toList.length)
    (hv : ∀ (j : Nat) t v, fn.params[j]? = some t → args[j]? = some v → Value.okWide E.P w rc base t v) : Calls E.P f args w fun e w' => e = .returned v ∧ Below w.heap.size w w' :=
  calls_fork (K := .no) he h hp (topL_ok hl hsz fun j t v q1 q2 => hv j t v (by simpa using q1) (by simpa using q2)) w (Know.no_sure w)

theorem calls_topP {E : Env} (he : EnvOK E) {P : Program} (hP : E.P = P) {fuel n f : Nat} {fn : Func} {v : Value} {l : List Value} (hl : topL P fn.params.toList = some l) (h : valR (callK E fuel n f l st0) = some v) (hp : plain v = true) {w : World} {base : Nat} {args : Array Value} (hsz : args.toList.length = fn.params.toList.length)
    (hv : ∀ (j : Nat) t v, fn.params[j]? = some t → args[j]? = some v → Value.okWide P w .any base t v) : Calls P f args w fun e w' => e = .returned v ∧ Below w.heap.size w w' := by
  subst hP
  exact calls_top he hl h hp hsz hv

section
variable {H : Type} {enc : TypeId × Value → H} {P : Program} {W W' : World}
/-- Arguments read behind the call as they did before it. -/
theorem below_all (hl : laidOutB P = true) (hb : Below W.heap.size W W') {sp : Nat → Bool} : ∀ {ts : List TypeId} {vs : List Value} {ds : List (DataW H)} {ps : List MemPlace}, (ts.all fun t => P.readableRec t && decide (t < P.types.size)) = true → DataW.TrodAll enc P W 0 (fun _ => true) true ts vs ds ps → (∀ x ∈ ps, x.block < W.heap.size) → (∀ x ∈ ps, sp x.block = true) →
    DataW.TrodAll enc P W' 0 sp true ts vs ds ps
  | [], _, _, _, _, h, _, _ => by
    obtain ⟨rfl, rfl, rfl⟩ := trodAll_nil h
    exact trodAll_mk0
  | t :: ts, _, _, _, hr, h, hlt, hsp => by
    obtain ⟨v, vs, d, ds, p, q, rfl, rfl, rfl, h1, h2⟩ := trodAll_cons h
    rw [List.all_cons, Bool.and_eq_true, Bool.and_eq_true] at hr
    refine ⟨p, q, WideElems.Trod_stays hl hr.1.1 (of_decide_eq_true hr.1.2) h1 (fun x hx => hb.same (hlt x (List.mem_append_left _ hx))) (fun x hx => hsp x (List.mem_append_left _ hx)), ?_, rfl⟩
    exact below_all hl hb hr.2 h2 (fun x hx => hlt x (List.mem_append_right _ hx)) (fun x hx => hsp x (List.mem_append_right _ hx))
end
end Go.Proofs.YtapgikfhjhebjaaGreatDoor.Am
