import Derived.Test.YtchnfdaebboaeaaGreatDoorSFl03
import Derived.Calls
namespace Go.Proofs.YtchnfdaebboaeaaGreatDoor.Am
open Go.RowKit
def TmR (r : Inj) (glob : Nat) (tm : T Value) (tmps : Array Value) : Prop := ∀ t v, T.get tm t = some v → Nat.testBit glob t = true ∧ ∃ v', tmps[t]? = some v' ∧ VR r v v'
structure SlR (r : Inj) (U : Nat → Prop) (ds : List Nat) (rho : Rho) (tm : T Value) (tmps : Array Value) : Prop where
  loc : ∀ (i d : Nat) (v : Value), U d → ds[i]? = some d → rho[i]? = some v → ∃ v', tmps[d]? = some v' ∧ VR r v v'
  tm : ∀ (t : Nat) (v : Value), U t → T.get tm t = some v → ∃ v', tmps[t]? = some v' ∧ VR r v v'
theorem TmR.mono {r r' : Inj} (h : r.le r') {g : Nat} {tm : T Value} {tmps : Array Value} (k : TmR r g tm tmps) : TmR r' g tm tmps := fun t v e => let ⟨q, v', a, b⟩ := k t v e; ⟨q, v', a, b.mono h⟩
theorem SlR.mono {r r' : Inj} (h : r.le r') {U : Nat → Prop} {ds : List Nat} {rho : Rho} {tm : T Value} {tmps : Array Value} (k : SlR r U ds rho tm tmps) : SlR r' U ds rho tm tmps :=
 ⟨fun i d v u a b => let ⟨v', p, q⟩ := k.loc i d v u a b; ⟨v', p, q.mono h⟩, fun t v u a => let ⟨v', p, q⟩ := k.tm t v u a; ⟨v', p, q.mono h⟩⟩
theorem SD (l : Rho) : nth0 l = l[0]? := by cases l <;> rfl
theorem NQ : ∀ (d : Nat), ∃ g, nthC d = .mk g ∧ ∀ l, g l = l[d]?
 | 0 => ⟨nth0, rfl, SD⟩
 | d + 1 => by
   obtain ⟨g, h1, h2⟩ := NQ d
   refine ⟨fun l => List.rec (motive := fun _ => Option Value) none (fun _ r _ => g r) l, ?_, fun l => ?_⟩
   · show Cl.rec (motive := fun _ => Cl (Rho → Option Value)) (fun g => .mk fun l => List.rec (motive := fun _ => Option Value) none (fun _ r _ => g r) l) (nthC d) = _
     rw [h1]
   · cases l with
     | nil => rfl
     | cons v l => exact h2 l
theorem KC {t : Nat} : ∀ {ds : List Nat} {n : Nat}, EP t ds = some n → ds[n]? = some t
 | [], n, h => by cases h
 | d :: ds, n, h => by
   have h0 : Bool.rec (motive := fun _ => Option Nat) (Option.rec (motive := fun _ => Option Nat) none (fun n => some (Nat.succ n)) (EP t ds)) (some 0) (Nat.beq d t) = some n := h
   cases e : Nat.beq d t with
   | true =>
     rw [e] at h0
     cases h0
     rw [← Nat.eq_of_beq_eq_true e]; rfl
   | false =>
     rw [e] at h0
     cases e2 : EP t ds with
     | none => rw [e2] at h0; cases h0
     | some m =>
       rw [e2] at h0
       cases h0
       have := KC (ds := ds) e2
       simpa using this
def GH {α β : Type} (c : Cl (G α)) (ds : List Nat) (us : List Operand) (R : Inj → α → β → Prop) (f : Act → β) : Prop :=
  ∃ g, c = .mk g ∧ ∀ r U rho tm a v, SlR r U ds rho tm a.tmps → (∀ t, Operand.tmp t ∈ us → U t) → g rho tm = some v → R r v (f a)
theorem DA_ (ds : List Nat) (t : Nat) : GH (Ms ds t) ds [.tmp t] VR (fun a => a.eval (.tmp t)) := by
 unfold Ms
 cases e : EP t ds with
 | none =>
   refine ⟨_, rfl, fun r U rho tm a v hs hu h => ?_⟩
   obtain ⟨v', h1, h2⟩ := hs.tm t v (hu t (by simp)) h
   simp only [Act.eval, Array.getD_eq_getD_getElem?, h1]
   exact h2
 | some d =>
   obtain ⟨g, h1, h2⟩ := NQ d
   simp only [h1]
   refine ⟨_, rfl, fun r U rho tm a v hs hu h => ?_⟩
   rw [h2] at h
   obtain ⟨v', h3, h4⟩ := hs.loc d t v (hu t (by simp)) (KC e) h
   simp only [Act.eval, Array.getD_eq_getD_getElem?, h3]
   exact h4
theorem A1 (ds : List Nat) (x : Operand) : GH (Bq ds x) ds [x] VR (fun a => a.eval x) := by
 cases x with
 | tmp t => exact DA_ ds t
 | const v =>
   unfold Bq
   simp only
   cases e : plain v with
   | false => exact ⟨_, rfl, fun r U rho tm a v hs hu h => by cases h⟩
   | true => exact ⟨_, rfl, fun r U rho tm a v hs hu h => by cases h; exact .of_plain e⟩
 | global g => exact ⟨_, rfl, fun r U rho tm a v hs hu h => by cases h⟩
 | func f => exact ⟨_, rfl, fun r U rho tm a v hs hu h => by cases h; exact .func rfl rfl (fun i v v' e => by simp at e) rfl (fun i v v' e => by simp at e)⟩
theorem CU (ds : List Nat) : ∀ (l : List Operand), GH (Dp ds l) ds l VRs (fun a => l.map a.eval)
 | [] => ⟨_, rfl, fun r U rho tm a v hs hu h => by cases h; exact .nil⟩
 | x :: l => by
   obtain ⟨g, h1, h2⟩ := A1 ds x
   obtain ⟨g', h3, h4⟩ := CU ds l
   have h0 : Dp ds (x :: l) = Cl.rec (motive := fun _ => Cl (G (List Value))) (fun g => Cl.rec (motive := fun _ => Cl (G (List Value))) (fun h => .mk fun r tm => onO (g r tm) fun v => onO (h r tm) fun l => some (v :: l)) (Dp ds l)) (Bq ds x) := rfl
   rw [h0, h1, h3]
   refine ⟨_, rfl, fun r U rho tm a v hs hu h => ?_⟩
   obtain ⟨y, e1, e2⟩ := C2 h
   obtain ⟨ys, e3, e4⟩ := C2 e2
   cases e4
   exact .cons (h2 r U rho tm a y hs (fun t q => hu t (by simp at q ⊢; simp [q])) e1) (h4 r U rho tm a ys hs (fun t q => hu t (by simp at q ⊢; simp [q])) e3)
theorem Lw (ds : List Nat) : ∀ (l : List (Nat × Operand)), GH (HH ds l) ds (l.map (·.2)) PRs (fun a => l.map fun p => (p.1, a.eval p.2))
 | [] => ⟨_, rfl, fun r U rho tm a v hs hu h => by cases h; exact True.intro⟩
 | x :: l => by
   obtain ⟨g, h1, h2⟩ := A1 ds x.2
   obtain ⟨g', h3, h4⟩ := Lw ds l
   have h0 : HH ds (x :: l) = Cl.rec (motive := fun _ => Cl (G (List (Nat × Value)))) (fun g => Cl.rec (motive := fun _ => Cl (G (List (Nat × Value)))) (fun h => .mk fun r tm => onO (g r tm) fun v => onO (h r tm) fun l => some ((x.1, v) :: l)) (HH ds l)) (Bq ds x.2) := rfl
   rw [h0, h1, h3]
   refine ⟨_, rfl, fun r U rho tm a v hs hu h => ?_⟩
   obtain ⟨y, e1, e2⟩ := C2 h
   obtain ⟨ys, e3, e4⟩ := C2 e2
   cases e4
   exact ⟨rfl, h2 r U rho tm a y hs (fun t q => hu t (by simp at q ⊢; simp [q])) e1, h4 r U rho tm a ys hs (fun t q => hu t (by simp at q ⊢; simp [q])) e3⟩
theorem JM (ds : List Nat) (x : Option Operand) : GH (IE ds x) ds x.toList VRo (fun a => x.map a.eval) := by
 cases x with
 | none => exact ⟨_, rfl, fun r U rho tm a v hs hu h => by cases h; exact True.intro⟩
 | some x =>
   obtain ⟨g, h1, h2⟩ := A1 ds x
   have h0 : IE ds (some x) = Cl.rec (motive := fun _ => Cl (G (Option Value))) (fun g => .mk fun r tm => onO (g r tm) fun v => some (some v)) (Bq ds x) := rfl
   rw [h0, h1]
   refine ⟨_, rfl, fun r U rho tm a v hs hu h => ?_⟩
   obtain ⟨y, e1, e2⟩ := C2 h
   cases e2
   exact h2 r U rho tm a y hs (fun t q => hu t (by simp at q ⊢; simp [q])) e1
structure NoPan {α : Type} (m : M α) : Prop where
  no : ∀ s c s', m s = .pan c s' → False
theorem Ag {α : Type} (a : α) : NoPan (M.pure a) := ⟨fun s c s' h => by cases h⟩
theorem Aj {α : Type} : NoPan (M.fail : M α) := ⟨fun s c s' h => by cases h⟩
theorem Aw {α : Type} (x : Option α) : NoPan (M.ofOpt x) := ⟨fun s c s' h => by cases x <;> cases h⟩
theorem Ac {α β : Type} {m : M α} {f : α → M β} (h : NoPan m) (k : ∀ a, NoPan (f a)) : NoPan (M.bind m f) := ⟨fun s c s' e => by
 rcases Ip e with e | ⟨a, s1, _, e⟩
 · exact h.no _ _ _ e
 · exact (k a).no _ _ _ e⟩
theorem An {α : Type} (b : Bool) {m : M α} (h : NoPan m) : NoPan (M.chk b m) := ⟨fun s c s' e => by
 cases b with
 | false => cases e
 | true => exact h.no _ _ _ e⟩
theorem AC {α : Type} (b : Bool) {m n : M α} (h : NoPan m) (k : NoPan n) : NoPan (M.if b m n) := by cases b <;> assumption
theorem Ai {α β : Type} (x : Option α) {f : α → M β} (k : ∀ a, NoPan (f a)) : NoPan (M.on x f) := by
 cases x with
 | none => exact Aj
 | some a => exact k a
theorem As {α : Type} (n : Nat) {f : Nat → M α} (k : ∀ a, NoPan (f a)) : NoPan (fN n f) := by rw [AG]; exact k _
theorem AA {α : Type} (n : Int) {f : Int → M α} (k : ∀ a, NoPan (f a)) : NoPan (fI n f) := by rw [BP]; exact k _
theorem Ay {α : Type} (n : Addr) {f : Addr → M α} (k : ∀ a, NoPan (f a)) : NoPan (fA n f) := by rw [Cf]; exact k _
theorem AE {α : Type} (v : Value) {f : IntKind → Int → M α} {d : M α} (h : ∀ k n, NoPan (f k n)) (k : NoPan d) : NoPan (BV v f d) := by
 cases v <;> first | exact h _ _ | exact k
theorem AD {α : Type} (b : Bool) {m n : M α} (h : NoPan m) (k : NoPan n) : NoPan (Bool.rec (motive := fun _ => M α) m n b) := by cases b <;> assumption
theorem AB {α β : Type} (x : Option α) {m : M β} {f : α → M β} (h : NoPan m) (k : ∀ a, NoPan (f a)) : NoPan (Option.rec (motive := fun _ => M β) m (fun a => f a) x) := by
 cases x with
 | none => exact h
 | some a => exact k a
theorem B7 (loc : Nat) : NoPan (rdC loc) := .mk fun s c s' h => by
 obtain ⟨mem, next, lim, rd, wr, cx⟩ := s
 unfold rdC at h
 simp only at h
 cases hb : Nat.blt loc next <;> rw [hb] at h
 · cases h
 · cases e : T.get mem loc <;> rw [e] at h <;> cases h
theorem BT (loc : Nat) (x : Cell) : NoPan (wrC loc x) := .mk fun s c s' h => by
 obtain ⟨mem, next, lim, rd, wr, cx⟩ := s
 unfold wrC at h
 obtain ⟨v, l, r, e⟩ := T.set_N mem loc x
 simp only [e] at h
 cases hb : Nat.blt loc next <;> rw [hb] at h <;> cases h
theorem BX_ (loc : Nat) : NoPan (delC loc) := .mk fun s c s' h => by
 obtain ⟨mem, next, lim, rd, wr, cx⟩ := s
 unfold delC at h
 simp only at h
 cases hb : Nat.blt loc next <;> rw [hb] at h <;> cases h
theorem EU (vs : List Value) : NoPan (newL vs) := .mk fun s c s' h => by
 obtain ⟨mem, next, lim, rd, wr, cx⟩ := s
 have h0 : newL vs ⟨mem, next, lim, rd, wr, cx⟩ = fN next fun b => fN (Nat.succ (Nat.add b vs.length)) fun n => R.some b (St.mk (layL b vs b mem) n lim rd wr cx) := rfl
 rw [h0, AG, AG] at h
 cases h
theorem It (o : AObj) : NoPan (newO o) := .mk fun s c s' h => by
 obtain ⟨mem, next, lim, rd, wr, cx⟩ := s
 have h0 : newO o ⟨mem, next, lim, rd, wr, cx⟩ = fN next fun b => fN (Nat.succ b) fun n => R.some b (St.mk (T.set mem b (.O o)) n lim rd wr cx) := rfl
 rw [h0, AG, AG] at h
 cases h
theorem Tz : NoPan getCx := .mk fun s c s' h => by
 obtain ⟨mem, next, lim, rd, wr, cx⟩ := s
 cases h
theorem UA (x : Ctx) : NoPan (putCx x) := .mk fun s c s' h => by
 obtain ⟨mem, next, lim, rd, wr, cx⟩ := s
 cases h
theorem D5 (a : Addr) : NoPan (rdV a) := by
 obtain ⟨b, o, s⟩ := a
 cases s with
 | some x => exact Aj
 | none => exact Ac (B7 _) fun c => Aw _
theorem OU (a : Addr) (v : Value) : NoPan (wrV a v) := by
 obtain ⟨b, o, s⟩ := a
 cases s with
 | some x => exact Aj
 | none => exact Ac (B7 _) fun c => An _ (BT _ _)
theorem EM : ∀ (n : Nat) (a : Addr), NoPan (rdL n a)
 | 0, _ => Ag _
 | n + 1, a => by
   have h0 : rdL (n + 1) a = fA a fun a => M.bind (rdV a) fun v => M.bind (rdL n ⟨a.block, Nat.succ a.off, a.spot⟩) fun l => M.pure (v :: l) := rfl
   rw [h0]
   exact Ay _ fun a => Ac (D5 a) fun v => Ac (EM n _) fun l => Ag _
theorem Gr : ∀ (vs : List Value) (a : Addr), NoPan (wrL vs a)
 | [], _ => Ag _
 | v :: vs, a => by
   have h0 : wrL (v :: vs) a = fA a fun a => M.bind (wrV a v) fun _ => wrL vs ⟨a.block, Nat.succ a.off, a.spot⟩ := rfl
   rw [h0]
   exact Ay _ fun a => Ac (OU a v) fun v => Gr vs _
theorem Nh : ∀ (n l : Nat), NoPan (Ch n l)
 | 0, _ => Ag _
 | n + 1, l => by
   have h0 : Ch (n + 1) l = M.bind (delC l) fun _ => Ch n (l + 1) := rfl
   rw [h0]
   exact Ac (BX_ l) fun _ => Nh n _
theorem AZ (x0 : _) (x1 : _) : NoPan (ti x0 x1) := by
 unfold ti
 repeat' (first | exact Ag _ | exact Aj | exact Aw _ | apply Ac | apply An | apply AC | apply Ai | apply As | apply AA | apply Ay | apply AE | apply AD | apply AB | intro _ | split)
theorem GX (x0 : _) : NoPan (pV x0) := by
 unfold pV
 repeat' (first | exact Ag _ | exact Aj | exact Aw _ | apply Ac | apply An | apply AC | apply Ai | apply As | apply AA | apply Ay | apply AE | apply AD | apply AB | intro _ | split)
theorem Bp_ (x0 : _) (x1 : _) (x2 : _) (x3 : _) (x4 : _) : NoPan (Ew x0 x1 x2 x3 x4) := by
 unfold Ew
 repeat' (first | exact Ag _ | exact Aj | exact Aw _ | exact AZ _ _ | apply Ac | apply An | apply AC | apply Ai | apply As | apply AA | apply Ay | apply AE | apply AD | apply AB | intro _ | split)
theorem T8 (x0 : _) (x1 : _) : NoPan (E5 x0 x1) := by
 unfold E5
 repeat' (first | exact Ag _ | exact Aj | exact Aw _ | apply Ac | apply An | apply AC | apply Ai | apply As | apply AA | apply Ay | apply AE | apply AD | apply AB | intro _ | split)
theorem Tp (x0 : _) (x1 : _) (x2 : _) : NoPan (Fv x0 x1 x2) := by
 unfold Fv
 repeat' (first | exact Ag _ | exact Aj | exact Aw _ | exact T8 _ _ | apply Ac | apply An | apply AC | apply Ai | apply As | apply AA | apply Ay | apply AE | apply AD | apply AB | intro _ | split)
theorem Bt_ (x0 : _) (x1 : _) (x2 : _) : NoPan (neOp x0 x1 x2) := by
 unfold neOp
 refine Ai _ fun n => An _ ?_
 split
 · exact Ag _
 · exact Ag _
 · exact Aj
theorem Ve (x0 : _) (x1 : _) (x2 : _) (x3 : _) (x4 : _) (x5 : _) (x6 : _) : NoPan (AV x0 x1 x2 x3 x4 x5 x6) := by
 unfold AV
 repeat' (first | exact Ag _ | exact Aj | exact Aw _ | exact Tp _ _ _ | exact Bt_ _ _ _ | exact Bp_ _ _ _ _ _ | exact GX _ | apply Ac | apply An | apply AC | apply Ai | apply As | apply AA | apply Ay | apply AE | apply AD | apply AB | intro _ | split)
theorem Xp (x0 : _) : NoPan (lenOf x0) := by
 unfold lenOf
 repeat' (first | exact Ag _ | exact Aj | exact Aw _ | apply Ac | apply An | apply AC | apply Ai | apply As | apply AA | apply Ay | apply AE | apply AD | apply AB | intro _ | split)
theorem NT (x0 : _) (x1 : _) (x2 : _) : NoPan (Ed x0 x1 x2) := by
 unfold Ed
 repeat' (first | exact Ag _ | exact Aj | exact Aw _ | exact AZ _ _ | exact EM _ _ | exact D5 _ | apply Ac | apply An | apply AC | apply Ai | apply As | apply AA | apply Ay | apply AE | apply AD | apply AB | intro _ | split)
theorem EG_ (x0 : _) (x1 : _) (x2 : _) (x3 : _) : NoPan (Fm x0 x1 x2 x3) := by
 unfold Fm
 repeat' (first | exact Ag _ | exact Aj | exact Aw _ | exact AZ _ _ | exact Gr _ _ | apply Ac | apply An | apply AC | apply Ai | apply As | apply AA | apply Ay | apply AE | apply AD | apply AB | intro _ | split)
theorem FV (x0 : _) : NoPan (asA x0) := by
 unfold asA
 repeat' (first | exact Ag _ | exact Aj | exact Aw _ | apply Ac | apply An | apply AC | apply Ai | apply As | apply AA | apply Ay | apply AE | apply AD | apply AB | intro _ | split)
theorem IL (x0 : _) (x1 : _) (x2 : _) : NoPan (bnd x0 x1 x2) := by
 unfold bnd
 repeat' (first | exact Ag _ | exact Aj | exact Aw _ | apply Ac | apply An | apply AC | apply Ai | apply As | apply AA | apply Ay | apply AE | apply AD | apply AB | intro _ | split)
theorem KG (x0 : _) : NoPan (ptrA x0) := by
 unfold ptrA
 repeat' (first | exact Ag _ | exact Aj | exact Aw _ | apply Ac | apply An | apply AC | apply Ai | apply As | apply AA | apply Ay | apply AE | apply AD | apply AB | intro _ | split)
theorem GB (x0 : _) (x1 : _) (x2 : _) : NoPan (pSl x0 x1 x2) := by
 unfold pSl
 repeat' (first | exact Ag _ | exact Aj | exact Aw _ | apply Ac | apply An | apply AC | apply Ai | apply As | apply AA | apply Ay | apply AE | apply AD | apply AB | intro _ | split)
theorem Ik (x0 : _) : NoPan (pN x0) := by
 unfold pN
 repeat' (first | exact Ag _ | exact Aj | exact Aw _ | apply Ac | apply An | apply AC | apply Ai | apply As | apply AA | apply Ay | apply AE | apply AD | apply AB | intro _ | split)
theorem YL (x0 : _) (x1 : _) (x2 : _) (x3 : _) (x4 : _) : NoPan (Ek x0 x1 x2 x3 x4) := by
 unfold Ek
 repeat' (first | exact Ag _ | exact Aj | exact Aw _ | exact GB _ _ _ | exact IL _ _ _ | apply Ac | apply An | apply AC | apply Ai | apply As | apply AA | apply Ay | apply AE | apply AD | apply AB | intro _ | split)
theorem TU (x0 : _) (x1 : _) (x2 : _) (x3 : _) (x4 : _) (x5 : _) : NoPan (slSl x0 x1 x2 x3 x4 x5) := by
 unfold slSl
 repeat' (first | exact Ag _ | exact Aj | exact Aw _ | exact GB _ _ _ | exact IL _ _ _ | apply Ac | apply An | apply AC | apply Ai | apply As | apply AA | apply Ay | apply AE | apply AD | apply AB | intro _ | split)
theorem FW_ (x0 : _) (x1 : _) (x2 : _) : NoPan (Fe x0 x1 x2) := by
 unfold Fe
 repeat' (first | exact Ag _ | exact Aj | exact Aw _ | exact IL _ _ _ | apply Ac | apply An | apply AC | apply Ai | apply As | apply AA | apply Ay | apply AE | apply AD | apply AB | intro _ | split)
theorem Z1 (x0 : _) (x1 : _) (x2 : _) (x3 : _) (x4 : _) : NoPan (BM x0 x1 x2 x3 x4) := by
 unfold BM
 repeat' (first | exact Ag _ | exact Aj | exact Aw _ | exact FW_ _ _ _ | exact TU _ _ _ _ _ _ | exact YL _ _ _ _ _ | exact IL _ _ _ | exact AZ _ _ | apply Ac | apply An | apply AC | apply Ai | apply As | apply AA | apply Ay | apply AE | apply AD | apply AB | intro _ | split)
theorem N9 (x0 : _) (x1 : _) (x2 : _) : NoPan (srcL x0 x1 x2) := by
 unfold srcL
 repeat' (first | exact Ag _ | exact Aj | exact Aw _ | exact EM _ _ | apply Ac | apply An | apply AC | apply Ai | apply As | apply AA | apply Ay | apply AE | apply AD | apply AB | intro _ | split)
theorem WW (x0 : _) (x1 : _) (x2 : _) : NoPan (appN x0 x1 x2) := by
 unfold appN
 repeat' (first | exact Ag _ | exact Aj | exact Aw _ | apply Ac | apply An | apply AC | apply Ai | apply As | apply AA | apply Ay | apply AE | apply AD | apply AB | intro _ | split)
theorem WG (x0 : _) (x1 : _) (x2 : _) (x3 : _) : NoPan (appL x0 x1 x2 x3) := by
 unfold appL
 repeat' (first | exact Ag _ | exact Aj | exact Aw _ | exact N9 _ _ _ | apply Ac | apply An | apply AC | apply Ai | apply As | apply AA | apply Ay | apply AE | apply AD | apply AB | intro _ | split)
theorem CI_ (x0 : _) (x1 : _) (x2 : _) : NoPan (oldL x0 x1 x2) := by
 unfold oldL
 repeat' (first | exact Ag _ | exact Aj | exact Aw _ | exact EM _ _ | apply Ac | apply An | apply AC | apply Ai | apply As | apply AA | apply Ay | apply AE | apply AD | apply AB | intro _ | split)
theorem XH (x0 : _) (x1 : _) (x2 : _) : NoPan (Ep x0 x1 x2) := by
 unfold Ep
 repeat' (first | exact Ag _ | exact Aj | exact Aw _ | exact Nh _ _ | apply Ac | apply An | apply AC | apply Ai | apply As | apply AA | apply Ay | apply AE | apply AD | apply AB | intro _ | split)
theorem Bm_ (x0 : _) (x1 : _) (x2 : _) (x3 : _) : NoPan (CC x0 x1 x2 x3) := by
 unfold CC
 repeat' (first | exact Ag _ | exact Aj | exact Aw _ | exact XH _ _ _ | exact BT _ _ | exact B7 _ | apply Ac | apply An | apply AC | apply Ai | apply As | apply AA | apply Ay | apply AE | apply AD | apply AB | intro _ | split)
theorem Zv (x0 : _) (x1 : _) (x2 : _) (x3 : _) (x4 : _) (x5 : _) (x6 : _) (x7 : _) : NoPan (grow x0 x1 x2 x3 x4 x5 x6 x7) := by
 unfold grow
 repeat' (first | exact Ag _ | exact Aj | exact Aw _ | exact Bm_ _ _ _ _ | exact CI_ _ _ _ | exact GB _ _ _ | exact EU _ | exact BT _ _ | apply Ac | apply An | apply AC | apply Ai | apply As | apply AA | apply Ay | apply AE | apply AD | apply AB | intro _ | split)
theorem Fe_ (x0 : _) (x1 : _) (x2 : _) (x3 : _) (x4 : _) (x5 : _) : NoPan (D7 x0 x1 x2 x3 x4 x5) := by
 unfold D7
 repeat' (first | exact Ag _ | exact Aj | exact Aw _ | exact GB _ _ _ | exact Gr _ _ | apply Ac | apply An | apply AC | apply Ai | apply As | apply AA | apply Ay | apply AE | apply AD | apply AB | intro _ | split)
theorem Xn (x0 : _) (x1 : _) (x2 : _) (x3 : _) (x4 : _) : NoPan (BR x0 x1 x2 x3 x4) := by
 unfold BR
 repeat' (first | exact Ag _ | exact Aj | exact Aw _ | exact Fe_ _ _ _ _ _ _ | exact Zv _ _ _ _ _ _ _ _ | exact WG _ _ _ _ | exact WW _ _ _ | exact AZ _ _ | apply Ac | apply An | apply AC | apply Ai | apply As | apply AA | apply Ay | apply AE | apply AD | apply AB | intro _ | split)
theorem Tb (x0 : _) (x1 : _) (x2 : _) : NoPan (Cv x0 x1 x2) := by
 unfold Cv
 repeat' (first | exact Ag _ | exact Aj | exact Aw _ | exact AZ _ _ | apply Ac | apply An | apply AC | apply Ai | apply As | apply AA | apply Ay | apply AE | apply AD | apply AB | intro _ | split)
theorem ZU (x0 : _) (x1 : _) (x2 : _) (x3 : _) : NoPan (CS x0 x1 x2 x3) := by
 unfold CS
 repeat' (first | exact Ag _ | exact Aj | exact Aw _ | exact AZ _ _ | exact EU _ | exact BT _ _ | apply Ac | apply An | apply AC | apply Ai | apply As | apply AA | apply Ay | apply AE | apply AD | apply AB | intro _ | split)
theorem LP (x0 : _) (x1 : _) (x2 : _) (x3 : _) : NoPan (CB x0 x1 x2 x3) := by
 unfold CB
 repeat' (first | exact Ag _ | exact Aj | exact Aw _ | exact AZ _ _ | apply Ac | apply An | apply AC | apply Ai | apply As | apply AA | apply Ay | apply AE | apply AD | apply AB | intro _ | split)
theorem CR_ (x0 : _) (x1 : _) (x2 : _) (x3 : _) (x4 : _) : NoPan (EW x0 x1 x2 x3 x4) := by
 unfold EW
 repeat' (first | exact Ag _ | exact Aj | exact Aw _ | exact N9 _ _ _ | exact Ik _ | exact Xp _ | exact AZ _ _ | exact Gr _ _ | apply Ac | apply An | apply AC | apply Ai | apply As | apply AA | apply Ay | apply AE | apply AD | apply AB | intro _ | split)
theorem DY (x0 : _) : NoPan (mapAt x0) := by
 unfold mapAt
 repeat' (first | exact Ag _ | exact Aj | exact Aw _ | exact B7 _ | apply Ac | apply An | apply AC | apply Ai | apply As | apply AA | apply Ay | apply AE | apply AD | apply AB | intro _ | split)
theorem SS (x0 : _) : NoPan (DO x0) := by
 unfold DO
 repeat' (first | exact Ag _ | exact Aj | exact Aw _ | exact DY _ | exact Ik _ | apply Ac | apply An | apply AC | apply Ai | apply As | apply AA | apply Ay | apply AE | apply AD | apply AB | intro _ | split)
theorem GA_ (x0 : _) (x1 : _) (x2 : _) : NoPan (aLen x0 x1 x2) := by
 unfold aLen
 repeat' (first | exact Ag _ | exact Aj | exact Aw _ | exact SS _ | exact Ik _ | exact AZ _ _ | apply Ac | apply An | apply AC | apply Ai | apply As | apply AA | apply Ay | apply AE | apply AD | apply AB | intro _ | split)
theorem BY_ (x0 : _) (x1 : _) (x2 : _) : NoPan (aCap x0 x1 x2) := by
 unfold aCap
 repeat' (first | exact Ag _ | exact Aj | exact Aw _ | exact Ik _ | exact AZ _ _ | apply Ac | apply An | apply AC | apply Ai | apply As | apply AA | apply Ay | apply AE | apply AD | apply AB | intro _ | split)
theorem V0 (x0 : _) (x1 : _) (x2 : _) : NoPan (FY x0 x1 x2) := by
 unfold FY
 repeat' (first | exact Ag _ | exact Aj | exact Aw _ | exact AZ _ _ | exact Gr _ _ | apply Ac | apply An | apply AC | apply Ai | apply As | apply AA | apply Ay | apply AE | apply AD | apply AB | intro _ | split)
theorem Pe (x0 : _) : NoPan (zeroV x0) := by
 unfold zeroV
 repeat' (first | exact Ag _ | exact Aj | exact Aw _ | apply Ac | apply An | apply AC | apply Ai | apply As | apply AA | apply Ay | apply AE | apply AD | apply AB | intro _ | split)
theorem FS (E : _) (e : _) (t : _) (k : _) (es : _) : NoPan (BX E e t k es) := An _ (Ai _ fun _ => Ag _)
theorem MW (x0 : _) (x1 : _) (x2 : _) : NoPan (CW x0 x1 x2) := by
 unfold CW
 repeat' (first | exact Ag _ | exact Aj | exact Aw _ | apply Ac | apply An | apply AC | apply Ai | apply As | apply AA | apply Ay | apply AE | apply AD | apply AB | intro _ | split)
theorem KS (x0 : _) (x1 : _) : NoPan (zeroOf x0 x1) := by
 unfold zeroOf
 repeat' (first | exact Ag _ | exact Aj | exact Aw _ | exact Pe _ | exact AZ _ _ | apply Ac | apply An | apply AC | apply Ai | apply As | apply AA | apply Ay | apply AE | apply AD | apply AB | intro _ | split)
theorem Ce_ (E : _) (a : _) (b : _) (k : _) (c : _) : NoPan (MR E a b k c) := Ac (FS _ _ _ _ _) fun r => by
   cases r with
   | none => exact Ac (KS _ _) fun _ => MW _ _ _
   | some j => exact Aj
theorem VD (E : _) (a : _) (b : _) (k : _) (c : _) (es : _) : NoPan (CV E a b k c es) := Ac (FS _ _ _ _ _) fun r => by
   cases r with
   | none => exact Ac (KS _ _) fun _ => MW _ _ _
   | some j => exact Ai _ fun _ => MW _ _ _
theorem GU (x0 : _) (x1 : _) : NoPan (mapT x0 x1) := by
 unfold mapT
 repeat' (first | exact Ag _ | exact Aj | exact Aw _ | exact AZ _ _ | apply Ac | apply An | apply AC | apply Ai | apply As | apply AA | apply Ay | apply AE | apply AD | apply AB | intro _ | split)
theorem XS (E : _) (t : _) (c : _) (x : _) (k : _) : NoPan (DL E t c x k) := Ac (GU _ _) fun ke => by
   cases x with
   | map m =>
     cases m with
     | none => exact Ce_ _ _ _ _ _
     | some l => exact Ac (DY _) fun p => VD _ _ _ _ _ _
   | _ => exact Aj
theorem TO (E : _) (t : _) (k : _) (x : _) (l : _) (p : _) : NoPan (putE E t k x l p) := Ac (FS _ _ _ _ _) fun r => by
   cases r with
   | none => exact BT _ _
   | some j => exact Ai _ fun _ => An _ (BT _ _)
theorem Qk (E : _) (t : _) (m : _) (k : _) (x : _) : NoPan (DF E t m k x) := Ac (GU _ _) fun ke => by
   cases m with
   | map m =>
     cases m with
     | none => exact Aj
     | some l => exact Ac (DY _) fun p => Ac (TO _ _ _ _ _ _) fun _ => Ag _
   | _ => exact Aj
theorem Df_ (E : _) (a : _) (b : _) (k : _) (l : _) (p : _) : NoPan (entE E a b k l p) := Ac (FS _ _ _ _ _) fun r => by
   cases r with
   | none => exact Ac (KS _ _) fun _ => Ac (BT _ _) fun _ => Ag _
   | some j => exact Ai _ fun _ => An _ (Ac (BT _ _) fun _ => Ag _)
theorem Cc_ (E : _) (t : _) (m : _) (k : _) : NoPan (GE E t m k) := Ac (GU _ _) fun ke => by
   cases m with
   | map m =>
     cases m with
     | none => exact Aj
     | some l => exact Ac (DY _) fun p => Df_ _ _ _ _ _ _
   | _ => exact Aj
theorem Vy (x0 : _) (x1 : _) (x2 : _) : NoPan (DN x0 x1 x2) := by
 unfold DN
 repeat' (first | exact Ag _ | exact Aj | exact Aw _ | exact DY _ | exact BT _ _ | apply Ac | apply An | apply AC | apply Ai | apply As | apply AA | apply Ay | apply AE | apply AD | apply AB | intro _ | split)
theorem Q9 : NoPan (C8) := by
 unfold C8
 repeat' (first | exact Ag _ | exact Aj | exact Aw _ | exact It _ | apply Ac | apply An | apply AC | apply Ai | apply As | apply AA | apply Ay | apply AE | apply AD | apply AB | intro _ | split)
theorem Bc_ (x0 : _) (x1 : _) (x2 : _) : NoPan (Eo x0 x1 x2) := by
 unfold Eo
 repeat' (first | exact Ag _ | exact Aj | exact Aw _ | exact Q9 | exact GU _ _ | apply Ac | apply An | apply AC | apply Ai | apply As | apply AA | apply Ay | apply AE | apply AD | apply AB | intro _ | split)
theorem CT_ (E : _) (t : _) (m : _) (k : _) : NoPan (kDel E t m k) := Ac (GU _ _) fun ke => by
   cases m with
   | map m =>
     cases m with
     | none => exact Ac (FS _ _ _ _ _) fun _ => Ag _
     | some l => exact Ac (DY _) fun p => Ac (FS _ _ _ _ _) fun r => by cases r <;> exact Ac (BT _ _) fun _ => Ag _
   | _ => exact Aj
theorem CW_ (x0 : _) (x1 : _) (x2 : _) (x3 : _) : NoPan (Bt x0 x1 x2 x3) := by
 unfold Bt
 repeat' (first | exact Ag _ | exact Aj | exact Aw _ | exact CT_ _ _ _ _ | exact V0 _ _ _ | exact BY_ _ _ _ | exact GA_ _ _ _ | exact CR_ _ _ _ _ _ | exact Xn _ _ _ _ _ | exact GX _ | apply Ac | apply An | apply AC | apply Ai | apply As | apply AA | apply Ay | apply AE | apply AD | apply AB | intro _ | split)
theorem AD_ (x0 : _) (x1 : _) (x2 : _) (x3 : _) : NoPan (idxN x0 x1 x2 x3) := by
 unfold idxN
 repeat' (first | exact Ag _ | exact Aj | exact Aw _ | exact KG _ | exact AZ _ _ | apply Ac | apply An | apply AC | apply Ai | apply As | apply AA | apply Ay | apply AE | apply AD | apply AB | intro _ | split)
theorem Lc (x0 : _) : NoPan (asN x0) := by
 unfold asN
 repeat' (first | exact Ag _ | exact Aj | exact Aw _ | apply Ac | apply An | apply AC | apply Ai | apply As | apply AA | apply Ay | apply AE | apply AD | apply AB | intro _ | split)
theorem ZX (x0 : _) (x1 : _) (x2 : _) : NoPan (Cd x0 x1 x2) := by
 unfold Cd
 repeat' (first | exact Ag _ | exact Aj | exact Aw _ | apply Ac | apply An | apply AC | apply Ai | apply As | apply AA | apply Ay | apply AE | apply AD | apply AB | intro _ | split)
theorem P1 (x0 : _) : NoPan (ptrN x0) := by
 unfold ptrN
 repeat' (first | exact Ag _ | exact Aj | exact Aw _ | apply Ac | apply An | apply AC | apply Ai | apply As | apply AA | apply Ay | apply AE | apply AD | apply AB | intro _ | split)
theorem S4 (x0 : _) (x1 : _) : NoPan (BZ x0 x1) := by
 unfold BZ
 repeat' (first | exact Ag _ | exact Aj | exact Aw _ | exact P1 _ | exact AZ _ _ | exact EU _ | apply Ac | apply An | apply AC | apply Ai | apply As | apply AA | apply Ay | apply AE | apply AD | apply AB | intro _ | split)
theorem DC_ (x0 : _) : NoPan (kBox x0) := by
 unfold kBox
 repeat' (first | exact Ag _ | exact Aj | exact Aw _ | exact P1 _ | exact EU _ | apply Ac | apply An | apply AC | apply Ai | apply As | apply AA | apply Ay | apply AE | apply AD | apply AB | intro _ | split)
theorem Up (x0 : _) (x1 : _) (x2 : _) : NoPan (A6 x0 x1 x2) := by
 unfold A6
 repeat' (first | exact Ag _ | exact Aj | exact Aw _ | exact FV _ | exact NT _ _ _ | apply Ac | apply An | apply AC | apply Ai | apply As | apply AA | apply Ay | apply AE | apply AD | apply AB | intro _ | split)
theorem Gq_ (x0 : _) (x1 : _) (x2 : _) (x3 : _) : NoPan (Bp x0 x1 x2 x3) := by
 unfold Bp
 repeat' (first | exact Ag _ | exact Aj | exact Aw _ | exact FV _ | exact EG_ _ _ _ _ | apply Ac | apply An | apply AC | apply Ai | apply As | apply AA | apply Ay | apply AE | apply AD | apply AB | intro _ | split)
theorem AC_ (x0 : _) : NoPan (kNil x0) := by
 unfold kNil
 repeat' (first | exact Ag _ | exact Aj | exact Aw _ | apply Ac | apply An | apply AC | apply Ai | apply As | apply AA | apply Ay | apply AE | apply AD | apply AB | intro _ | split)
theorem Cj_ (b : Bool) : NoPan (pB b) := ⟨fun s c s' h => by cases b <;> cases h⟩
theorem JO (x0 : _) (x1 : _) (x2 : _) : NoPan (Cm x0 x1 x2) := by
 unfold Cm
 repeat' (first | exact Ag _ | exact Aj | exact Aw _ | exact GX _ | apply Ac | apply An | apply AC | apply Ai | apply As | apply AA | apply Ay | apply AE | apply AD | apply AB | intro _ | split)
theorem Ty (P : Program) (v : Value) : NoPan (xorU P v) := by
 have h := JO P .xor v
 cases v with
 | int k n =>
   cases n with
   | negSucc m => exact JO P .xor (.int k (.negSucc m))
   | ofNat m =>
     show NoPan (Option.rec (motive := fun _ => M Value) (Cm P .xor (.int k (.ofNat m))) (fun x => M.pure x) (notK k m))
     exact AB _ (JO _ _ _) fun _ => Ag _
 | _ => exact h
theorem Tt (x0 : _) (x1 : _) (x2 : _) : NoPan (kUn x0 x1 x2) := by
 unfold kUn
 repeat' (first | exact Ag _ | exact Aj | exact Aw _ | exact Ty _ _ | exact JO _ _ _ | exact Cj_ _ | apply Ac | apply An | apply AC | apply Ai | apply As | apply AA | apply Ay | apply AE | apply AD | apply AB | intro _ | split)
theorem Hl_ (x0 : _) (x1 : _) : NoPan (strOf x0 x1) := by
 unfold strOf
 repeat' (first | exact Ag _ | exact Aj | exact Aw _ | exact EM _ _ | apply Ac | apply An | apply AC | apply Ai | apply As | apply AA | apply Ay | apply AE | apply AD | apply AB | intro _ | split)
theorem FH_ (x0 : _) (x1 : _) (x2 : _) (x3 : _) (x4 : _) : NoPan (Es x0 x1 x2 x3 x4) := by
 unfold Es
 repeat' (first | exact Ag _ | exact Aj | exact Aw _ | exact Hl_ _ _ | exact AZ _ _ | apply Ac | apply An | apply AC | apply Ai | apply As | apply AA | apply Ay | apply AE | apply AD | apply AB | intro _ | split)
theorem Ct_ (x0 : _) (x1 : _) (x2 : _) (x3 : _) (x4 : _) : NoPan (EQ x0 x1 x2 x3 x4) := by
 unfold EQ
 repeat' (first | exact Ag _ | exact Aj | exact Aw _ | exact GX _ | exact AZ _ _ | apply Ac | apply An | apply AC | apply Ai | apply As | apply AA | apply Ay | apply AE | apply AD | apply AB | intro _ | split)
theorem K4 (x0 : _) (x1 : _) (x2 : _) (x3 : _) : NoPan (CY x0 x1 x2 x3) := by
 unfold CY
 repeat' (first | exact Ag _ | exact Aj | exact Aw _ | exact Ct_ _ _ _ _ _ | exact FH_ _ _ _ _ _ | exact GX _ | apply Ac | apply An | apply AC | apply Ai | apply As | apply AA | apply Ay | apply AE | apply AD | apply AB | intro _ | split)
theorem Oa (x0 : _) (x1 : _) : NoPan (rowN x0 x1) := by
 unfold rowN
 repeat' (first | exact Ag _ | exact Aj | exact Aw _ | exact GB _ _ _ | exact EU _ | exact BT _ _ | apply Ac | apply An | apply AC | apply Ai | apply As | apply AA | apply Ay | apply AE | apply AD | apply AB | intro _ | split)
theorem UV (l : List UInt8) : NoPan (Ez l) := by
 unfold Ez
 rw [Ib]
 exact As _ fun n => Oa _ _
theorem CJ_ (x0 : _) (x1 : _) (x2 : _) (x3 : _) : NoPan (Fy x0 x1 x2 x3) := by
 unfold Fy
 repeat' (first | exact Ag _ | exact Aj | exact Aw _ | exact UV _ | exact K4 _ _ _ _ | exact AZ _ _ | apply Ac | apply An | apply AC | apply Ai | apply As | apply AA | apply Ay | apply AE | apply AD | apply AB | intro _ | split)
theorem S2 (x0 : _) (x1 : _) (x2 : _) (x3 : _) (x4 : _) (x5 : _) : NoPan (Dj x0 x1 x2 x3 x4 x5) := by
 unfold Dj
 repeat' (first | exact Ag _ | exact Aj | exact Aw _ | exact K4 _ _ _ _ | exact AZ _ _ | exact EM _ _ | exact B7 _ | apply Ac | apply An | apply AC | apply Ai | apply As | apply AA | apply Ay | apply AE | apply AD | apply AB | intro _ | split)
theorem WZ (x0 : _) (x1 : _) (x2 : _) (x3 : _) : NoPan (Bz x0 x1 x2 x3) := by
 unfold Bz
 repeat' (first | exact Ag _ | exact Aj | exact Aw _ | exact S2 _ _ _ _ _ _ | exact CJ_ _ _ _ _ | exact K4 _ _ _ _ | apply Ac | apply An | apply AC | apply Ai | apply As | apply AA | apply Ay | apply AE | apply AD | apply AB | intro _ | split)
theorem Hi_ (x0 : _) (x1 : _) : NoPan (FW x0 x1) := by
 unfold FW
 repeat' (first | exact Ag _ | exact Aj | exact Aw _ | apply Ac | apply An | apply AC | apply Ai | apply As | apply AA | apply Ay | apply AE | apply AD | apply AB | intro _ | split)
theorem CC_ (x0 : _) (x1 : _) (x2 : _) : NoPan (CR x0 x1 x2) := by
 unfold CR
 repeat' (first | exact Ag _ | exact Aj | exact Aw _ | exact Hi_ _ _ | exact AZ _ _ | apply Ac | apply An | apply AC | apply Ai | apply As | apply AA | apply Ay | apply AE | apply AD | apply AB | intro _ | split)
theorem Cp_ (x0 : _) (x1 : _) (x2 : _) : NoPan (Ey x0 x1 x2) := by
 unfold Ey
 repeat' (first | exact Ag _ | exact Aj | exact Aw _ | exact AZ _ _ | apply Ac | apply An | apply AC | apply Ai | apply As | apply AA | apply Ay | apply AE | apply AD | apply AB | intro _ | split)
theorem Fh_ (x0 : _) (x1 : _) (x2 : _) (x3 : _) : NoPan (mkSl x0 x1 x2 x3) := by
 unfold mkSl
 repeat' (first | exact Ag _ | exact Aj | exact Aw _ | exact AZ _ _ | exact EU _ | apply Ac | apply An | apply AC | apply Ai | apply As | apply AA | apply Ay | apply AE | apply AD | apply AB | intro _ | split)
theorem Ho_ (x0 : _) (x1 : _) (x2 : _) (x3 : _) : NoPan (Dx x0 x1 x2 x3) := by
 unfold Dx
 repeat' (first | exact Ag _ | exact Aj | exact Aw _ | exact Fh_ _ _ _ _ | exact Lc _ | exact AZ _ _ | apply Ac | apply An | apply AC | apply Ai | apply As | apply AA | apply Ay | apply AE | apply AD | apply AB | intro _ | split)
theorem H3 (x0 : _) (x1 : _) (x2 : _) : NoPan (Cs x0 x1 x2) := by
 unfold Cs
 repeat' (first | exact Ag _ | exact Aj | exact Aw _ | exact AZ _ _ | apply Ac | apply An | apply AC | apply Ai | apply As | apply AA | apply Ay | apply AE | apply AD | apply AB | intro _ | split)
theorem Ch_ (x0 : _) (x1 : _) (x2 : _) (x3 : _) : NoPan (kFld x0 x1 x2 x3) := by
 unfold kFld
 repeat' (first | exact Ag _ | exact Aj | exact Aw _ | exact H3 _ _ _ | exact KG _ | exact FV _ | exact AZ _ _ | apply Ac | apply An | apply AC | apply Ai | apply As | apply AA | apply Ay | apply AE | apply AD | apply AB | intro _ | split)
theorem Qh (x0 : _) : NoPan (asCs x0) := by
 unfold asCs
 repeat' (first | exact Ag _ | exact Aj | exact Aw _ | apply Ac | apply An | apply AC | apply Ai | apply As | apply AA | apply Ay | apply AE | apply AD | apply AB | intro _ | split)
theorem De_ (x0 : _) (x1 : _) (x2 : _) (x3 : _) : NoPan (EL x0 x1 x2 x3) := by
 unfold EL
 repeat' (first | exact Ag _ | exact Aj | exact Aw _ | exact Qh _ | exact H3 _ _ _ | exact LP _ _ _ _ | exact AZ _ _ | apply Ac | apply An | apply AC | apply Ai | apply As | apply AA | apply Ay | apply AE | apply AD | apply AB | intro _ | split)
theorem DS_ (x0 : _) (x1 : _) (x2 : _) (x3 : _) : NoPan (Cj x0 x1 x2 x3) := by
 unfold Cj
 repeat' (first | exact Ag _ | exact Aj | exact Aw _ | exact Lc _ | exact AD_ _ _ _ _ | exact AZ _ _ | apply Ac | apply An | apply AC | apply Ai | apply As | apply AA | apply Ay | apply AE | apply AD | apply AB | intro _ | split)
theorem Ck_ (x0 : _) (x1 : _) (x2 : _) (x3 : _) : NoPan (idxV x0 x1 x2 x3) := by
 unfold idxV
 repeat' (first | exact Ag _ | exact Aj | exact Aw _ | exact LP _ _ _ _ | exact AZ _ _ | apply Ac | apply An | apply AC | apply Ai | apply As | apply AA | apply Ay | apply AE | apply AD | apply AB | intro _ | split)
theorem Cr_ (x0 : _) (x1 : _) (x2 : _) (x3 : _) : NoPan (kIdx x0 x1 x2 x3) := by
 unfold kIdx
 repeat' (first | exact Ag _ | exact Aj | exact Aw _ | exact Ck_ _ _ _ _ | exact Lc _ | exact AZ _ _ | apply Ac | apply An | apply AC | apply Ai | apply As | apply AA | apply Ay | apply AE | apply AD | apply AB | intro _ | split)
theorem Cf_ (x0 : _) (x1 : _) : NoPan (kExt x0 x1) := by
 unfold kExt
 repeat' (first | exact Ag _ | exact Aj | exact Aw _ | apply Ac | apply An | apply AC | apply Ai | apply As | apply AA | apply Ay | apply AE | apply AD | apply AB | intro _ | split)
theorem TY (x0 : _) (x1 : _) (x2 : _) : NoPan (okV x0 x1 x2) := by
 unfold okV
 repeat' (first | exact Ag _ | exact Aj | exact Aw _ | apply Ac | apply An | apply AC | apply Ai | apply As | apply AA | apply Ay | apply AE | apply AD | apply AB | intro _ | split)
theorem TX (x0 : _) (x1 : _) (x2 : _) : NoPan (EK x0 x1 x2) := by
 unfold EK
 repeat' (first | exact Ag _ | exact Aj | exact Aw _ | exact AZ _ _ | exact It _ | apply Ac | apply An | apply AC | apply Ai | apply As | apply AA | apply Ay | apply AE | apply AD | apply AB | intro _ | split)
theorem Hf_ (x0 : _) (x1 : _) (x2 : _) : NoPan (sitN x0 x1 x2) := by
 unfold sitN
 repeat' (first | exact Ag _ | exact Aj | exact Aw _ | exact BT _ _ | apply Ac | apply An | apply AC | apply Ai | apply As | apply AA | apply Ay | apply AE | apply AD | apply AB | intro _ | split)
theorem XR (x0 : _) : NoPan (DU x0) := by
 unfold DU
 repeat' (first | exact Ag _ | exact Aj | exact Aw _ | exact Hf_ _ _ _ | exact B7 _ | apply Ac | apply An | apply AC | apply Ai | apply As | apply AA | apply Ay | apply AE | apply AD | apply AB | intro _ | split)
theorem EK_ (x0 : _) (x1 : _) (x2 : _) (x3 : _) : NoPan (EO x0 x1 x2 x3) := by
 unfold EO
 repeat' (first | exact Ag _ | exact Aj | exact Aw _ | exact TY _ _ _ | exact Pe _ | exact AZ _ _ | apply Ac | apply An | apply AC | apply Ai | apply As | apply AA | apply Ay | apply AE | apply AD | apply AB | intro _ | split)
def OpV (E : Env) (o : Oper) (c : Cl OpT) (ds : List Nat) : Prop :=
  ∃ f, c = .mk f ∧ (∀ call round rho tm, NoPan (f call round rho tm)) ∧
    ∀ call round (w0 w : World) (r : Inj) (U : Nat → Prop) rho tm (a : Act) s v s', SlR r U ds rho tm a.tmps → (∀ t, Operand.tmp t ∈ o.op.operands.toList → U t) → Rel w0 r s.mem w → f call round rho tm s = .some v s' → AL r s.next s'.next →
      ∃ v' w' r', ((execOp a.eval o).run E.P w = .ok (.value v') w' ∨ ((execOp a.eval o).run E.P w = .ok .skip w' ∧ v' = undef)) ∧ Goes w0 r s s' r' w' ∧ VR r' v v' ∧ s'.lim = s.lim ∧ s'.cx = s.cx
section
variable {E : Env} {ds : List Nat} {o : Oper}
def BY (m : Sem Value) : Sem Next := do pure (.value (← m))
theorem Yields.val {w0 w : World} {r : Inj} {s s' : St} {v : Value} {m : Sem Value} (h : Yields E w0 r s s' v w m) {n : Sem Next} (hn : n = BY m) :
   ∃ v' w' r', (n.run E.P w = .ok (.value v') w' ∨ (n.run E.P w = .ok .skip w' ∧ v' = undef)) ∧ Goes w0 r s s' r' w' ∧ VR r' v v' ∧ s'.lim = s.lim ∧ s'.cx = s.cx := by
 obtain ⟨v', w', r', h1, h2, h3, h4, h5⟩ := h
 exact ⟨v', w', r', .inl (by rw [hn]; simp [BY, h1]), h2, h3, h4, h5⟩
theorem CJ {α : Type} {x : Option α} {f : α → St → R Value} {s s' : St} {v : Value} (h : Option.rec (motive := fun _ => R Value) .none (fun a => f a s) x = .some v s') : ∃ a, x = some a ∧ f a s = .some v s' := by
 cases x with
 | none => cases h
 | some a => exact ⟨a, rfl, h⟩
theorem CK {α : Type} {g : Option α} {f : α → M Value} (h : ∀ a, NoPan (f a)) : NoPan (fun s => Option.rec (motive := fun _ => R Value) .none (fun a => f a s) g) := ⟨fun s c s' e => by
 cases g with
 | none => cases e
 | some a => exact (h a).no _ _ _ e⟩
theorem Rw {x : Operand} (hx : o.op.operands.toList = [x]) (ho : ∀ a : Act, execOp a.eval o = pure (.value (a.eval x))) : OpV E o (Ee ds x) ds := by
 obtain ⟨g, h1, h2⟩ := A1 ds x
 refine ⟨_, by unfold Ee; rw [h1], fun _ _ rho tm => CK (f := fun a s => .some a s) (g := g rho tm) fun a => Ag a, ?_⟩
 intro call round w0 w r U rho tm a s v s' hs hu hr h hf
 obtain ⟨y, e1, e2⟩ := CJ (f := fun a s => .some a s) h
 cases e2
 exact ⟨_, w, r, .inl (by rw [ho]; rfl), .of_rel rfl hr, h2 _ _ _ _ _ _ hs (fun t q => hu t (by first | (rw [hx]; simp at q ⊢; simp [q]) | exact hx _ q)) e1, rfl, rfl⟩
theorem Ck {x : Operand} {k : Value → M Value} {m : Value → Sem Value} (hx : o.op.operands.toList = [x]) (ho : ∀ a : Act, execOp a.eval o = BY (m (a.eval x))) (np : ∀ y, NoPan (k y))
   (hk : ∀ {w0 w : World} {r : Inj} {y y' : Value} {s v s'}, k y s = .some v s' → Rel w0 r s.mem w → AL r s.next s'.next → VR r y y' → Yields E w0 r s s' v w (m y')) : OpV E o (AX ds x k) ds := by
 obtain ⟨g, h1, h2⟩ := A1 ds x
 refine ⟨_, by unfold AX; rw [h1], fun _ _ rho tm => CK (g := g rho tm) np, ?_⟩
 intro call round w0 w r U rho tm a s v s' hs hu hr h hf
 obtain ⟨y, e1, e2⟩ := CJ h
 exact (hk e2 hr hf (h2 _ _ _ _ _ _ hs (fun t q => hu t (by first | (rw [hx]; simp at q ⊢; simp [q]) | exact hx _ q)) e1)).val (ho a)
theorem Fi {x y : Operand} {k : Value → Value → M Value} {m : Value → Value → Sem Value} (hx : o.op.operands.toList = [x, y]) (ho : ∀ a : Act, execOp a.eval o = BY (m (a.eval x) (a.eval y))) (np : ∀ y z, NoPan (k y z))
   (hk : ∀ {w0 w : World} {r : Inj} {y y' z z' : Value} {s v s'}, k y z s = .some v s' → Rel w0 r s.mem w → AL r s.next s'.next → VR r y y' → VR r z z' → Yields E w0 r s s' v w (m y' z')) : OpV E o (BA ds x y k) ds := by
 obtain ⟨g, h1, h2⟩ := A1 ds x
 obtain ⟨g', h3, h4⟩ := A1 ds y
 refine ⟨_, by unfold BA; rw [h1, h3], fun _ _ rho tm => CK (g := g rho tm) (f := fun a s => Option.rec (motive := fun _ => R Value) .none (fun b => k a b s) (g' rho tm)) fun a => CK (np a), ?_⟩
 intro call round w0 w r U rho tm a s v s' hs hu hr h hf
 obtain ⟨y, e1, e2⟩ := CJ (f := fun a s => Option.rec (motive := fun _ => R Value) .none (fun b => k a b s) (g' rho tm)) h
 obtain ⟨z, e3, e4⟩ := CJ e2
 exact (hk e4 hr hf (h2 _ _ _ _ _ _ hs (fun t q => hu t (by first | (rw [hx]; simp at q ⊢; simp [q]) | exact hx _ q)) e1) (h4 _ _ _ _ _ _ hs (fun t q => hu t (by rw [hx]; simp at q ⊢; simp [q])) e3)).val (ho a)
theorem Oe {l : List (Nat × Operand)} {k : List (Nat × Value) → M Value} {m : List (Nat × Value) → Sem Value} (hx : o.op.operands.toList = l.map (·.2)) (ho : ∀ a : Act, execOp a.eval o = BY (m (l.map fun p => (p.1, a.eval p.2)))) (np : ∀ y, NoPan (k y))
   (hk : ∀ {w0 w : World} {r : Inj} {y y' : List (Nat × Value)} {s v s'}, k y s = .some v s' → Rel w0 r s.mem w → AL r s.next s'.next → PRs r y y' → Yields E w0 r s s' v w (m y')) : OpV E o (D9 ds l k) ds := by
 obtain ⟨g, h1, h2⟩ := Lw ds l
 refine ⟨_, by unfold D9; rw [h1], fun _ _ rho tm => CK (g := g rho tm) np, ?_⟩
 intro call round w0 w r U rho tm a s v s' hs hu hr h hf
 obtain ⟨y, e1, e2⟩ := CJ h
 exact (hk e2 hr hf (h2 _ _ _ _ _ _ hs (fun t q => hu t (by first | (rw [hx]; simp at q ⊢; simp [q]) | exact hx _ q)) e1)).val (ho a)
end
section
variable {E : Env} {ds : List Nat} {o : Oper}
theorem AF_ {x : Operand} (ho : o.op = .move x) : OpV E o (Ee ds x) ds := Rw (by simp [ho, Op.operands]) fun a => by simp only [execOp, ho]
theorem Um {x : Operand} (ho : o.op = .assign x) : OpV E o (Ee ds x) ds := Rw (by simp [ho, Op.operands]) fun a => by simp only [execOp, ho]
theorem TP {e : Nat} (ho : o.op = .alloc e) (he : EnvTy E) : OpV E o (.mk fun _ _ _ _ => BZ E e) ds := by
 refine ⟨_, rfl, fun _ _ _ _ => S4 _ _, ?_⟩
 intro call round w0 w r U rho tm a s v s' hs hu hr h hf
 exact (Yk he h hr hf).val (by simp only [execOp, ho]; rfl)
theorem Yh {e : Nat} {x : Operand} (ho : o.op = .box e x) : OpV E o (AX ds x kBox) ds :=
 Ck (m := Instr.box e) (by simp [ho, Op.operands]) (fun a => by simp only [execOp, ho]; rfl) DC_ fun h hr hf hx => Ci_ h hr hf hx
theorem Y1 {t : Nat} {ps : Array (Nat × Operand)} (ho : o.op = .build t ps) (he : EnvTy E) : OpV E o (D9 ds ps.toList (Cv E t)) ds :=
 Oe (m := fun l => Instr.build t l.toArray) (by simp [ho, Op.operands]) (fun a => by simp only [execOp, ho]; rw [← List.map_toArray]; rfl) (Tb _ _) fun h hr hf hx => Uh he h hr (by simpa using hx)
theorem Fp_ {t n : Nat} {ps : Array (Nat × Operand)} (ho : o.op = .buildSlice t n ps) (he : EnvTy E) : OpV E o (D9 ds ps.toList (CS E t n)) ds :=
 Oe (m := fun l => Instr.buildSlice t n l.toArray) (by simp [ho, Op.operands]) (fun a => by simp only [execOp, ho]; rw [← List.map_toArray]; rfl) (ZU _ _ _) fun h hr hf hx => Ub he h hr hf (by simpa using hx)
theorem Xg {t : Nat} {x : Operand} (ho : o.op = .load t x) (he : EnvTy E) : OpV E o (AX ds x (A6 E t)) ds :=
 Ck (m := Instr.loadAt t) (by simp [ho, Op.operands]) (fun a => by simp only [execOp, ho]; rfl) (Up _ _) fun h hr hf hx => Av_ he h hr hx
theorem U5 {t : Nat} {x y : Operand} (ho : o.op = .store t x y) (he : EnvTy E) : OpV E o (BA ds x y (Bp E t)) ds := by
 obtain ⟨g, h1, h2⟩ := A1 ds x
 obtain ⟨g', h3, h4⟩ := A1 ds y
 refine ⟨_, by unfold BA; rw [h1, h3], fun _ _ rho tm => CK (g := g rho tm) (f := fun a s => Option.rec (motive := fun _ => R Value) .none (fun b => Bp E t a b s) (g' rho tm)) fun a => CK (Gq_ _ _ a), ?_⟩
 intro call round w0 w r U rho tm a s v s' hs hu hr h hf
 obtain ⟨y, e1, e2⟩ := CJ (f := fun a s => Option.rec (motive := fun _ => R Value) .none (fun b => Bp E t a b s) (g' rho tm)) h
 obtain ⟨z, e3, e4⟩ := CJ e2
 obtain ⟨rfl, w', k1, k2, k3, k4, k5⟩ := VC he e4 hr (h2 _ _ _ _ _ _ hs (fun t q => hu t (by simp [ho, Op.operands] at q ⊢; simp [q])) e1) (h4 _ _ _ _ _ _ hs (fun t q => hu t (by simp [ho, Op.operands] at q ⊢; simp [q])) e3)
 refine ⟨undef, w', r, .inr ⟨?_, rfl⟩, .of_rel k3 k2, .tuple rfl (fun i v v' e => by simp at e), k4, k5⟩
 simp [execOp, ho, k1]
theorem Ah_ {x : Operand} (ho : o.op = .nilCheck x) : OpV E o (AX ds x kNil) ds := by
 obtain ⟨g, h1, h2⟩ := A1 ds x
 refine ⟨_, by unfold AX; rw [h1], fun _ _ rho tm => CK (g := g rho tm) AC_, ?_⟩
 intro call round w0 w r U rho tm a s v s' hs hu hr h hf
 obtain ⟨y, e1, e2⟩ := CJ h
 have hx := h2 _ _ _ _ _ _ hs (fun t q => hu t (by simp [ho, Op.operands] at q ⊢; simp [q])) e1
 obtain ⟨rfl, rfl, e3⟩ := Du_ (P := E.P) (w := w) (a := a) ho rfl e2 hx
 exact ⟨_, w, r, .inl e3, .of_rel rfl hr, hx, rfl, rfl⟩
theorem XZ {op : BinOp} {t yt : Nat} {x y : Operand} (ho : o.op = .binOp op t x y yt) (he : EnvTy E) : OpV E o (Cl.rec (motive := fun _ => Cl OpT) (fun f => BA ds x y f) (aBin E op t x y)) ds := by
 generalize hc : aBin E op t x y = c
 obtain ⟨f⟩ := c
 refine Fi (m := fun y' z' => do eqGuard op t x y y' z'; binOp op t y' z') (by simp [ho, Op.operands]) (fun a => by simp only [execOp, ho]; rfl) (fun y' z' => ?_) fun h hr hf hx hy => Et_ hc he h hr hx hy
 have slow : ∀ op, NoPan (AV E op t x y y' z') := fun op => Ve _ _ _ _ _ _ _
 have fast3 : ∀ (k : BN) op, NoPan (int3 k (AV E op t x y) y' z') := fun k op => ⟨fun s c s' e => by
   unfold int3 BV at e
   cases y' <;> simp only at e
   case int k1 a =>
     cases z' <;> simp only at e
     case int k2 b =>
       cases a with
       | negSucc m => exact (slow op).no _ _ _ e
       | ofNat m =>
         cases b with
         | negSucc m => exact (slow op).no _ _ _ e
         | ofNat n =>
           simp only at e
           cases e1 : k k1 k2 m n with
           | none => rw [e1] at e; exact (slow op).no _ _ _ e
           | some u => rw [e1] at e; cases e
     all_goals exact (slow op).no _ _ _ e
   all_goals exact (slow op).no _ _ _ e⟩
 have fast2 : ∀ (k : Int → Int → St → R Value) (k3 : BN) op, (∀ a b, NoPan (k a b)) → NoPan (int2 k (int3 k3 (AV E op t x y)) y' z') := fun k k3 op hk => ⟨fun s c s' e => by
   have f3 := fast3 k3 op
   unfold int2 BV at e
   cases y' <;> simp only at e
   case int k1 a =>
     cases z' <;> simp only at e
     case int k2 b =>
       cases e1 : C5 k1 with
       | false => rw [e1] at e; exact f3.no _ _ _ e
       | true =>
         cases e2 : C5 k2 with
         | false => rw [e1, e2] at e; exact f3.no _ _ _ e
         | true => rw [e1, e2] at e; exact (hk a b).no _ _ _ e
     all_goals exact f3.no _ _ _ e
   all_goals exact f3.no _ _ _ e⟩
 have rI' : ∀ n, NoPan (rI n) := fun n => ⟨fun s c s' e => by unfold rI at e; rw [BP] at e; cases e⟩
 have rB' : ∀ b, NoPan (rB b) := fun b => ⟨fun s c s' e => by cases b <;> cases e⟩
 cases op <;> cases hc <;> first | exact slow _ | exact fast3 _ _ | exact fast2 _ _ _ fun a b => rI' _ | exact fast2 _ _ _ fun a b => rB' _
theorem FR_ {op : UnOp} {t : Nat} {x : Operand} (ho : o.op = .unOp op t x) : OpV E o (AX ds x (kUn E.P op)) ds :=
 Ck (m := Op.unary op) (by simp [ho, Op.operands]) (fun a => by simp only [execOp, ho]; rfl) (Tt _ _) fun h hr hf hx => Ba_ h hr hx
theorem Xf {s d : Nat} {x : Operand} (ho : o.op = .convert s d x) (he : EnvTy E) : OpV E o (AX ds x (Bz E s d)) ds :=
 Ck (m := convert s d) (by simp [ho, Op.operands]) (fun a => by simp only [execOp, ho]; rfl) (WZ _ _ _) fun h hr hf hx => Vf he h hr hf hx
theorem DY_ {t : Nat} {x : Operand} (ho : o.op = .sliceToArrayPointer t x) (he : EnvTy E) : OpV E o (AX ds x (CR E t)) ds :=
 Ck (m := Instr.arrayAt t) (by simp [ho, Op.operands]) (fun a => by simp only [execOp, ho]; rfl) (CC_ _ _) fun h hr hf hx => Fk_ he h hr hx
theorem X7 {t : Nat} {x : Operand} (ho : o.op = .makeInterface t x) (he : EnvTy E) : OpV E o (AX ds x (Ey E t)) ds :=
 Ck (m := Instr.makeInterface t) (by simp [ho, Op.operands]) (fun a => by simp only [execOp, ho]; rfl) (Cp_ _ _) fun h hr hf hx => Hq_ he h hr hx
theorem UG {t : Nat} {x y : Operand} (ho : o.op = .makeSlice t x y) (he : EnvTy E) : OpV E o (BA ds x y (Dx E t)) ds :=
 Fi (m := Instr.makeSlice t) (by simp [ho, Op.operands]) (fun a => by simp only [execOp, ho]; rfl) (Ho_ _ _) fun h hr hf hx hy => Ya he h hr hf hx hy
theorem WO {t f : Nat} {x : Operand} (ho : o.op = .fieldAddr t x f) (he : EnvTy E) : OpV E o (AX ds x fun a => kFld E t a f) ds :=
 Ck (m := fun x => Instr.fieldAt t x f) (by simp [ho, Op.operands]) (fun a => by simp only [execOp, ho]; rfl) (fun y => Ch_ _ _ y _) fun h hr hf hx => Xi he h hr hx
theorem Fg_ {t f : Nat} {x : Operand} (ho : o.op = .field t x f) (he : EnvTy E) : OpV E o (AX ds x fun a => EL E t a f) ds :=
 Ck (m := fun x => Instr.field t x f) (by simp [ho, Op.operands]) (fun a => by simp only [execOp, ho]; rfl) (fun y => De_ _ _ y _) fun h hr hf hx => Vg he h hr hx
theorem AL_ {t : Nat} {x y : Operand} (ho : o.op = .indexAddr t x y) (he : EnvTy E) : OpV E o (BA ds x y (Cj E t)) ds :=
 Fi (m := Instr.indexAt t) (by simp [ho, Op.operands]) (fun a => by simp only [execOp, ho]; rfl) (DS_ _ _) fun h hr hf hx hy => Ax_ he h hr hx hy
theorem Dk_ {t : Nat} {x y : Operand} (ho : o.op = .index t x y) (he : EnvTy E) : OpV E o (BA ds x y (kIdx E t)) ds :=
 Fi (m := Instr.index t) (by simp [ho, Op.operands]) (fun a => by simp only [execOp, ho]; rfl) (Cr_ _ _) fun h hr hf hx hy => GX_ he h hr hx hy
theorem UN {k : Nat} {x : Operand} (ho : o.op = .extract x k) : OpV E o (AX ds x (kExt k)) ds :=
 Ck (m := fun x => Instr.extract x k) (by simp [ho, Op.operands]) (fun a => by simp only [execOp, ho]; rfl) (Cf_ _) fun h hr hf hx => WF h hr hx
theorem GP_ {xt t : Nat} {c : Bool} {x : Operand} (ho : o.op = .typeAssert x xt t c) (he : EnvTy E) : OpV E o (AX ds x (EO E t c)) ds :=
 Ck (m := fun x => Instr.typeAssert x xt t c) (by simp [ho, Op.operands]) (fun a => by simp only [execOp, ho]; rfl) (EK_ _ _ _) fun h hr hf hx => Gb_ he h hr hx
end
section
variable {E : Env} {ds : List Nat} {o : Oper}
theorem Ay_ {x y z : Operand} (ho : o.op = .pick x y z) : OpV E o (Cg ds x y z Cd) ds := by
 obtain ⟨g, h1, h2⟩ := A1 ds x
 obtain ⟨g', h3, h4⟩ := A1 ds y
 obtain ⟨g2, h5, h6⟩ := A1 ds z
 refine ⟨_, by unfold Cg; rw [h1, h3, h5], fun _ _ rho tm => Ai _ fun a => Ai _ fun b => Ai _ fun c => ZX _ _ _, ?_⟩
 intro call round w0 w r U rho tm a s v s' hs hu hr h hf
 obtain ⟨x', e1, h⟩ := AS h
 obtain ⟨y', e2, h⟩ := AS h
 obtain ⟨z', e3, h⟩ := AS h
 obtain ⟨rfl, t, k1, k2⟩ := WU h (h2 _ _ _ _ _ _ hs (fun t q => hu t (by simp [ho, Op.operands] at q ⊢; simp [q])) e1) (h4 _ _ _ _ _ _ hs (fun t q => hu t (by simp [ho, Op.operands] at q ⊢; simp [q])) e2) (h6 _ _ _ _ _ _ hs (fun t q => hu t (by simp [ho, Op.operands] at q ⊢; simp [q])) e3)
 refine ⟨_, w, r, .inl ?_, .of_rel rfl hr, k2, rfl, rfl⟩
 simp only [execOp, ho, k1]
 cases t <;> simp [asBool]
theorem Ym {t : Nat} {x : Operand} {lo hi mx : Option Operand} (ho : o.op = .slice t x lo hi mx) (he : EnvTy E) : OpV E o (GQ E ds t x lo hi mx) ds := by
 cases mx with
 | some m =>
   exact ⟨_, rfl, fun _ _ _ _ => Aj, fun call round w0 w r U rho tm a s v s' hs hu hr h hf => by cases h⟩
 | none =>
   obtain ⟨g, h1, h2⟩ := A1 ds x
   obtain ⟨g', h3, h4⟩ := JM ds lo
   obtain ⟨g2, h5, h6⟩ := JM ds hi
   refine ⟨fun _ _ rho tm => M.on (g rho tm) fun a => M.on (g' rho tm) fun b => M.on (g2 rho tm) fun c => BM E t a b c, by unfold GQ LV; simp only [h1, h3, h5], fun _ _ rho tm => Ai _ fun a => Ai _ fun b => Ai _ fun c => Z1 _ _ _ _ _, ?_⟩
   intro call round w0 w r U rho tm a s v s' hs hu hr h hf
   obtain ⟨x', e1, h⟩ := AS h
   obtain ⟨y', e2, h⟩ := AS h
   obtain ⟨z', e3, h⟩ := AS h
   exact (VP he h hr (h2 _ _ _ _ _ _ hs (fun t q => hu t (by simp [ho, Op.operands] at q ⊢; simp [q])) e1) (h4 _ _ _ _ _ _ hs (fun t q => hu t (by simp [ho, Op.operands] at q ⊢; simp [q])) e2) (h6 _ _ _ _ _ _ hs (fun t q => hu t (by simp [ho, Op.operands] at q ⊢; simp [q])) e3)).val (by simp only [execOp, ho]; rfl)
theorem AT_ {t : Nat} (ho : o.op = .makeMap t none) : OpV E o (.mk fun _ _ _ _ => C8) ds := by
 refine ⟨_, rfl, fun _ _ _ _ => Q9, ?_⟩
 intro call round w0 w r U rho tm a s v s' hs hu hr h hf
 exact (Pf h hr hf).val (by simp only [execOp, ho]; rfl)
theorem CU_ {t : Nat} {x : Operand} (ho : o.op = .makeMap t (some x)) (he : EnvTy E) : OpV E o (AX ds x (Eo E t)) ds :=
 Ck (m := fun x => Instr.makeMap t (some x)) (by simp [ho, Op.operands]) (fun a => by simp only [execOp, ho]; rfl) (Bc_ _ _) fun h hr hf hx => GM_ he h hr hf hx
theorem Ej_ {t : Nat} {c : Bool} {x y : Operand} (ho : o.op = .lookup t x y c) (he : EnvTy E) : OpV E o (BA ds x y (DL E t c)) ds :=
 Fi (m := fun x y => Instr.lookup t x y c) (by simp [ho, Op.operands]) (fun a => by simp only [execOp, ho]; rfl) (XS _ _ _) fun h hr hf hx hy => Cm_ he h hr hx hy
theorem Er_ {t : Nat} {x y : Operand} (ho : o.op = .mapEntry t x y) (he : EnvTy E) : OpV E o (BA ds x y (GE E t)) ds :=
 Fi (m := Instr.mapEntry t) (by simp [ho, Op.operands]) (fun a => by simp only [execOp, ho]; rfl) (Cc_ _ _) fun h hr hf hx hy => Zm he h hr hx hy
theorem Lu {x y z : Operand} {k : Value → Value → Value → M Value} {m : Value → Value → Value → Sem Unit} (hx : o.op.operands.toList = [x, y, z]) (ho : ∀ a : Act, execOp a.eval o = (do m (a.eval x) (a.eval y) (a.eval z); pure .skip)) (np : ∀ x y z, NoPan (k x y z))
   (hk : ∀ {w0 w : World} {r : Inj} {x x' y y' z z' : Value} {s v s'}, k x y z s = .some v s' → Rel w0 r s.mem w → VR r x x' → VR r y y' → VR r z z' → v = undef ∧ ∃ w', (m x' y' z').run E.P w = .ok () w' ∧ Goes w0 r s s' r w' ∧ s'.lim = s.lim ∧ s'.cx = s.cx) : OpV E o (Cg ds x y z k) ds := by
 obtain ⟨g, h1, h2⟩ := A1 ds x
 obtain ⟨g', h3, h4⟩ := A1 ds y
 obtain ⟨g2, h5, h6⟩ := A1 ds z
 refine ⟨_, by unfold Cg; rw [h1, h3, h5], fun _ _ rho tm => Ai _ fun a => Ai _ fun b => Ai _ fun c => np _ _ _, ?_⟩
 intro call round w0 w r U rho tm a s v s' hs hu hr h hf
 obtain ⟨x', e1, h⟩ := AS h
 obtain ⟨y', e2, h⟩ := AS h
 obtain ⟨z', e3, h⟩ := AS h
 obtain ⟨rfl, w', k1, k2, k3, k4⟩ := hk h hr (h2 _ _ _ _ _ _ hs (fun t q => hu t (by rw [hx]; simp at q ⊢; simp [q])) e1) (h4 _ _ _ _ _ _ hs (fun t q => hu t (by rw [hx]; simp at q ⊢; simp [q])) e2) (h6 _ _ _ _ _ _ hs (fun t q => hu t (by rw [hx]; simp at q ⊢; simp [q])) e3)
 refine ⟨undef, w', r, .inr ⟨?_, rfl⟩, k2, .undef, k3, k4⟩
 rw [ho]
 simp [k1]
theorem Yl {t : Nat} {x y z : Operand} (ho : o.op = .mapUpdate t x y z) (he : EnvTy E) : OpV E o (Cg ds x y z (DF E t)) ds :=
 Lu (m := Instr.mapUpdate t) (by simp [ho, Op.operands]) (fun a => by simp only [execOp, ho]) (Qk _ _) fun h hr hx hy hz => R0 he h hr hx hy hz
theorem Uq {t : Nat} {x y z : Operand} (ho : o.op = .insert t x y z) (he : EnvTy E) : OpV E o (Cg ds x y z (DF E t)) ds :=
 Lu (m := Instr.mapUpdate t) (by simp [ho, Op.operands]) (fun a => by simp only [execOp, ho]) (Qk _ _) fun h hr hx hy hz => R0 he h hr hx hy hz
theorem GB_ {t : Nat} {x y z : Operand} (ho : o.op = .entryStore t x y z) : OpV E o (Cg ds x y z DN) ds :=
 Lu (m := Instr.entryStore t) (by simp [ho, Op.operands]) (fun a => by simp only [execOp, ho]) Vy fun h hr hx hy hz => Tf h hr hx hy hz
theorem Zn {t : Nat} {x : Operand} (ho : o.op = .range t x) (he : EnvTy E) : OpV E o (AX ds x (EK E t)) ds :=
 Ck (m := Instr.range t) (by simp [ho, Op.operands]) (fun a => by simp only [execOp, ho]; rfl) (TX _ _) fun h hr hf hx => ZM he h hr hf hx
theorem T1 {x : Operand} (ho : o.op = .next x true) : OpV E o (AX ds x DU) ds :=
 Ck (m := fun x => Instr.next x true o.type) (by simp [ho, Op.operands]) (fun a => by simp only [execOp, ho]; rfl) XR fun h hr hf hx => W3 h hr hx
theorem N6 {α β : Type} (f : α → β) (a : Array α) : a.map f = (a.toList.map f).toArray := by rw [← List.map_toArray]
theorem VRs.func {r : Inj} {f : Nat} {a a' c c' : List Value} (h : VRs r a a') (k : VRs r c c') : VR r (.func (.func f) a.toArray c.toArray) (.func (.func f) a'.toArray c'.toArray) :=
 .func rfl (by simpa using h.1) (fun i v v' e e' => h.2 i v v' (by simpa using e) (by simpa using e')) (by simpa using k.1) (fun i v v' e e' => k.2 i v v' (by simpa using e) (by simpa using e'))
theorem Gj_ {f : Nat} {first cap : Array Operand} (ho : o.op = .makeFunc (.func f) first cap) : OpV E o (Ge ds first.toList cap.toList fun x c => M.pure (.func (.func f) x.toArray c.toArray)) ds := by
 obtain ⟨g, h1, h2⟩ := CU ds first.toList
 obtain ⟨g', h3, h4⟩ := CU ds cap.toList
 refine ⟨_, by unfold Ge; rw [h1, h3], fun _ _ rho tm => CK (g := g rho tm) (f := fun (a : List Value) s => Option.rec (motive := fun _ => R Value) .none (fun (b : List Value) => M.pure (Value.func (.func f) a.toArray b.toArray) s) (g' rho tm)) fun a => CK (f := fun (b : List Value) => M.pure (Value.func (.func f) a.toArray b.toArray)) fun b => Ag _, ?_⟩
 intro call round w0 w r U rho tm a s v s' hs hu hr h hf
 obtain ⟨x', e1, h⟩ := CJ (f := fun (a : List Value) s => Option.rec (motive := fun _ => R Value) .none (fun (b : List Value) => M.pure (Value.func (.func f) a.toArray b.toArray) s) (g' rho tm)) h
 obtain ⟨y', e2, h⟩ := CJ (f := fun (b : List Value) => M.pure (Value.func (.func f) x'.toArray b.toArray)) h
 obtain ⟨rfl, rfl⟩ := Af h
 refine ⟨_, w, r, .inl ?_, .of_rel rfl hr, (h2 _ _ _ _ _ _ hs (fun t q => hu t (by simp [ho, Op.operands] at q ⊢; simp [q])) e1).func (h4 _ _ _ _ _ _ hs (fun t q => hu t (by simp [ho, Op.operands] at q ⊢; simp [q])) e2), rfl, rfl⟩
 simp [execOp, ho, Instr.makeFunc]
 exact ⟨N6 _ _, N6 _ _⟩
theorem Wl {b : Builtin} {c : Call} (ho : o.op = .call c) (hb : c.callee = .builtin b) (hn : b ≠ .recover) (he : EnvTy E) : OpV E o (Fs ds c.args.toList (Bt E b c.argTypes.toList)) ds := by
 obtain ⟨g, h1, h2⟩ := CU ds c.args.toList
 refine ⟨_, by unfold Fs; rw [h1], fun _ _ rho tm => CK (g := g rho tm) (CW_ _ _ _), ?_⟩
 intro call round w0 w r U rho tm a s v s' hs hu hr h hf
 obtain ⟨l, e1, h⟩ := CJ h
 have hl : VRs r l (c.args.toList.map a.eval) := h2 _ _ _ _ _ _ hs (fun t q => hu t (by simp [ho, Op.operands, Call.operands] at q ⊢; simp [q])) e1
 have key : ∀ {m : Sem Value}, Yields E w0 r s s' v w m → (∀ (cs : Array Bool) w, (builtin b c.argTypes o.type cs (c.args.map a.eval)).run E.P w = (BY m).run E.P w) →
     ∃ v' w' r', ((execOp a.eval o).run E.P w = .ok (.value v') w' ∨ ((execOp a.eval o).run E.P w = .ok .skip w' ∧ v' = undef)) ∧ Goes w0 r s s' r' w' ∧ VR r' v v' ∧ s'.lim = s.lim ∧ s'.cx = s.cx := by
   intro m hy hm
   obtain ⟨v', w', r', k1, k2, k3, k4, k5⟩ := hy
   refine ⟨v', w', r', .inl ?_, k2, k3, k4, k5⟩
   simp only [execOp, ho, resolve, hb, invoke, Sem.run_bind, Sem.run_pure, Result.andThen_ok, hm, BY, k1]
 generalize hts : c.argTypes.toList = ts at h
 have hmap : c.args.map a.eval = (c.args.toList.map a.eval).toArray := by rw [← List.map_toArray]
 have ht0 : ∀ {t : Nat} {l : List Nat}, c.argTypes.toList = t :: l → c.argTypes[0]? = some t := by
   intro t l e; rw [← Array.getElem?_toList, e]; rfl
 have ht1 : ∀ {t t2 : Nat} {l : List Nat}, c.argTypes.toList = t :: t2 :: l → c.argTypes[1]? = some t2 := by
   intro t t2 l e; rw [← Array.getElem?_toList, e]; rfl
 unfold Bt at h
 split at h
 · rename_i t ts' x
   obtain ⟨x', l', q1, q2, q3⟩ := hl.inv
   have := q3.inv_nil
   subst this
   refine key (FV_ (ty := o.type) (ht0 hts) he h hr q2) fun cs w => ?_
   rw [hmap, q1]; simp [builtin, BY]
 · rename_i t ts' x
   obtain ⟨x', l', q1, q2, q3⟩ := hl.inv
   have := q3.inv_nil
   subst this
   refine key (BR_ (ty := o.type) (ht0 hts) he h hr q2) fun cs w => ?_
   rw [hmap, q1]; simp [builtin, BY]
 · obtain ⟨y', l1, q1, q2, q3⟩ := hl.inv
   obtain ⟨x', l', q4, q5, q6⟩ := q3.inv
   have := q6.inv_nil
   subst this
   subst q4
   refine key (FU_ (ty := o.type) (ht0 hts) (ht1 hts) he h hr hf q2 q5) fun cs w => ?_
   rw [hmap, q1]; simp [builtin, BY]
 · obtain ⟨y', l1, q1, q2, q3⟩ := hl.inv
   obtain ⟨x', l', q4, q5, q6⟩ := q3.inv
   have := q6.inv_nil
   subst this
   subst q4
   refine key (ZS (ty := o.type) (ht0 hts) he h hr q2 q5) fun cs w => ?_
   rw [hmap, q1]; simp [builtin, BY]
 · obtain ⟨y', l1, q1, q2, q3⟩ := hl.inv
   obtain ⟨x', l', q4, q5, q6⟩ := q3.inv
   have := q6.inv_nil
   subst this
   subst q4
   refine key (Ge_ (ty := o.type) (ht0 hts) he h hr q2 q5) fun cs w => ?_
   rw [hmap, q1]; simp [builtin, BY]
 · obtain ⟨x', l', q1, q2, q3⟩ := hl.inv
   have := q3.inv_nil
   subst this
   refine key (BH_ (ty := o.type) (ht0 hts) he h hr q2) fun cs w => ?_
   rw [hmap, q1]; simp [builtin, BY]
 · refine key (UT (ts := c.argTypes) (ty := o.type) h hr hl) fun cs w => ?_
   rw [hmap]; simp [builtin, BY]
 · refine key (U8 (ts := c.argTypes) (ty := o.type) h hr hl) fun cs w => ?_
   rw [hmap]; simp [builtin, BY]
 · cases h
end
abbrev Out (α : Type) : Type := Sum α (List PanicEntry)
def rOf {α : Type} (o : Out α) (s : St) : R α :=
  match o with
  | .inl a => .some a s
  | .inr c => .pan c s
def Bnd (s : St) : Prop := s.lim ≤ s.next
structure LocG {α : Type} (m : M α) (s : St) (o : Out α) (s' : St) (Rd Wr : Nat → Prop) (dr dw : List Nat) : Prop where
  rd : s'.rd = dr ++ s.rd
  wr : s'.wr = dw ++ s.wr
  nxt : s.next ≤ s'.next
  lim : s'.lim = s.lim
  bnd : Bnd s'
  rlt : ∀ l, Rd l → l < s'.next
  wlt : ∀ l, Wr l → l < s'.next
  old : ∀ l, ¬ Wr l → T.get s'.mem l = T.get s.mem l
  any : ∀ t : St, t.next = s.next → t.lim = s.lim → t.cx = s.cx → (∀ l, Rd l ∨ Wr l → T.get t.mem l = T.get s.mem l) →
    ∃ t', m t = rOf o t' ∧ t'.next = s'.next ∧ t'.lim = s'.lim ∧ t'.cx = s'.cx ∧ t'.rd = dr ++ t.rd ∧ t'.wr = dw ++ t.wr ∧
      (∀ l, Wr l → T.get t'.mem l = T.get s'.mem l) ∧ (∀ l, ¬ Wr l → T.get t'.mem l = T.get t.mem l)
def Ci {α : Type} (m : M α) (s : St) (o : Out α) (s' : St) : Prop :=
  ∃ Rd Wr dr dw, LocG m s o s' Rd Wr dr dw ∧ (∀ l, Rd l → l < s.lim → l ∈ dr) ∧ (∀ l, Wr l → l < s.lim → l ∈ dw)
structure Loc {α : Type} (m : M α) : Prop where
  at' : ∀ s o s', m s = rOf o s' → Bnd s → Ci m s o s'
theorem LocG.seq {α β : Type} {m : M α} {n C : M β} {s s1 s' : St} {o1 : Out α} {o : Out β} {R1 W1 R2 W2 : Nat → Prop} {r1 w1 r2 w2 : List Nat}
   (h : LocG m s o1 s1 R1 W1 r1 w1) (k : LocG n s1 o s' R2 W2 r2 w2) (hC : ∀ t t1, m t = rOf o1 t1 → C t = n t1) : LocG C s o s' (fun l => R1 l ∨ R2 l) (fun l => W1 l ∨ W2 l) (r2 ++ r1) (w2 ++ w1) where
 rd := by rw [k.rd, h.rd, List.append_assoc]
 wr := by rw [k.wr, h.wr, List.append_assoc]
 nxt := Nat.le_trans h.nxt k.nxt
 lim := k.lim.trans h.lim
 bnd := k.bnd
 rlt := fun l e => e.elim (fun e => Nat.lt_of_lt_of_le (h.rlt l e) k.nxt) (k.rlt l)
 wlt := fun l e => e.elim (fun e => Nat.lt_of_lt_of_le (h.wlt l e) k.nxt) (k.wlt l)
 old := fun l e => (k.old l fun x => e (.inr x)).trans (h.old l fun x => e (.inl x))
 any := fun t e1 e2 e3 e4 => by
   obtain ⟨t1, q1, q2, q3, q4, q5, q6, q7, q8⟩ := h.any t e1 e2 e3 fun l e => e4 l (e.elim (fun e => .inl (.inl e)) (fun e => .inr (.inl e)))
   obtain ⟨t2, p1, p2, p3, p4, p5, p6, p7, p8⟩ := k.any t1 q2 q3 q4 (fun l e => by
     by_cases hw : W1 l
     · exact q7 l hw
     · rw [q8 l hw, h.old l hw]
       exact e4 l (e.elim (fun e => .inl (.inr e)) (fun e => .inr (.inr e))))
   refine ⟨t2, (hC t t1 q1).trans p1, p2, p3, p4, by rw [p5, q5, List.append_assoc], by rw [p6, q6, List.append_assoc], fun l e => ?_, fun l e => (p8 l fun x => e (.inr x)).trans (q8 l fun x => e (.inl x))⟩
   by_cases hw : W2 l
   · exact p7 l hw
   · rw [p8 l hw, k.old l hw]
     exact e.elim (q7 l) (fun x => absurd x hw)
theorem Ci.bnd {α : Type} {m : M α} {s s' : St} {o : Out α} (h : Ci m s o s') : Bnd s' := let ⟨_, _, _, _, e, _⟩ := h; e.bnd
theorem Ci.lim {α : Type} {m : M α} {s s' : St} {o : Out α} (h : Ci m s o s') : s'.lim = s.lim := let ⟨_, _, _, _, e, _⟩ := h; e.lim
theorem Ci.next {α : Type} {m : M α} {s s' : St} {o : Out α} (h : Ci m s o s') : s.next ≤ s'.next := let ⟨_, _, _, _, e, _⟩ := h; e.nxt
theorem Ci.seq {α β : Type} {m : M α} {n C : M β} {s s1 s' : St} {o1 : Out α} {o : Out β} (h : Ci m s o1 s1) (k : Ci n s1 o s') (hC : ∀ t t1, m t = rOf o1 t1 → C t = n t1) : Ci C s o s' := by
 obtain ⟨R1, W1, r1, w1, h1, h2, h3⟩ := h
 obtain ⟨R2, W2, r2, w2, k1, k2, k3⟩ := k
 refine ⟨_, _, _, _, h1.seq k1 hC, fun l e x => ?_, fun l e x => ?_⟩
 · exact e.elim (fun e => List.mem_append_right _ (h2 l e x)) (fun e => List.mem_append_left _ (k2 l e (by rw [h1.lim]; exact x)))
 · exact e.elim (fun e => List.mem_append_right _ (h3 l e x)) (fun e => List.mem_append_left _ (k3 l e (by rw [h1.lim]; exact x)))
theorem AU {α : Type} {o : Out α} {a : α} {s s' : St} (h : R.some a s = rOf o s') : o = .inl a ∧ s' = s := by cases o <;> cases h; exact ⟨rfl, rfl⟩
theorem GN {α : Type} {o : Out α} {c : List PanicEntry} {s s' : St} (h : R.pan c s = rOf o s') : o = .inr c ∧ s' = s := by cases o <;> cases h; exact ⟨rfl, rfl⟩
theorem AH {α : Type} {o : Out α} {s' : St} (h : R.none = rOf o s') : False := by cases o <;> cases h
theorem Ci.quiet {α : Type} {m : M α} {s : St} {o : Out α} (hb : Bnd s) (h : ∀ t : St, t.cx = s.cx → m t = rOf o t) : Ci m s o s :=
 ⟨fun _ => False, fun _ => False, [], [], ⟨rfl, rfl, Nat.le_refl _, rfl, hb, fun _ e => e.elim, fun _ e => e.elim, fun _ _ => rfl,
   fun t e1 e2 e3 _ => ⟨t, h t e3, e1, e2, e3, rfl, rfl, fun _ e => e.elim, fun _ _ => rfl⟩⟩, fun _ e => e.elim, fun _ e => e.elim⟩
theorem Ab {α : Type} (a : α) : Loc (M.pure a) := ⟨fun s o s' h hb => by
 obtain ⟨rfl, rfl⟩ := AU h
 exact .quiet hb fun t _ => rfl⟩
theorem Ad {α : Type} : Loc (M.fail : M α) := ⟨fun s o s' h hb => (AH h).elim⟩
theorem Au {α : Type} (x : Option α) : Loc (M.ofOpt x) := by
 cases x with
 | none => exact Ad
 | some a => exact Ab a
theorem GP {α β : Type} {m : M α} {f : α → M β} {g : List PanicEntry → M β} (h : Loc m) (kf : ∀ a, Loc (f a)) (kg : ∀ c, Loc (g c)) :
   Loc (fun s => R.rec (motive := fun _ => R β) .none (fun a s => f a s) (fun c s => g c s) (m s)) := ⟨fun s o s' e hb => by
 cases e1 : m s with
 | none => rw [e1] at e; exact (AH e).elim
 | some a s1 =>
   rw [e1] at e
   have h1 := h.at' s (.inl a) s1 e1 hb
   exact h1.seq ((kf a).at' s1 o s' e h1.bnd) fun t t1 q => by rw [q]; rfl
 | pan c s1 =>
   rw [e1] at e
   have h1 := h.at' s (.inr c) s1 e1 hb
   exact h1.seq ((kg c).at' s1 o s' e h1.bnd) fun t t1 q => by rw [q]; rfl⟩
theorem Lr {α : Type} (c : List PanicEntry) : Loc (fun s => R.pan c s : M α) := ⟨fun s o s' h hb => by
 obtain ⟨rfl, rfl⟩ := GN h
 exact .quiet hb fun t _ => rfl⟩
theorem SG {α : Type} : Loc (fun _ => R.none : M α) := ⟨fun s o s' h hb => (AH h).elim⟩
theorem Aa {α β : Type} {m : M α} {f : α → M β} (h : Loc m) (k : ∀ a, Loc (f a)) : Loc (M.bind m f) := GP h k fun c => Lr c
theorem DX {α : Type} {m : M α} (h : Loc m) : Loc (noP m) := GP h (fun a => Ab a) fun _ => SG
theorem Ak {α : Type} (b : Bool) {m : M α} (h : Loc m) : Loc (M.chk b m) := by
 cases b with
 | false => exact Ad
 | true => exact h
theorem Aq {α : Type} (b : Bool) {m n : M α} (h : Loc m) (k : Loc n) : Loc (M.if b m n) := by cases b <;> assumption
theorem Ah {α β : Type} (x : Option α) {f : α → M β} (k : ∀ a, Loc (f a)) : Loc (M.on x f) := by
 cases x with
 | none => exact Ad
 | some a => exact k a
theorem Ao {α : Type} (n : Nat) {f : Nat → M α} (k : ∀ a, Loc (f a)) : Loc (fN n f) := by rw [AG]; exact k _
theorem Ar {α : Type} (n : Int) {f : Int → M α} (k : ∀ a, Loc (f a)) : Loc (fI n f) := by rw [BP]; exact k _
theorem Av {α : Type} (n : Addr) {f : Addr → M α} (k : ∀ a, Loc (f a)) : Loc (fA n f) := by rw [Cf]; exact k _
theorem Ax {α : Type} (v : Value) {f : IntKind → Int → M α} {d : M α} (h : ∀ k n, Loc (f k n)) (k : Loc d) : Loc (BV v f d) := by
 cases v <;> first | exact h _ _ | exact k
theorem Az {α : Type} (b : Bool) {m n : M α} (h : Loc m) (k : Loc n) : Loc (Bool.rec (motive := fun _ => M α) m n b) := by cases b <;> assumption
theorem Ap {α β : Type} (x : Option α) {m : M β} {f : α → M β} (h : Loc m) (k : ∀ a, Loc (f a)) : Loc (Option.rec (motive := fun _ => M β) m (fun a => f a) x) := by
 cases x with
 | none => exact h
 | some a => exact k a
theorem HJ (loc lim : Nat) (l : List Nat) : notes loc lim l = if loc < lim then loc :: l else l := by
 unfold notes
 cases h : Nat.blt loc lim with
 | true => rw [if_pos (A3 h)]
 | false => rw [if_neg]; intro h2; rw [show Nat.blt loc lim = true from Nat.ble_eq_true_of_le h2] at h; cases h
theorem DT (loc lim : Nat) (l : List Nat) : notes loc lim l = notes loc lim [] ++ l := by
 rw [HJ, HJ]
 split <;> rfl
theorem KU {loc lim : Nat} (h : loc < lim) : loc ∈ notes loc lim [] := by rw [HJ, if_pos h]; exact List.mem_cons_self
theorem Q1 (loc : Nat) (s : St) : rdC loc s = if loc < s.next then match T.get s.mem loc with | none => .none | some c => .some c ⟨s.mem, s.next, s.lim, notes loc s.lim s.rd, s.wr, s.cx⟩ else .none := by
 obtain ⟨mem, next, lim, rd, wr, cx⟩ := s
 unfold rdC
 simp only
 cases hb : Nat.blt loc next with
 | false => rw [if_neg]; intro h2; rw [show Nat.blt loc next = true from Nat.ble_eq_true_of_le h2] at hb; cases hb
 | true =>
   rw [if_pos (A3 hb)]
   cases T.get mem loc <;> rfl
theorem NL (loc : Nat) (c : Cell) (s : St) : wrC loc c s = if loc < s.next then .some () ⟨T.set s.mem loc c, s.next, s.lim, s.rd, notes loc s.lim s.wr, s.cx⟩ else .none := by
 obtain ⟨mem, next, lim, rd, wr, cx⟩ := s
 unfold wrC
 obtain ⟨v, l, r, e⟩ := T.set_N mem loc c
 simp only [e]
 cases hb : Nat.blt loc next with
 | false => rw [if_neg]; intro h2; rw [show Nat.blt loc next = true from Nat.ble_eq_true_of_le h2] at hb; cases hb
 | true => rw [if_pos (A3 hb)]
theorem Ni (loc : Nat) (s : St) : delC loc s = if loc < s.next then .some () ⟨T.del s.mem loc, s.next, s.lim, s.rd, notes loc s.lim s.wr, s.cx⟩ else .none := by
 obtain ⟨mem, next, lim, rd, wr, cx⟩ := s
 unfold delC
 simp only
 cases hb : Nat.blt loc next with
 | false => rw [if_neg]; intro h2; rw [show Nat.blt loc next = true from Nat.ble_eq_true_of_le h2] at hb; cases hb
 | true => rw [if_pos (A3 hb)]
theorem Qb (vs : List Value) (s : St) : newL vs s = .some s.next ⟨layL s.next vs s.next s.mem, s.next + vs.length + 1, s.lim, s.rd, s.wr, s.cx⟩ := by
 obtain ⟨mem, next, lim, rd, wr, cx⟩ := s
 have h0 : newL vs ⟨mem, next, lim, rd, wr, cx⟩ = fN next fun b => fN (Nat.succ (Nat.add b vs.length)) fun n => R.some b (St.mk (layL b vs b mem) n lim rd wr cx) := rfl
 rw [h0, AG, AG]
 rfl
theorem RR (o : AObj) (s : St) : newO o s = .some s.next ⟨T.set s.mem s.next (.O o), s.next + 1, s.lim, s.rd, s.wr, s.cx⟩ := by
 obtain ⟨mem, next, lim, rd, wr, cx⟩ := s
 have h0 : newO o ⟨mem, next, lim, rd, wr, cx⟩ = fN next fun b => fN (Nat.succ b) fun n => R.some b (St.mk (T.set mem b (.O o)) n lim rd wr cx) := rfl
 rw [h0, AG, AG]
theorem B1 (loc : Nat) : Loc (rdC loc) := ⟨fun s o s' h hb => by
 rw [Q1] at h
 split at h
 case isFalse => exact (AH h).elim
 case isTrue hl =>
   cases e : T.get s.mem loc with
   | none => rw [e] at h; exact (AH h).elim
   | some c =>
     rw [e] at h
     obtain ⟨rfl, rfl⟩ := AU h
     refine ⟨fun l => l = loc, fun _ => False, notes loc s.lim [], [], ⟨DT _ _ _, rfl, Nat.le_refl _, rfl, hb, fun l e1 => by rw [e1]; exact hl, fun _ e => e.elim, fun _ _ => rfl, fun t e1 e2 e3 e4 => ?_⟩, fun l e1 e2 => ?_, fun _ e => e.elim⟩
     · refine ⟨⟨t.mem, t.next, t.lim, notes loc t.lim t.rd, t.wr, t.cx⟩, ?_, e1, e2, e3, ?_, rfl, fun _ e => e.elim, fun _ _ => rfl⟩
       · rw [Q1, if_pos (by rw [e1]; exact hl), e4 loc (.inl rfl), e]; rfl
       · rw [← e2]; exact DT _ _ _
     · rw [e1]; exact KU (by rw [← e1]; exact e2)⟩
theorem BO (loc : Nat) (c : Cell) : Loc (wrC loc c) := ⟨fun s o s' h hb => by
 rw [NL] at h
 split at h
 case isFalse => exact (AH h).elim
 case isTrue hl =>
   obtain ⟨rfl, rfl⟩ := AU h
   refine ⟨fun _ => False, fun l => l = loc, [], notes loc s.lim [], ⟨rfl, DT _ _ _, Nat.le_refl _, rfl, hb, fun _ e => e.elim, fun l e1 => by rw [e1]; exact hl, fun l e => ?_, fun t e1 e2 e3 e4 => ?_⟩, fun _ e => e.elim, fun l e1 e2 => ?_⟩
   · simp only [T.get_set, if_neg e]
   · refine ⟨⟨T.set t.mem loc c, t.next, t.lim, t.rd, notes loc t.lim t.wr, t.cx⟩, ?_, e1, e2, e3, rfl, ?_, fun l e => ?_, fun l e => ?_⟩
     · rw [NL, if_pos (by rw [e1]; exact hl)]; rfl
     · rw [← e2]; exact DT _ _ _
     · simp only [T.get_set, if_pos e]
     · simp only [T.get_set, if_neg e]
   · rw [e1]; exact KU (by rw [← e1]; exact e2)⟩
theorem TW (loc : Nat) : Loc (delC loc) := ⟨fun s o s' h hb => by
 rw [Ni] at h
 split at h
 case isFalse => exact (AH h).elim
 case isTrue hl =>
   obtain ⟨rfl, rfl⟩ := AU h
   refine ⟨fun _ => False, fun l => l = loc, [], notes loc s.lim [], ⟨rfl, DT _ _ _, Nat.le_refl _, rfl, hb, fun _ e => e.elim, fun l e1 => by rw [e1]; exact hl, fun l e => ?_, fun t e1 e2 e3 e4 => ?_⟩, fun _ e => e.elim, fun l e1 e2 => ?_⟩
   · simp only [T.get_del, if_neg e]
   · refine ⟨⟨T.del t.mem loc, t.next, t.lim, t.rd, notes loc t.lim t.wr, t.cx⟩, ?_, e1, e2, e3, rfl, ?_, fun l e => ?_, fun l e => ?_⟩
     · rw [Ni, if_pos (by rw [e1]; exact hl)]; rfl
     · rw [← e2]; exact DT _ _ _
     · simp only [T.get_del, if_pos e]
     · simp only [T.get_del, if_neg e]
   · rw [e1]; exact KU (by rw [← e1]; exact e2)⟩
theorem IK (b : Nat) : ∀ (vs : List Value) (loc : Nat) (t : T Cell) (k : Nat), T.get (layL b vs loc t) k = if loc ≤ k ∧ k < loc + vs.length then (vs[k - loc]?).map (.C b) else T.get t k
 | [], loc, t, k => by rw [if_neg (fun e => by have := e.2; simp at this; omega)]; rfl
 | v :: vs, loc, t, k => by
   have h0 : layL b (v :: vs) loc t = fN loc fun loc => layL b vs (Nat.succ loc) (T.set t loc (.C b v)) := rfl
   rw [h0, AG, IK b vs]
   by_cases h1 : loc = k
   · subst h1
     rw [if_neg (by omega), if_pos (by simp), T.get_set, if_pos rfl]
     simp
   · by_cases h2 : loc ≤ k ∧ k < loc + (v :: vs).length
     · have h3 : k - loc = (k - Nat.succ loc) + 1 := by omega
       rw [if_pos h2, if_pos (by simp at h2 ⊢; omega), h3, List.getElem?_cons_succ]
     · rw [if_neg h2, if_neg (by simp at h2 ⊢; omega), T.get_set, if_neg (fun e => h1 e.symm)]
theorem Ev (vs : List Value) : Loc (newL vs) := ⟨fun s o s' h hb => by
 rw [Qb] at h
 obtain ⟨rfl, rfl⟩ := AU h
 refine ⟨fun _ => False, fun l => s.next ≤ l ∧ l < s.next + vs.length, [], [], ⟨rfl, rfl, by show s.next ≤ s.next + vs.length + 1; omega, rfl, ?_, fun _ e => e.elim, fun l e => ?_, fun l e => ?_, fun t e1 e2 e3 e4 => ?_⟩, fun _ e => e.elim, fun l e1 e2 => ?_⟩
 · show s.lim ≤ s.next + vs.length + 1
   unfold Bnd at hb; omega
 · show l < s.next + vs.length + 1
   omega
 · simp only [IK, if_neg e]
 · refine ⟨⟨layL t.next vs t.next t.mem, t.next + vs.length + 1, t.lim, t.rd, t.wr, t.cx⟩, ?_, by rw [e1], e2, e3, rfl, rfl, fun l e => ?_, fun l e => ?_⟩
   · rw [Qb, e1]; rfl
   · simp only [IK, e1, if_pos e]
   · simp only [IK, e1, if_neg e]
 · unfold Bnd at hb; omega⟩
theorem Fj (x : AObj) : Loc (newO x) := ⟨fun s o s' h hb => by
 rw [RR] at h
 obtain ⟨rfl, rfl⟩ := AU h
 refine ⟨fun _ => False, fun l => l = s.next, [], [], ⟨rfl, rfl, by show s.next ≤ s.next + 1; omega, rfl, ?_, fun _ e => e.elim, fun l e => ?_, fun l e => ?_, fun t e1 e2 e3 e4 => ?_⟩, fun _ e => e.elim, fun l e1 e2 => ?_⟩
 · show s.lim ≤ s.next + 1
   unfold Bnd at hb; omega
 · show l < s.next + 1
   omega
 · simp only [T.get_set, if_neg e]
 · refine ⟨⟨T.set t.mem t.next (.O x), t.next + 1, t.lim, t.rd, t.wr, t.cx⟩, ?_, by rw [e1], e2, e3, rfl, rfl, fun l e => ?_, fun l e => ?_⟩
   · rw [RR, e1]; rfl
   · simp only [T.get_set, e1, if_pos e]
   · simp only [T.get_set, e1, if_neg e]
 · unfold Bnd at hb; omega⟩
theorem Hx : Loc getCx := ⟨fun s o s' h hb => by
 obtain ⟨rfl, rfl⟩ := AU (show R.some s.cx s = rOf o s' from h)
 exact .quiet hb fun t e => by rw [← e]; rfl⟩
theorem JY (x : Ctx) : Loc (putCx x) := ⟨fun s o s' h hb => by
 obtain ⟨rfl, rfl⟩ := AU (show R.some () (St.mk s.mem s.next s.lim s.rd s.wr x) = rOf o s' from h)
 exact ⟨fun _ => False, fun _ => False, [], [], ⟨rfl, rfl, Nat.le_refl _, rfl, hb, fun _ e => e.elim, fun _ e => e.elim, fun _ _ => rfl,
   fun t e1 e2 e3 _ => ⟨St.mk t.mem t.next t.lim t.rd t.wr x, rfl, e1, e2, rfl, rfl, rfl, fun _ e => e.elim, fun _ _ => rfl⟩⟩, fun _ e => e.elim, fun _ e => e.elim⟩⟩
theorem DZ (a : Addr) : Loc (rdV a) := by
 obtain ⟨b, o, s⟩ := a
 cases s with
 | some x => exact Ad
 | none => exact Aa (B1 _) fun c => Au _
theorem Oz (a : Addr) (v : Value) : Loc (wrV a v) := by
 obtain ⟨b, o, s⟩ := a
 cases s with
 | some x => exact Ad
 | none => exact Aa (B1 _) fun c => Ak _ (BO _ _)
theorem EE : ∀ (n : Nat) (a : Addr), Loc (rdL n a)
 | 0, _ => Ab _
 | n + 1, a => by
   have h0 : rdL (n + 1) a = fA a fun a => M.bind (rdV a) fun v => M.bind (rdL n ⟨a.block, Nat.succ a.off, a.spot⟩) fun l => M.pure (v :: l) := rfl
   rw [h0]
   exact Av _ fun a => Aa (DZ a) fun v => Aa (EE n _) fun l => Ab _
theorem Hm : ∀ (vs : List Value) (a : Addr), Loc (wrL vs a)
 | [], _ => Ab _
 | v :: vs, a => by
   have h0 : wrL (v :: vs) a = fA a fun a => M.bind (wrV a v) fun _ => wrL vs ⟨a.block, Nat.succ a.off, a.spot⟩ := rfl
   rw [h0]
   exact Av _ fun a => Aa (Oz a v) fun v => Hm vs _
theorem OX : ∀ (n l : Nat), Loc (Ch n l)
 | 0, _ => Ab _
 | n + 1, l => by
   have h0 : Ch (n + 1) l = M.bind (delC l) fun _ => Ch n (l + 1) := rfl
   rw [h0]
   exact Aa (TW l) fun _ => OX n _
theorem A0 (x0 : _) (x1 : _) : Loc (ti x0 x1) := by
 unfold ti
 repeat' (first | exact Ab _ | exact Ad | exact Au _ | apply Aa | apply Ak | apply Aq | apply Ah | apply Ao | apply Ar | apply Av | apply Ax | apply Az | apply Ap | intro _ | split)
theorem G2 (x0 : _) : Loc (pV x0) := by
 unfold pV
 repeat' (first | exact Ab _ | exact Ad | exact Au _ | apply Aa | apply Ak | apply Aq | apply Ah | apply Ao | apply Ar | apply Av | apply Ax | apply Az | apply Ap | intro _ | split)
theorem YZ (x0 : _) (x1 : _) (x2 : _) (x3 : _) (x4 : _) : Loc (Ew x0 x1 x2 x3 x4) := by
 unfold Ew
 repeat' (first | exact Ab _ | exact Ad | exact Au _ | exact A0 _ _ | apply Aa | apply Ak | apply Aq | apply Ah | apply Ao | apply Ar | apply Av | apply Ax | apply Az | apply Ap | intro _ | split)
theorem VB (x0 : _) (x1 : _) : Loc (E5 x0 x1) := by
 unfold E5
 repeat' (first | exact Ab _ | exact Ad | exact Au _ | apply Aa | apply Ak | apply Aq | apply Ah | apply Ao | apply Ar | apply Av | apply Ax | apply Az | apply Ap | intro _ | split)
theorem S8 (x0 : _) (x1 : _) (x2 : _) : Loc (Fv x0 x1 x2) := by
 unfold Fv
 repeat' (first | exact Ab _ | exact Ad | exact Au _ | exact VB _ _ | apply Aa | apply Ak | apply Aq | apply Ah | apply Ao | apply Ar | apply Av | apply Ax | apply Az | apply Ap | intro _ | split)
theorem Eb_ (x0 : _) (x1 : _) (x2 : _) : Loc (neOp x0 x1 x2) := by
 unfold neOp
 refine Ah _ fun n => Ak _ ?_
 split
 · exact Ab _
 · exact Ab _
 · exact Ad
theorem AM_ (x0 : _) (x1 : _) (x2 : _) (x3 : _) (x4 : _) (x5 : _) (x6 : _) : Loc (AV x0 x1 x2 x3 x4 x5 x6) := by
 unfold AV
 repeat' (first | exact Ab _ | exact Ad | exact Au _ | exact S8 _ _ _ | exact Eb_ _ _ _ | exact YZ _ _ _ _ _ | exact G2 _ | apply Aa | apply Ak | apply Aq | apply Ah | apply Ao | apply Ar | apply Av | apply Ax | apply Az | apply Ap | intro _ | split)
theorem Ts (x0 : _) : Loc (lenOf x0) := by
 unfold lenOf
 repeat' (first | exact Ab _ | exact Ad | exact Au _ | apply Aa | apply Ak | apply Aq | apply Ah | apply Ao | apply Ar | apply Av | apply Ax | apply Az | apply Ap | intro _ | split)
theorem PQ (x0 : _) (x1 : _) (x2 : _) : Loc (Ed x0 x1 x2) := by
 unfold Ed
 repeat' (first | exact Ab _ | exact Ad | exact Au _ | exact A0 _ _ | exact EE _ _ | exact DZ _ | apply Aa | apply Ak | apply Aq | apply Ah | apply Ao | apply Ar | apply Av | apply Ax | apply Az | apply Ap | intro _ | split)
theorem ZO (x0 : _) (x1 : _) (x2 : _) (x3 : _) : Loc (Fm x0 x1 x2 x3) := by
 unfold Fm
 repeat' (first | exact Ab _ | exact Ad | exact Au _ | exact A0 _ _ | exact Hm _ _ | apply Aa | apply Ak | apply Aq | apply Ah | apply Ao | apply Ar | apply Av | apply Ax | apply Az | apply Ap | intro _ | split)
theorem Fw (x0 : _) : Loc (asA x0) := by
 unfold asA
 repeat' (first | exact Ab _ | exact Ad | exact Au _ | apply Aa | apply Ak | apply Aq | apply Ah | apply Ao | apply Ar | apply Av | apply Ax | apply Az | apply Ap | intro _ | split)
theorem IM (x0 : _) (x1 : _) (x2 : _) : Loc (bnd x0 x1 x2) := by
 unfold bnd
 repeat' (first | exact Ab _ | exact Ad | exact Au _ | apply Aa | apply Ak | apply Aq | apply Ah | apply Ao | apply Ar | apply Av | apply Ax | apply Az | apply Ap | intro _ | split)
theorem Kt (x0 : _) : Loc (ptrA x0) := by
 unfold ptrA
 repeat' (first | exact Ab _ | exact Ad | exact Au _ | apply Aa | apply Ak | apply Aq | apply Ah | apply Ao | apply Ar | apply Av | apply Ax | apply Az | apply Ap | intro _ | split)
theorem G8 (x0 : _) (x1 : _) (x2 : _) : Loc (pSl x0 x1 x2) := by
 unfold pSl
 repeat' (first | exact Ab _ | exact Ad | exact Au _ | apply Aa | apply Ak | apply Aq | apply Ah | apply Ao | apply Ar | apply Av | apply Ax | apply Az | apply Ap | intro _ | split)
theorem Im (x0 : _) : Loc (pN x0) := by
 unfold pN
 repeat' (first | exact Ab _ | exact Ad | exact Au _ | apply Aa | apply Ak | apply Aq | apply Ah | apply Ao | apply Ar | apply Av | apply Ax | apply Az | apply Ap | intro _ | split)
theorem Yu (x0 : _) (x1 : _) (x2 : _) (x3 : _) (x4 : _) : Loc (Ek x0 x1 x2 x3 x4) := by
 unfold Ek
 repeat' (first | exact Ab _ | exact Ad | exact Au _ | exact G8 _ _ _ | exact IM _ _ _ | apply Aa | apply Ak | apply Aq | apply Ah | apply Ao | apply Ar | apply Av | apply Ax | apply Az | apply Ap | intro _ | split)
theorem XU (x0 : _) (x1 : _) (x2 : _) (x3 : _) (x4 : _) (x5 : _) : Loc (slSl x0 x1 x2 x3 x4 x5) := by
 unfold slSl
 repeat' (first | exact Ab _ | exact Ad | exact Au _ | exact G8 _ _ _ | exact IM _ _ _ | apply Aa | apply Ak | apply Aq | apply Ah | apply Ao | apply Ar | apply Av | apply Ax | apply Az | apply Ap | intro _ | split)
theorem Ye (x0 : _) (x1 : _) (x2 : _) : Loc (Fe x0 x1 x2) := by
 unfold Fe
 repeat' (first | exact Ab _ | exact Ad | exact Au _ | exact IM _ _ _ | apply Aa | apply Ak | apply Aq | apply Ah | apply Ao | apply Ar | apply Av | apply Ax | apply Az | apply Ap | intro _ | split)
theorem Ed_ (x0 : _) (x1 : _) (x2 : _) (x3 : _) (x4 : _) : Loc (BM x0 x1 x2 x3 x4) := by
 unfold BM
 repeat' (first | exact Ab _ | exact Ad | exact Au _ | exact Ye _ _ _ | exact XU _ _ _ _ _ _ | exact Yu _ _ _ _ _ | exact IM _ _ _ | exact A0 _ _ | apply Aa | apply Ak | apply Aq | apply Ah | apply Ao | apply Ar | apply Av | apply Ax | apply Az | apply Ap | intro _ | split)
theorem Og (x0 : _) (x1 : _) (x2 : _) : Loc (srcL x0 x1 x2) := by
 unfold srcL
 repeat' (first | exact Ab _ | exact Ad | exact Au _ | exact EE _ _ | apply Aa | apply Ak | apply Aq | apply Ah | apply Ao | apply Ar | apply Av | apply Ax | apply Az | apply Ap | intro _ | split)
theorem CK_ (x0 : _) (x1 : _) (x2 : _) : Loc (appN x0 x1 x2) := by
 unfold appN
 repeat' (first | exact Ab _ | exact Ad | exact Au _ | apply Aa | apply Ak | apply Aq | apply Ah | apply Ao | apply Ar | apply Av | apply Ax | apply Az | apply Ap | intro _ | split)
theorem US (x0 : _) (x1 : _) (x2 : _) (x3 : _) : Loc (appL x0 x1 x2 x3) := by
 unfold appL
 repeat' (first | exact Ab _ | exact Ad | exact Au _ | exact Og _ _ _ | apply Aa | apply Ak | apply Aq | apply Ah | apply Ao | apply Ar | apply Av | apply Ax | apply Az | apply Ap | intro _ | split)
theorem Us (x0 : _) (x1 : _) (x2 : _) : Loc (oldL x0 x1 x2) := by
 unfold oldL
 repeat' (first | exact Ab _ | exact Ad | exact Au _ | exact EE _ _ | apply Aa | apply Ak | apply Aq | apply Ah | apply Ao | apply Ar | apply Av | apply Ax | apply Az | apply Ap | intro _ | split)
theorem Vt (x0 : _) (x1 : _) (x2 : _) : Loc (Ep x0 x1 x2) := by
 unfold Ep
 repeat' (first | exact Ab _ | exact Ad | exact Au _ | exact OX _ _ | apply Aa | apply Ak | apply Aq | apply Ah | apply Ao | apply Ar | apply Av | apply Ax | apply Az | apply Ap | intro _ | split)
theorem Gg_ (x0 : _) (x1 : _) (x2 : _) (x3 : _) : Loc (CC x0 x1 x2 x3) := by
 unfold CC
 repeat' (first | exact Ab _ | exact Ad | exact Au _ | exact Vt _ _ _ | exact BO _ _ | exact B1 _ | apply Aa | apply Ak | apply Aq | apply Ah | apply Ao | apply Ar | apply Av | apply Ax | apply Az | apply Ap | intro _ | split)
theorem Y4 (x0 : _) (x1 : _) (x2 : _) (x3 : _) (x4 : _) (x5 : _) (x6 : _) (x7 : _) : Loc (grow x0 x1 x2 x3 x4 x5 x6 x7) := by
 unfold grow
 repeat' (first | exact Ab _ | exact Ad | exact Au _ | exact Gg_ _ _ _ _ | exact Us _ _ _ | exact G8 _ _ _ | exact Ev _ | exact BO _ _ | apply Aa | apply Ak | apply Aq | apply Ah | apply Ao | apply Ar | apply Av | apply Ax | apply Az | apply Ap | intro _ | split)
theorem FP_ (x0 : _) (x1 : _) (x2 : _) (x3 : _) (x4 : _) (x5 : _) : Loc (D7 x0 x1 x2 x3 x4 x5) := by
 unfold D7
 repeat' (first | exact Ab _ | exact Ad | exact Au _ | exact G8 _ _ _ | exact Hm _ _ | apply Aa | apply Ak | apply Aq | apply Ah | apply Ao | apply Ar | apply Av | apply Ax | apply Az | apply Ap | intro _ | split)
theorem UD (x0 : _) (x1 : _) (x2 : _) (x3 : _) (x4 : _) : Loc (BR x0 x1 x2 x3 x4) := by
 unfold BR
 repeat' (first | exact Ab _ | exact Ad | exact Au _ | exact FP_ _ _ _ _ _ _ | exact Y4 _ _ _ _ _ _ _ _ | exact US _ _ _ _ | exact CK_ _ _ _ | exact A0 _ _ | apply Aa | apply Ak | apply Aq | apply Ah | apply Ao | apply Ar | apply Av | apply Ax | apply Az | apply Ap | intro _ | split)
theorem Bo_ (x0 : _) (x1 : _) (x2 : _) : Loc (Cv x0 x1 x2) := by
 unfold Cv
 repeat' (first | exact Ab _ | exact Ad | exact Au _ | exact A0 _ _ | apply Aa | apply Ak | apply Aq | apply Ah | apply Ao | apply Ar | apply Av | apply Ax | apply Az | apply Ap | intro _ | split)
theorem Gp_ (x0 : _) (x1 : _) (x2 : _) (x3 : _) : Loc (CS x0 x1 x2 x3) := by
 unfold CS
 repeat' (first | exact Ab _ | exact Ad | exact Au _ | exact A0 _ _ | exact Ev _ | exact BO _ _ | apply Aa | apply Ak | apply Aq | apply Ah | apply Ao | apply Ar | apply Av | apply Ax | apply Az | apply Ap | intro _ | split)
theorem KQ (x0 : _) (x1 : _) (x2 : _) (x3 : _) : Loc (CB x0 x1 x2 x3) := by
 unfold CB
 repeat' (first | exact Ab _ | exact Ad | exact Au _ | exact A0 _ _ | apply Aa | apply Ak | apply Aq | apply Ah | apply Ao | apply Ar | apply Av | apply Ax | apply Az | apply Ap | intro _ | split)
theorem Tc (x0 : _) (x1 : _) (x2 : _) (x3 : _) (x4 : _) : Loc (EW x0 x1 x2 x3 x4) := by
 unfold EW
 repeat' (first | exact Ab _ | exact Ad | exact Au _ | exact Og _ _ _ | exact Im _ | exact Ts _ | exact A0 _ _ | exact Hm _ _ | apply Aa | apply Ak | apply Aq | apply Ah | apply Ao | apply Ar | apply Av | apply Ax | apply Az | apply Ap | intro _ | split)
theorem DR (x0 : _) : Loc (mapAt x0) := by
 unfold mapAt
 repeat' (first | exact Ab _ | exact Ad | exact Au _ | exact B1 _ | apply Aa | apply Ak | apply Aq | apply Ah | apply Ao | apply Ar | apply Av | apply Ax | apply Az | apply Ap | intro _ | split)
theorem WJ (x0 : _) : Loc (DO x0) := by
 unfold DO
 repeat' (first | exact Ab _ | exact Ad | exact Au _ | exact DR _ | exact Im _ | apply Aa | apply Ak | apply Aq | apply Ah | apply Ao | apply Ar | apply Av | apply Ax | apply Az | apply Ap | intro _ | split)
theorem FE_ (x0 : _) (x1 : _) (x2 : _) : Loc (aLen x0 x1 x2) := by
 unfold aLen
 repeat' (first | exact Ab _ | exact Ad | exact Au _ | exact WJ _ | exact Im _ | exact A0 _ _ | apply Aa | apply Ak | apply Aq | apply Ah | apply Ao | apply Ar | apply Av | apply Ax | apply Az | apply Ap | intro _ | split)
theorem YR (x0 : _) (x1 : _) (x2 : _) : Loc (aCap x0 x1 x2) := by
 unfold aCap
 repeat' (first | exact Ab _ | exact Ad | exact Au _ | exact Im _ | exact A0 _ _ | apply Aa | apply Ak | apply Aq | apply Ah | apply Ao | apply Ar | apply Av | apply Ax | apply Az | apply Ap | intro _ | split)
theorem Eq_ (x0 : _) (x1 : _) (x2 : _) : Loc (FY x0 x1 x2) := by
 unfold FY
 repeat' (first | exact Ab _ | exact Ad | exact Au _ | exact A0 _ _ | exact Hm _ _ | apply Aa | apply Ak | apply Aq | apply Ah | apply Ao | apply Ar | apply Av | apply Ax | apply Az | apply Ap | intro _ | split)
theorem R8 (x0 : _) : Loc (zeroV x0) := by
 unfold zeroV
 repeat' (first | exact Ab _ | exact Ad | exact Au _ | apply Aa | apply Ak | apply Aq | apply Ah | apply Ao | apply Ar | apply Av | apply Ax | apply Az | apply Ap | intro _ | split)
theorem F5 (E : _) (e : _) (t : _) (k : _) (es : _) : Loc (BX E e t k es) := Ak _ (Ah _ fun _ => Ab _)
theorem Ln (x0 : _) (x1 : _) (x2 : _) : Loc (CW x0 x1 x2) := by
 unfold CW
 repeat' (first | exact Ab _ | exact Ad | exact Au _ | apply Aa | apply Ak | apply Aq | apply Ah | apply Ao | apply Ar | apply Av | apply Ax | apply Az | apply Ap | intro _ | split)
theorem Ml (x0 : _) (x1 : _) : Loc (zeroOf x0 x1) := by
 unfold zeroOf
 repeat' (first | exact Ab _ | exact Ad | exact Au _ | exact R8 _ | exact A0 _ _ | apply Aa | apply Ak | apply Aq | apply Ah | apply Ao | apply Ar | apply Av | apply Ax | apply Az | apply Ap | intro _ | split)
theorem BK_ (E : _) (a : _) (b : _) (k : _) (c : _) : Loc (MR E a b k c) := Aa (F5 _ _ _ _ _) fun r => by
   cases r with
   | none => exact Aa (Ml _ _) fun _ => Ln _ _ _
   | some j => exact Ad
theorem CZ_ (E : _) (a : _) (b : _) (k : _) (c : _) (es : _) : Loc (CV E a b k c es) := Aa (F5 _ _ _ _ _) fun r => by
   cases r with
   | none => exact Aa (Ml _ _) fun _ => Ln _ _ _
   | some j => exact Ah _ fun _ => Ln _ _ _
theorem G6 (x0 : _) (x1 : _) : Loc (mapT x0 x1) := by
 unfold mapT
 repeat' (first | exact Ab _ | exact Ad | exact Au _ | exact A0 _ _ | apply Aa | apply Ak | apply Aq | apply Ah | apply Ao | apply Ar | apply Av | apply Ax | apply Az | apply Ap | intro _ | split)
theorem Zk (E : _) (t : _) (c : _) (x : _) (k : _) : Loc (DL E t c x k) := Aa (G6 _ _) fun ke => by
   cases x with
   | map m =>
     cases m with
     | none => exact BK_ _ _ _ _ _
     | some l => exact Aa (DR _) fun p => CZ_ _ _ _ _ _ _
   | _ => exact Ad
theorem Yz (E : _) (t : _) (k : _) (x : _) (l : _) (p : _) : Loc (putE E t k x l p) := Aa (F5 _ _ _ _ _) fun r => by
   cases r with
   | none => exact BO _ _
   | some j => exact Ah _ fun _ => Ak _ (BO _ _)
theorem N1 (E : _) (t : _) (m : _) (k : _) (x : _) : Loc (DF E t m k x) := Aa (G6 _ _) fun ke => by
   cases m with
   | map m =>
     cases m with
     | none => exact Ad
     | some l => exact Aa (DR _) fun p => Aa (Yz _ _ _ _ _ _) fun _ => Ab _
   | _ => exact Ad
theorem XG (E : _) (a : _) (b : _) (k : _) (l : _) (p : _) : Loc (entE E a b k l p) := Aa (F5 _ _ _ _ _) fun r => by
   cases r with
   | none => exact Aa (Ml _ _) fun _ => Aa (BO _ _) fun _ => Ab _
   | some j => exact Ah _ fun _ => Ak _ (Aa (BO _ _) fun _ => Ab _)
theorem Dq_ (E : _) (t : _) (m : _) (k : _) : Loc (GE E t m k) := Aa (G6 _ _) fun ke => by
   cases m with
   | map m =>
     cases m with
     | none => exact Ad
     | some l => exact Aa (DR _) fun p => XG _ _ _ _ _ _
   | _ => exact Ad
theorem UH (x0 : _) (x1 : _) (x2 : _) : Loc (DN x0 x1 x2) := by
 unfold DN
 repeat' (first | exact Ab _ | exact Ad | exact Au _ | exact DR _ | exact BO _ _ | apply Aa | apply Ak | apply Aq | apply Ah | apply Ao | apply Ar | apply Av | apply Ax | apply Az | apply Ap | intro _ | split)
theorem Rn : Loc (C8) := by
 unfold C8
 repeat' (first | exact Ab _ | exact Ad | exact Au _ | exact Fj _ | apply Aa | apply Ak | apply Aq | apply Ah | apply Ao | apply Ar | apply Av | apply Ax | apply Az | apply Ap | intro _ | split)
theorem By_ (x0 : _) (x1 : _) (x2 : _) : Loc (Eo x0 x1 x2) := by
 unfold Eo
 repeat' (first | exact Ab _ | exact Ad | exact Au _ | exact Rn | exact G6 _ _ | apply Aa | apply Ak | apply Aq | apply Ah | apply Ao | apply Ar | apply Av | apply Ax | apply Az | apply Ap | intro _ | split)
theorem W8 (E : _) (t : _) (m : _) (k : _) : Loc (kDel E t m k) := Aa (G6 _ _) fun ke => by
   cases m with
   | map m =>
     cases m with
     | none => exact Aa (F5 _ _ _ _ _) fun _ => Ab _
     | some l => exact Aa (DR _) fun p => Aa (F5 _ _ _ _ _) fun r => by cases r <;> exact Aa (BO _ _) fun _ => Ab _
   | _ => exact Ad
theorem Z8 (x0 : _) (x1 : _) (x2 : _) (x3 : _) : Loc (Bt x0 x1 x2 x3) := by
 unfold Bt
 repeat' (first | exact Ab _ | exact Ad | exact Au _ | exact W8 _ _ _ _ | exact Eq_ _ _ _ | exact YR _ _ _ | exact FE_ _ _ _ | exact Tc _ _ _ _ _ | exact UD _ _ _ _ _ | exact G2 _ | apply Aa | apply Ak | apply Aq | apply Ah | apply Ao | apply Ar | apply Av | apply Ax | apply Az | apply Ap | intro _ | split)
theorem YG (x0 : _) (x1 : _) (x2 : _) (x3 : _) : Loc (idxN x0 x1 x2 x3) := by
 unfold idxN
 repeat' (first | exact Ab _ | exact Ad | exact Au _ | exact Kt _ | exact A0 _ _ | apply Aa | apply Ak | apply Aq | apply Ah | apply Ao | apply Ar | apply Av | apply Ax | apply Az | apply Ap | intro _ | split)
theorem Ku (x0 : _) : Loc (asN x0) := by
 unfold asN
 repeat' (first | exact Ab _ | exact Ad | exact Au _ | apply Aa | apply Ak | apply Aq | apply Ah | apply Ao | apply Ar | apply Av | apply Ax | apply Az | apply Ap | intro _ | split)
theorem Dy_ (x0 : _) (x1 : _) (x2 : _) : Loc (Cd x0 x1 x2) := by
 unfold Cd
 repeat' (first | exact Ab _ | exact Ad | exact Au _ | apply Aa | apply Ak | apply Aq | apply Ah | apply Ao | apply Ar | apply Av | apply Ax | apply Az | apply Ap | intro _ | split)
theorem Oo (x0 : _) : Loc (ptrN x0) := by
 unfold ptrN
 repeat' (first | exact Ab _ | exact Ad | exact Au _ | apply Aa | apply Ak | apply Aq | apply Ah | apply Ao | apply Ar | apply Av | apply Ax | apply Az | apply Ap | intro _ | split)
theorem U9 (x0 : _) (x1 : _) : Loc (BZ x0 x1) := by
 unfold BZ
 repeat' (first | exact Ab _ | exact Ad | exact Au _ | exact Oo _ | exact A0 _ _ | exact Ev _ | apply Aa | apply Ak | apply Aq | apply Ah | apply Ao | apply Ar | apply Av | apply Ax | apply Az | apply Ap | intro _ | split)
theorem Fb_ (x0 : _) : Loc (kBox x0) := by
 unfold kBox
 repeat' (first | exact Ab _ | exact Ad | exact Au _ | exact Oo _ | exact Ev _ | apply Aa | apply Ak | apply Aq | apply Ah | apply Ao | apply Ar | apply Av | apply Ax | apply Az | apply Ap | intro _ | split)
theorem U3 (x0 : _) (x1 : _) (x2 : _) : Loc (A6 x0 x1 x2) := by
 unfold A6
 repeat' (first | exact Ab _ | exact Ad | exact Au _ | exact Fw _ | exact PQ _ _ _ | apply Aa | apply Ak | apply Aq | apply Ah | apply Ao | apply Ar | apply Av | apply Ax | apply Az | apply Ap | intro _ | split)
theorem To (x0 : _) (x1 : _) (x2 : _) (x3 : _) : Loc (Bp x0 x1 x2 x3) := by
 unfold Bp
 repeat' (first | exact Ab _ | exact Ad | exact Au _ | exact Fw _ | exact ZO _ _ _ _ | apply Aa | apply Ak | apply Aq | apply Ah | apply Ao | apply Ar | apply Av | apply Ax | apply Az | apply Ap | intro _ | split)
theorem AW_ (x0 : _) : Loc (kNil x0) := by
 unfold kNil
 repeat' (first | exact Ab _ | exact Ad | exact Au _ | apply Aa | apply Ak | apply Aq | apply Ah | apply Ao | apply Ar | apply Av | apply Ax | apply Az | apply Ap | intro _ | split)
theorem VW (b : Bool) : Loc (pB b) := by cases b <;> exact Ab _
theorem Jd (x0 : _) (x1 : _) (x2 : _) : Loc (Cm x0 x1 x2) := by
 unfold Cm
 repeat' (first | exact Ab _ | exact Ad | exact Au _ | exact G2 _ | apply Aa | apply Ak | apply Aq | apply Ah | apply Ao | apply Ar | apply Av | apply Ax | apply Az | apply Ap | intro _ | split)
theorem Wu (P : Program) (v : Value) : Loc (xorU P v) := by
 have h := Jd P .xor v
 cases v with
 | int k n =>
   cases n with
   | negSucc m => exact Jd P .xor (.int k (.negSucc m))
   | ofNat m =>
     show Loc (Option.rec (motive := fun _ => M Value) (Cm P .xor (.int k (.ofNat m))) (fun x => M.pure x) (notK k m))
     exact Ap _ (Jd _ _ _) fun _ => Ab _
 | _ => exact h
theorem Vp (x0 : _) (x1 : _) (x2 : _) : Loc (kUn x0 x1 x2) := by
 unfold kUn
 repeat' (first | exact Ab _ | exact Ad | exact Au _ | exact Wu _ _ | exact Jd _ _ _ | exact VW _ | apply Aa | apply Ak | apply Aq | apply Ah | apply Ao | apply Ar | apply Av | apply Ax | apply Az | apply Ap | intro _ | split)
theorem TL (x0 : _) (x1 : _) : Loc (strOf x0 x1) := by
 unfold strOf
 repeat' (first | exact Ab _ | exact Ad | exact Au _ | exact EE _ _ | apply Aa | apply Ak | apply Aq | apply Ah | apply Ao | apply Ar | apply Av | apply Ax | apply Az | apply Ap | intro _ | split)
theorem EL_ (x0 : _) (x1 : _) (x2 : _) (x3 : _) (x4 : _) : Loc (Es x0 x1 x2 x3 x4) := by
 unfold Es
 repeat' (first | exact Ab _ | exact Ad | exact Au _ | exact TL _ _ | exact A0 _ _ | apply Aa | apply Ak | apply Aq | apply Ah | apply Ao | apply Ar | apply Av | apply Ax | apply Az | apply Ap | intro _ | split)
theorem Fc_ (x0 : _) (x1 : _) (x2 : _) (x3 : _) (x4 : _) : Loc (EQ x0 x1 x2 x3 x4) := by
 unfold EQ
 repeat' (first | exact Ab _ | exact Ad | exact Au _ | exact G2 _ | exact A0 _ _ | apply Aa | apply Ak | apply Aq | apply Ah | apply Ao | apply Ar | apply Av | apply Ax | apply Az | apply Ap | intro _ | split)
theorem Ko (x0 : _) (x1 : _) (x2 : _) (x3 : _) : Loc (CY x0 x1 x2 x3) := by
 unfold CY
 repeat' (first | exact Ab _ | exact Ad | exact Au _ | exact Fc_ _ _ _ _ _ | exact EL_ _ _ _ _ _ | exact G2 _ | apply Aa | apply Ak | apply Aq | apply Ah | apply Ao | apply Ar | apply Av | apply Ax | apply Az | apply Ap | intro _ | split)
theorem Ps (x0 : _) (x1 : _) : Loc (rowN x0 x1) := by
 unfold rowN
 repeat' (first | exact Ab _ | exact Ad | exact Au _ | exact G8 _ _ _ | exact Ev _ | exact BO _ _ | apply Aa | apply Ak | apply Aq | apply Ah | apply Ao | apply Ar | apply Av | apply Ax | apply Az | apply Ap | intro _ | split)
theorem VU (l : List UInt8) : Loc (Ez l) := by
 unfold Ez
 rw [Ib]
 exact Ao _ fun n => Ps _ _
theorem Ha_ (x0 : _) (x1 : _) (x2 : _) (x3 : _) : Loc (Fy x0 x1 x2 x3) := by
 unfold Fy
 repeat' (first | exact Ab _ | exact Ad | exact Au _ | exact VU _ | exact Ko _ _ _ _ | exact A0 _ _ | apply Aa | apply Ak | apply Aq | apply Ah | apply Ao | apply Ar | apply Av | apply Ax | apply Az | apply Ap | intro _ | split)
theorem Dd_ (x0 : _) (x1 : _) (x2 : _) (x3 : _) (x4 : _) (x5 : _) : Loc (Dj x0 x1 x2 x3 x4 x5) := by
 unfold Dj
 repeat' (first | exact Ab _ | exact Ad | exact Au _ | exact Ko _ _ _ _ | exact A0 _ _ | exact EE _ _ | exact B1 _ | apply Aa | apply Ak | apply Aq | apply Ah | apply Ao | apply Ar | apply Av | apply Ax | apply Az | apply Ap | intro _ | split)
theorem DQ_ (x0 : _) (x1 : _) (x2 : _) (x3 : _) : Loc (Bz x0 x1 x2 x3) := by
 unfold Bz
 repeat' (first | exact Ab _ | exact Ad | exact Au _ | exact Dd_ _ _ _ _ _ _ | exact Ha_ _ _ _ _ | exact Ko _ _ _ _ | apply Aa | apply Ak | apply Aq | apply Ah | apply Ao | apply Ar | apply Av | apply Ax | apply Az | apply Ap | intro _ | split)
theorem YI (x0 : _) (x1 : _) : Loc (FW x0 x1) := by
 unfold FW
 repeat' (first | exact Ab _ | exact Ad | exact Au _ | apply Aa | apply Ak | apply Aq | apply Ah | apply Ao | apply Ar | apply Av | apply Ax | apply Az | apply Ap | intro _ | split)
theorem Ft_ (x0 : _) (x1 : _) (x2 : _) : Loc (CR x0 x1 x2) := by
 unfold CR
 repeat' (first | exact Ab _ | exact Ad | exact Au _ | exact YI _ _ | exact A0 _ _ | apply Aa | apply Ak | apply Aq | apply Ah | apply Ao | apply Ar | apply Av | apply Ax | apply Az | apply Ap | intro _ | split)
theorem T0 (x0 : _) (x1 : _) (x2 : _) : Loc (Ey x0 x1 x2) := by
 unfold Ey
 repeat' (first | exact Ab _ | exact Ad | exact Au _ | exact A0 _ _ | apply Aa | apply Ak | apply Aq | apply Ah | apply Ao | apply Ar | apply Av | apply Ax | apply Az | apply Ap | intro _ | split)
theorem WL (x0 : _) (x1 : _) (x2 : _) (x3 : _) : Loc (mkSl x0 x1 x2 x3) := by
 unfold mkSl
 repeat' (first | exact Ab _ | exact Ad | exact Au _ | exact A0 _ _ | exact Ev _ | apply Aa | apply Ak | apply Aq | apply Ah | apply Ao | apply Ar | apply Av | apply Ax | apply Az | apply Ap | intro _ | split)
theorem Fz_ (x0 : _) (x1 : _) (x2 : _) (x3 : _) : Loc (Dx x0 x1 x2 x3) := by
 unfold Dx
 repeat' (first | exact Ab _ | exact Ad | exact Au _ | exact WL _ _ _ _ | exact Ku _ | exact A0 _ _ | apply Aa | apply Ak | apply Aq | apply Ah | apply Ao | apply Ar | apply Av | apply Ax | apply Az | apply Ap | intro _ | split)
theorem HP (x0 : _) (x1 : _) (x2 : _) : Loc (Cs x0 x1 x2) := by
 unfold Cs
 repeat' (first | exact Ab _ | exact Ad | exact Au _ | exact A0 _ _ | apply Aa | apply Ak | apply Aq | apply Ah | apply Ao | apply Ar | apply Av | apply Ax | apply Az | apply Ap | intro _ | split)
theorem Vh (x0 : _) (x1 : _) (x2 : _) (x3 : _) : Loc (kFld x0 x1 x2 x3) := by
 unfold kFld
 repeat' (first | exact Ab _ | exact Ad | exact Au _ | exact HP _ _ _ | exact Kt _ | exact Fw _ | exact A0 _ _ | apply Aa | apply Ak | apply Aq | apply Ah | apply Ao | apply Ar | apply Av | apply Ax | apply Az | apply Ap | intro _ | split)
theorem Oj (x0 : _) : Loc (asCs x0) := by
 unfold asCs
 repeat' (first | exact Ab _ | exact Ad | exact Au _ | apply Aa | apply Ak | apply Aq | apply Ah | apply Ao | apply Ar | apply Av | apply Ax | apply Az | apply Ap | intro _ | split)
theorem V5 (x0 : _) (x1 : _) (x2 : _) (x3 : _) : Loc (EL x0 x1 x2 x3) := by
 unfold EL
 repeat' (first | exact Ab _ | exact Ad | exact Au _ | exact Oj _ | exact HP _ _ _ | exact KQ _ _ _ _ | exact A0 _ _ | apply Aa | apply Ak | apply Aq | apply Ah | apply Ao | apply Ar | apply Av | apply Ax | apply Az | apply Ap | intro _ | split)
theorem SR (x0 : _) (x1 : _) (x2 : _) (x3 : _) : Loc (Cj x0 x1 x2 x3) := by
 unfold Cj
 repeat' (first | exact Ab _ | exact Ad | exact Au _ | exact Ku _ | exact YG _ _ _ _ | exact A0 _ _ | apply Aa | apply Ak | apply Aq | apply Ah | apply Ao | apply Ar | apply Av | apply Ax | apply Az | apply Ap | intro _ | split)
theorem Z4 (x0 : _) (x1 : _) (x2 : _) (x3 : _) : Loc (idxV x0 x1 x2 x3) := by
 unfold idxV
 repeat' (first | exact Ab _ | exact Ad | exact Au _ | exact KQ _ _ _ _ | exact A0 _ _ | apply Aa | apply Ak | apply Aq | apply Ah | apply Ao | apply Ar | apply Av | apply Ax | apply Az | apply Ap | intro _ | split)
theorem VF (x0 : _) (x1 : _) (x2 : _) (x3 : _) : Loc (kIdx x0 x1 x2 x3) := by
 unfold kIdx
 repeat' (first | exact Ab _ | exact Ad | exact Au _ | exact Z4 _ _ _ _ | exact Ku _ | exact A0 _ _ | apply Aa | apply Ak | apply Aq | apply Ah | apply Ao | apply Ar | apply Av | apply Ax | apply Az | apply Ap | intro _ | split)
theorem AQ_ (x0 : _) (x1 : _) : Loc (kExt x0 x1) := by
 unfold kExt
 repeat' (first | exact Ab _ | exact Ad | exact Au _ | apply Aa | apply Ak | apply Aq | apply Ah | apply Ao | apply Ar | apply Av | apply Ax | apply Az | apply Ap | intro _ | split)
theorem S7 (x0 : _) (x1 : _) (x2 : _) : Loc (okV x0 x1 x2) := by
 unfold okV
 repeat' (first | exact Ab _ | exact Ad | exact Au _ | apply Aa | apply Ak | apply Aq | apply Ah | apply Ao | apply Ar | apply Av | apply Ax | apply Az | apply Ap | intro _ | split)
theorem XE (x0 : _) (x1 : _) (x2 : _) : Loc (EK x0 x1 x2) := by
 unfold EK
 repeat' (first | exact Ab _ | exact Ad | exact Au _ | exact A0 _ _ | exact Fj _ | apply Aa | apply Ak | apply Aq | apply Ah | apply Ao | apply Ar | apply Av | apply Ax | apply Az | apply Ap | intro _ | split)
theorem Tx (x0 : _) (x1 : _) (x2 : _) : Loc (sitN x0 x1 x2) := by
 unfold sitN
 repeat' (first | exact Ab _ | exact Ad | exact Au _ | exact BO _ _ | apply Aa | apply Ak | apply Aq | apply Ah | apply Ao | apply Ar | apply Av | apply Ax | apply Az | apply Ap | intro _ | split)
theorem TZ (x0 : _) : Loc (DU x0) := by
 unfold DU
 repeat' (first | exact Ab _ | exact Ad | exact Au _ | exact Tx _ _ _ | exact B1 _ | apply Aa | apply Ak | apply Aq | apply Ah | apply Ao | apply Ar | apply Av | apply Ax | apply Az | apply Ap | intro _ | split)
theorem Fw_ (x0 : _) (x1 : _) (x2 : _) (x3 : _) : Loc (EO x0 x1 x2 x3) := by
 unfold EO
 repeat' (first | exact Ab _ | exact Ad | exact Au _ | exact S7 _ _ _ | exact R8 _ | exact A0 _ _ | apply Aa | apply Ak | apply Aq | apply Ah | apply Ao | apply Ar | apply Av | apply Ax | apply Az | apply Ap | intro _ | split)
theorem YE : Loc (GA) := by
 unfold GA
 repeat' (first | exact Ab _ | exact Ad | exact Au _ | exact JY _ | exact Hx | apply Aa | apply Ak | apply Aq | apply Ah | apply Ao | apply Ar | apply Av | apply Ax | apply Az | apply Ap | intro _ | split)
theorem Cy_ (x0 : _) (x1 : _) : Loc (Gs x0 x1) := by
 unfold Gs
 repeat' (first | exact Ab _ | exact Ad | exact Au _ | exact JY _ | exact Hx | apply Aa | apply Ak | apply Aq | apply Ah | apply Ao | apply Ar | apply Av | apply Ax | apply Az | apply Ap | intro _ | split)
end Go.Proofs.YtchnfdaebboaeaaGreatDoor.Am
