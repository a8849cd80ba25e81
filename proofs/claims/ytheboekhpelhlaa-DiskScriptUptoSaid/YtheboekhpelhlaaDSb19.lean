import Derived.Test.YtheboekhpelhlaaDSb18
noncomputable section
namespace Go.Proofs.Ytheboekhpelhlaa.Am
open Go.RowKit
def G9 (v : Value) : Bool := match v with | .int .u8 _ => true | _ => false
def Ex (a : Addr) (n c : Nat) : M Value :=
  M.chk (Nat.blt 0 n && Nat.ble n 16777216 && Nat.beq (Nat.mod c capU) n && Nat.beq (Nat.mod (Nat.div c capU) 1024) 1) (M.bind (rdL n a) fun l => M.chk (l.all G9) (M.bind (rdC (Nat.div (Nat.div c capU) 1024)) fun x => match x with
    | .O (.tok false q) => M.chk (Nat.beq q 1025) (M.bind (wrC (Nat.div (Nat.div c capU) 1024) (.O (.tok true 1))) fun _ => M.bind (Cg n (Nat.add a.block a.off)) fun _ => M.pure (.tuple #[]))
    | _ => aC))
def Gj (args : List Value) : M Value :=
  match args with
  | [.slice none 0 0] => M.pure (.tuple #[])
  | [.slice (some a) n c] => Ex a n c
  | _ => aC
theorem AkS_ (args : List Value) : Loc (Gj args) := by
  unfold Gj
  split
  · exact Ah _
  · unfold Ex
    refine AS _ (Ae (FZ _ _) fun l => AS _ (Ae (DY _) fun x => ?_))
    split
    · exact AS _ (Ae (C1 _ _) fun _ => Ae (JA _ _) fun _ => Ah _)
    · exact Al
  · exact Al
theorem AqV_ (args : List Value) : NoPan (Gj args) := by
  unfold Gj
  split
  · exact Aq _
  · unfold Ex
    refine A4 _ (Ak (FN _ _) fun l => A4 _ (Ak (EY _) fun x => ?_))
    split
    · exact A4 _ (Ak (Da _ _) fun _ => Ak (Jr _ _) fun _ => Aq _)
    · exact Av
  · exact Av
theorem VP_ : OrcOK Try.prog 13 Gj := LT Try.func13 (by kernel_rfl) (by kernel_rfl) AkS_ AqV_ (by
  intro w0 w r args args' s s' v h hr hf ha
  unfold Gj at h
  split at h
  · obtain ⟨rfl, rfl⟩ := Af h
    obtain ⟨p', l', rfl, q1, q2⟩ := ha.inv
    have := q2.inv_nil
    subst this
    have := q1.eq_of_plain rfl
    subst this
    exact ⟨_, AlN_ w, fun e w' ⟨he, hw⟩ => ⟨_, r, he, .undef, by rw [hw]; exact .same (.refl _) hr, rfl, rfl⟩⟩
  · rename_i a n c
    obtain ⟨p', l', rfl, q1, q2⟩ := ha.inv
    have := q2.inv_nil
    subst this
    unfold Ex at h
    obtain ⟨hc, h⟩ := AV h
    simp only [Bool.and_eq_true] at hc
    obtain ⟨⟨⟨c1, c0⟩, c2⟩, c3⟩ := hc
    have hnb := Nat.le_of_ble_eq_true c0
    have hn : 0 < n := Bg c1
    have hcn : c % capU = n := Nat.eq_of_beq_eq_true c2
    have hcs : c / capU % 1024 = 1 := Nat.eq_of_beq_eq_true c3
    obtain ⟨l, s1, h1, h⟩ := bind_some h
    obtain ⟨hl8, h⟩ := AV h
    obtain ⟨x, s2, h2, h⟩ := bind_some h
    obtain ⟨g2, hx⟩ := DW h2
    split at h
    · rename_i q
      obtain ⟨hq, h⟩ := AV h
      have hq' : q = 1025 := Nat.eq_of_beq_eq_true hq
      subst hq'
      obtain ⟨u3, s3, h3, h⟩ := bind_some h
      obtain ⟨u4, s4, h4, h⟩ := bind_some h
      obtain ⟨rfl, rfl⟩ := Af h
      rcases q1.sl_inv with ⟨a2, cc, rfl, ha2, hcap, hlen⟩ | ⟨_, _, e0, _⟩
      case inr => omega
      rcases hcap with ⟨e1, _⟩ | ⟨_, k, k1, k2, k3, k4, k5⟩
      · rw [e1] at hcs; omega
      obtain ⟨l', g1, g3, g4, g5⟩ := DS _ h1 hr ha2
      obtain ⟨t1, t2, t3, t4⟩ := Gd h3
      obtain ⟨u1, u2, u3, u4⟩ := Jv _ _ h4
      have e2 := g5.trans hx
      have g2' : T.get s.mem (c / capU / 1024) = some (.O (.tok false 1025)) := by
        rw [← g5.1]
        exact g2
      obtain ⟨k', x1, x2, x3, x4, x5, x6⟩ := hr.tok _ _ g2'
      rw [k1] at x1
      cases x1
      obtain ⟨b0, o0, bb, d, rfl, rfl, hblk⟩ := ha2
      subst k4
      have hmem0 := JX _ h1
      have hmem : ∀ j, j < n → ∃ v, T.get s.mem (b0 + o0 + j) = some (.C b0 v) := fun j hj => by
        obtain ⟨v, q⟩ := hmem0 j hj
        rcases q with q | q
        · exact ⟨v, q⟩
        · exact absurd (hr.oldLt q hblk) (Nat.not_lt_of_le x3)
      have hsz : k.sz = 1 := x2
      have k5' : o0 + d + n = k.p := by
        have h5 : o0 + d + c % capU * k.sz = k.p := k5
        rw [hcn, hsz, Nat.mul_one] at h5
        exact h5
      have hcc : cc = n + k.e := by rw [k3, hcn]
      have hmax : cc ≤ 9223372036854775807 := by
        rcases Nat.eq_zero_or_pos k.e with e | e
        · omega
        · obtain ⟨_, _, _, y⟩ := x5 0 (by rw [hsz]; omega)
          have y := (y (by decide)).2
          rw [hsz] at y
          omega
      have hl' : l.length = n := by rw [g4.1, g1]
      have hcell : ∀ j, j < cc → ∃ m : Int, w.cell? ⟨k.b, o0 + d + j, none⟩ = some (.int .u8 m) ∧ w.frozen? ⟨k.b, o0 + d + j, none⟩ = false := fun j hj => by
        by_cases hj1 : j < n
        · obtain ⟨v1, q⟩ := hmem j hj1
          rw [Nat.add_assoc] at q
          obtain ⟨v', q1, _, q3⟩ := hr.load q hblk
          rw [show o0 + j + d = o0 + d + j by omega] at q1 q3
          have hj2 : j < l.length := by omega
          have hj3 : j < l'.length := by omega
          have q4 := g3 j _ (List.getElem?_eq_getElem hj3)
          rw [DN] at q4
          have q4 : w.cell? ⟨k.b, o0 + d + j, none⟩ = some l'[j] := q4
          have q5 := g4.2 j _ _ (List.getElem?_eq_getElem hj2) (List.getElem?_eq_getElem hj3)
          have q6 : G9 l[j] = true := List.all_eq_true.1 hl8 _ (List.getElem_mem hj2)
          unfold G9 at q6
          split at q6
          · rename_i z hz
            rw [hz] at q5
            have := q5.eq_of_plain rfl
            rw [this] at q4
            exact ⟨z, q4, q3⟩
          · cases q6
        · obtain ⟨v', y1, y2, y3⟩ := x5 (j - n) (by rw [hsz]; omega)
          obtain ⟨m, rfl⟩ := (y3 (by decide)).1
          rw [← k5', show o0 + d + n + (j - n) = o0 + d + j by omega] at y1 y2
          exact ⟨m, y1, y2⟩
      have hget : ∀ loc x, T.get s4.mem loc = some x → ((loc = c / capU / 1024 ∧ x = .O (.tok true 1)) ∨ (loc ≠ c / capU / 1024 ∧ T.get s.mem loc = some x)) ∧ ¬ (b0 + o0 ≤ loc ∧ loc < b0 + o0 + n) := fun loc x e => by
        obtain ⟨z1, z2⟩ := u1 loc x e
        refine ⟨?_, z2⟩
        rw [t1, T.get_set] at z1
        split at z1
        · rename_i hloc
          cases z1
          exact .inl ⟨hloc, rfl⟩
        · rename_i hloc
          rw [hx.1, g5.1] at z1
          exact .inr ⟨hloc, z1⟩
      have hrel : Rel w0 r s4.mem w := hr.lessTok fun loc x e => by
        rcases (hget loc x e).1 with ⟨_, h⟩ | ⟨_, h⟩
        · exact .inr ⟨_, h, by decide⟩
        · exact .inl h
      have hno : ∀ loc b v d', T.get s4.mem loc = some (.C b v) → r.blk b = some (k.b, d') → loc - b + d' < o0 + d := by
        intro loc b v d' e1 e2
        obtain ⟨y1, y3⟩ := hget loc _ e1
        rcases y1 with ⟨_, y1⟩ | ⟨_, y1⟩
        · cases y1
        · have q := x6 _ _ _ _ y1 e2
          rcases Nat.lt_or_ge (loc - b + d') (o0 + d) with q2 | q2
          · exact q2
          · exfalso
            obtain ⟨v1, q3⟩ := hmem (loc - b + d' - (o0 + d)) (by omega)
            have q4 := hr.sep _ _ _ _ _ _ _ _ _ y1 q3 e2 hblk (by omega)
            apply y3
            omega
      have htk : ∀ t2 sz k2, T.get s4.mem t2 = some (.O (.tok false sz)) → r.ext t2 = some k2 → k2.b ≠ k.b := by
        intro t2 sz k2' e1 e2 heq
        rcases (hget t2 _ e1).1 with ⟨_, y1⟩ | ⟨y0, y1⟩
        · cases y1
        · exact y0 (hr.sepT _ _ _ _ _ _ y1 g2' e2 k1 heq)
      refine ⟨_, XV k.b (o0 + d) n cc (by omega) hmax (fun wr => Rel w0 r s4.mem wr ∧ ∀ j, j < cc → ∃ m : Int, wr.cell? ⟨k.b, o0 + d + j, none⟩ = some (.int .u8 m) ∧ wr.frozen? ⟨k.b, o0 + d + j, none⟩ = false) (fun wr h j hj => h.2 j hj) (fun wr j m h hj => ⟨?_, fun i hi => ?_⟩) (fun wr h => ⟨h.1.drew, h.2⟩) w ⟨hrel, hcell⟩, fun e w' ⟨he, hw, _⟩ => ⟨_, r, he, .undef, .of_rel ?_ hw, ?_, ?_⟩⟩
      · obtain ⟨m1, q1, q2⟩ := h.2 j hj
        exact h.1.setFree x3 (by rw [q1]; rfl) (fun loc b v d' e1 e2 => by have := hno _ _ _ _ e1 e2; omega) htk _
      · obtain ⟨m1, q1, q2⟩ := h.2 i hi
        by_cases hij : i = j
        · subst hij
          exact ⟨m, World.cell?_setCell_same _ _ _ q1, by rw [World.frozen?_setCell]; exact q2⟩
        · refine ⟨m1, ?_, by rw [World.frozen?_setCell]; exact q2⟩
          rw [World.cell?_setCell_other]
          · exact q1
          · intro heq
            simp only [Addr.mk.injEq, and_true] at heq
            omega
      · exact u2.trans (t2.trans e2.2.1)
      · exact u3.trans (t3.trans e2.2.2.1)
      · exact u4.trans (t4.trans e2.2.2.2)
    · cases h
  · cases h)
section
variable {w0 w : World} {r : Inj} {mem : T Cell}
theorem Rel.setFree2 (h : Rel w0 r mem w) {bb p : Nat} (hb1 : w0.heap.size ≤ bb) (hc : (w.cell? ⟨bb, p, none⟩).isSome = true)
    (hno : ∀ loc b v d, T.get mem loc = some (.C b v) → r.blk b = some (bb, d) → loc - b + d ≠ p)
    (htk : ∀ t2 s2 k2, T.get mem t2 = some (.O (.tok false s2)) → r.ext t2 = some k2 → k2.b = bb → p < k2.p) (u : Value) : Rel w0 r mem (w.setCell ⟨bb, p, none⟩ u) := by
  refine ⟨h.below.setCell hb1 _, fun x y z e => by rw [World.size_setCell]; exact h.dom x y z e, ?_, h.sep, ?_, h.sepO, ?_, h.sepT, h.known, fun l n e => let ⟨p, q⟩ := h.szs l n e; ⟨p, q.to (Inj.le_refl r) fun b' _ q2 => q2.setCell _ _⟩, h.olds⟩
  · intro loc b1 v1 e
    obtain ⟨b2, d2, v2, g1, g2, g3, g4, g5⟩ := h.cell _ _ _ e
    refine ⟨b2, d2, v2, g1, g2, ?_, g4, by rw [World.frozen?_setCell]; exact g5⟩
    rw [World.cell?_setCell_other w]
    · exact g3
    · intro heq
      simp only [Addr.mk.injEq, and_true] at heq
      obtain ⟨q1, q2⟩ := heq
      subst q1
      exact hno _ _ _ _ e g2 q2.symm
  · intro loc ob e ht
    obtain ⟨b2, d2, o', g1, g2, g3⟩ := h.obj _ _ e ht
    refine ⟨b2, d2, o', g1, ?_, g3⟩
    rw [My]
    · exact g2
    · intro heq
      have heq' : b2 = bb := heq
      subst heq'
      cases o' with
      | cells c t f => exact g3.cells
      | _ => simp [World.cell?, g2] at hc
  · intro t sz e
    obtain ⟨k, g1, g2, g3, g4, g5, g6⟩ := h.tok _ _ e
    refine ⟨k, g1, g2, g3, by rw [World.size_setCell]; exact g4, ?_, g6⟩
    intro j hj
    obtain ⟨x, q1, q2⟩ := g5 j hj
    refine ⟨x, ?_, by rw [World.frozen?_setCell]; exact q2⟩
    rw [World.cell?_setCell_other w]
    · exact q1
    · intro heq
      simp only [Addr.mk.injEq, and_true] at heq
      have := htk _ _ _ e g1 heq.1.symm
      omega
end
def US_ (x : Cell) : Bool := match x with | .C _ _ => true | _ => false
def Ev (a : Addr) (n c : Nat) : M Value :=
  M.chk (Nat.blt 0 c && Nat.ble c 16777216 && Nat.ble n c) (M.bind (rdL c a) fun l => M.chk (l.all G9) (M.bind (rdC (Nat.add a.block a.off)) fun x => M.chk (US_ x) (M.bind (Cg c (Nat.add a.block a.off)) fun _ => M.pure (.tuple #[]))))
def Gs (args : List Value) : M Value :=
  match args with
  | [.slice (some a) n c] => Ev a n c
  | _ => aC
theorem AoI_ (args : List Value) : Loc (Gs args) := by
  unfold Gs
  split
  · unfold Ev
    exact AS _ (Ae (FZ _ _) fun l => AS _ (Ae (DY _) fun x => AS _ (Ae (JA _ _) fun _ => Ah _)))
  · exact Al
theorem Ary_ (args : List Value) : NoPan (Gs args) := by
  unfold Gs
  split
  · unfold Ev
    exact A4 _ (Ak (FN _ _) fun l => A4 _ (Ak (EY _) fun x => A4 _ (Ak (Jr _ _) fun _ => Aq _)))
  · exact Av
theorem Aaf_ : OrcOK Try.prog 13 Gs := LT Try.func13 (by kernel_rfl) (by kernel_rfl) AoI_ Ary_ (by
  intro w0 w r args args' s s' v h hr hf ha
  unfold Gs at h
  split at h
  · rename_i a n c
    obtain ⟨p', l', rfl, q1, q2⟩ := ha.inv
    have := q2.inv_nil
    subst this
    unfold Ev at h
    obtain ⟨hc, h⟩ := AV h
    simp only [Bool.and_eq_true] at hc
    obtain ⟨⟨c1, c2⟩, c3⟩ := hc
    have hc0 : 0 < c := Bg c1
    have hcz := Nat.le_of_ble_eq_true c2
    have hnc := Nat.le_of_ble_eq_true c3
    have hU : c < capU := Nat.lt_of_le_of_lt hcz (by decide)
    obtain ⟨l, s1, h1, h⟩ := bind_some h
    obtain ⟨hl8, h⟩ := AV h
    obtain ⟨x, s2, h2, h⟩ := bind_some h
    obtain ⟨g2, hx⟩ := DW h2
    obtain ⟨hxc, h⟩ := AV h
    obtain ⟨u4, s4, h4, h⟩ := bind_some h
    obtain ⟨rfl, rfl⟩ := Af h
    rcases q1.sl_inv with ⟨a2, cc, rfl, ha2, hcap, hlen⟩ | ⟨_, e0, _⟩
    case inr => exact absurd (Nat.div_eq_of_lt hU) e0
    rcases hcap with ⟨_, e1⟩ | ⟨e1, _⟩
    case inr => exact absurd (Nat.div_eq_of_lt hU) e1
    subst e1
    obtain ⟨l', g1, g3, g4, g5⟩ := DS _ h1 hr ha2
    obtain ⟨u1, u2, u3, u4'⟩ := Jv _ _ h4
    have e2 := g5.trans hx
    obtain ⟨b0, o0, bb, d, rfl, rfl, hblk⟩ := ha2
    have hmem0 := JX _ h1
    have g2' : T.get s.mem (b0 + o0) = some x := by rw [← g5.1]; exact g2
    have hold : w0.heap.size ≤ bb := by
      obtain ⟨v, q⟩ := hmem0 0 hc0
      rcases q with q | q
      · exact hr.olds.newC _ _ _ _ _ q hblk
      · have q' : T.get s.mem (b0 + o0) = some (.O (.old b0 v)) := q
        rw [g2'] at q'
        cases q'
        cases hxc
    have hmem : ∀ j, j < cc → ∃ v, T.get s.mem (b0 + o0 + j) = some (.C b0 v) := fun j hj => by
      obtain ⟨v, q⟩ := hmem0 j hj
      rcases q with q | q
      · exact ⟨v, q⟩
      · exact absurd (hr.oldLt q hblk) (Nat.not_lt_of_le hold)
    have hl' : l.length = cc := by rw [g4.1, g1]
    have hcell : ∀ j, j < cc → ∃ m : Int, w.cell? ⟨bb, o0 + d + j, none⟩ = some (.int .u8 m) ∧ w.frozen? ⟨bb, o0 + d + j, none⟩ = false := fun j hj => by
      obtain ⟨v1, q⟩ := hmem j hj
      rw [Nat.add_assoc] at q
      obtain ⟨v', q1, _, q3⟩ := hr.load q hblk
      rw [show o0 + j + d = o0 + d + j by omega] at q1 q3
      have hj2 : j < l.length := by omega
      have hj3 : j < l'.length := by omega
      have q4 := g3 j _ (List.getElem?_eq_getElem hj3)
      rw [DN] at q4
      have q4 : w.cell? ⟨bb, o0 + d + j, none⟩ = some l'[j] := q4
      have q5 := g4.2 j _ _ (List.getElem?_eq_getElem hj2) (List.getElem?_eq_getElem hj3)
      have q6 : G9 l[j] = true := List.all_eq_true.1 hl8 _ (List.getElem_mem hj2)
      unfold G9 at q6
      split at q6
      · rename_i z hz
        rw [hz] at q5
        have := q5.eq_of_plain rfl
        rw [this] at q4
        exact ⟨z, q4, q3⟩
      · cases q6
    have hget : ∀ loc x, T.get s4.mem loc = some x → T.get s.mem loc = some x ∧ ¬ (b0 + o0 ≤ loc ∧ loc < b0 + o0 + cc) := fun loc x e => by
      obtain ⟨z1, z2⟩ := u1 loc x e
      rw [hx.1, g5.1] at z1
      exact ⟨z1, z2⟩
    have hrel : Rel w0 r s4.mem w := hr.less fun loc x e => (hget loc x e).1
    have hno : ∀ loc b v d' j, j < cc → T.get s4.mem loc = some (.C b v) → r.blk b = some (bb, d') → loc - b + d' ≠ o0 + d + j := by
      intro loc b v d' j hj e1 e2 heq
      obtain ⟨y1, y3⟩ := hget loc _ e1
      obtain ⟨v1, q3⟩ := hmem j hj
      have q4 := hr.sep _ _ _ _ _ _ _ _ _ y1 q3 e2 hblk (by omega)
      apply y3
      omega
    have htk : ∀ j, j < cc → ∀ t2 sz k2, T.get s4.mem t2 = some (.O (.tok false sz)) → r.ext t2 = some k2 → k2.b = bb → o0 + d + j < k2.p := by
      intro j hj t2 sz k2' e1 e2 heq
      obtain ⟨y1, _⟩ := hget t2 _ e1
      obtain ⟨k', x1, x2, x3, x4, x5, x6⟩ := hr.tok _ _ y1
      rw [e2] at x1
      cases x1
      obtain ⟨v1, q3⟩ := hmem j hj
      have := x6 _ _ _ _ q3 (by rw [heq]; exact hblk)
      omega
    refine ⟨_, XV bb (o0 + d) n cc hnc (by omega) (fun wr => Rel w0 r s4.mem wr ∧ ∀ j, j < cc → ∃ m : Int, wr.cell? ⟨bb, o0 + d + j, none⟩ = some (.int .u8 m) ∧ wr.frozen? ⟨bb, o0 + d + j, none⟩ = false) (fun wr h j hj => h.2 j hj) (fun wr j m h hj => ⟨?_, fun i hi => ?_⟩) (fun wr h => ⟨h.1.drew, h.2⟩) w ⟨hrel, hcell⟩, fun e w' ⟨he, hw, _⟩ => ⟨_, r, he, .undef, .of_rel ?_ hw, ?_, ?_⟩⟩
    · obtain ⟨m1, q1, q2⟩ := h.2 j hj
      exact h.1.setFree2 hold (by rw [q1]; rfl) (fun loc b v d' e1 e2 => hno _ _ _ _ _ hj e1 e2) (htk j hj) _
    · obtain ⟨m1, q1, q2⟩ := h.2 i hi
      by_cases hij : i = j
      · subst hij
        exact ⟨m, World.cell?_setCell_same _ _ _ q1, by rw [World.frozen?_setCell]; exact q2⟩
      · refine ⟨m1, ?_, by rw [World.frozen?_setCell]; exact q2⟩
        rw [World.cell?_setCell_other]
        · exact q1
        · intro heq
          simp only [Addr.mk.injEq, and_true] at heq
          omega
    · exact u2.trans e2.2.1
    · exact u3.trans e2.2.2.1
    · exact u4'.trans e2.2.2.2
  · cases h)
def altM (p : List Value → Bool) (m1 m2 : List Value → M Value) (args : List Value) : M Value := Bool.rec (motive := fun _ => M Value) (m1 args) (m2 args) (p args)
theorem SP_ {P : Program} {f : Nat} (p : List Value → Bool) {m1 m2 : List Value → M Value} (k1 : OrcOK P f m1) (k2 : OrcOK P f m2) : OrcOK P f (altM p m1 m2) where
  loc := fun args => by
    unfold altM
    cases p args with
    | false => exact k1.loc args
    | true => exact k2.loc args
  ok := by
    intro w0 w r args args' s out s' h hr hb hf ha
    unfold altM at h
    cases hp : p args with
    | false =>
      rw [hp] at h
      exact k1.ok (show m1 args s = rOf out s' from h) hr hb hf ha
    | true =>
      rw [hp] at h
      exact k2.ok (show m2 args s = rOf out s' from h) hr hb hf ha
def PL_ (args : List Value) : Bool := match args with | [.slice (some _) _ c] => Nat.ble c 16777216 | _ => false
def Gc : List Value → M Value := altM PL_ Gj Gs
theorem Tm_ : OrcOK Try.prog 13 Gc := SP_ PL_ VP_ Aaf_
