/- Frames beside the evaluator's: loops over functions, regions, code of every kind. -/
import Derived.Test.YtnhmbhpkebjjaaaAmFrame
namespace Go.Proofs.Ytnhmbhpkebjjaaa.Am
open Go.RowKit

theorem fuse_eq : ∀ (l : List COp), ∃ F, fuse l = .mk F ∧ ∀ call round rho tm s, F call round rho tm s = opsIn call round l rho tm s
  | [] => ⟨_, rfl, fun _ _ _ _ _ => rfl⟩
  | ⟨g, d, keep, f⟩ :: l => by
    obtain ⟨k, h1, h2⟩ := fuse_eq l
    have key : ∀ f' : OpT, ∃ F, fuseK d keep f' k = .mk F ∧ ∀ call round rho tm s, F call round rho tm s = M.bind (f' call round rho tm) (fun v => opsIn call round l (pushV d v rho) (keepT d keep v tm)) s := by
      intro f'
      cases d with
      | none =>
        refine ⟨_, rfl, fun call round rho tm s => ?_⟩
        unfold M.bind
        simp only
        cases f' call round rho tm s with
        | none => rfl
        | some v s1 => exact h2 _ _ _ _ _
        | pan c s1 => rfl
      | some d =>
        cases keep with
        | false =>
          refine ⟨_, rfl, fun call round rho tm s => ?_⟩
          unfold M.bind
          simp only
          cases f' call round rho tm s with
          | none => rfl
          | some v s1 => exact h2 _ _ _ _ _
          | pan c s1 => rfl
        | true =>
          refine ⟨_, rfl, fun call round rho tm s => ?_⟩
          unfold M.bind
          simp only
          cases f' call round rho tm s with
          | none => rfl
          | some v s1 =>
            obtain ⟨a, b, c, e⟩ := T.set_N tm d v
            simp only [e, keepT]
            exact h2 _ _ _ _ _
          | pan c s1 => rfl
    have h0 : fuse (⟨g, d, keep, f⟩ :: l) = fuse1 ⟨g, d, keep, f⟩ k := by
      show Cl.rec (motive := fun _ => Cl RT) (fun k => fuse1 ⟨g, d, keep, f⟩ k) (fuse l) = _
      rw [h1]
    rw [h0]
    cases g with
    | none =>
      obtain ⟨F, q1, q2⟩ := key f
      exact ⟨F, q1, fun call round rho tm s => by rw [q2, opsIn_cons]; rfl⟩
    | some p =>
      obtain ⟨F, q1, q2⟩ := key (fun call round r tm => wantG (some p) r (f call round r tm))
      exact ⟨F, q1, fun call round rho tm s => by rw [q2, opsIn_cons]⟩

noncomputable def delT (ds : List Nat) (t : T Value) : T Value := List.rec (motive := fun _ => T Value) t (fun d _ t => T.del t d) ds
theorem delT_get {tm : T Value} {y : Nat} {v : Value} : ∀ {ds : List Nat}, T.get (delT ds tm) y = some v → y ∉ ds ∧ T.get tm y = some v
  | [], h => ⟨by simp, h⟩
  | d :: ds, h => by
    replace h : T.get (T.del (delT ds tm) d) y = some v := h
    rw [T.get_del] at h
    split at h
    · cases h
    · rename_i hne
      obtain ⟨h1, h2⟩ := delT_get h
      exact ⟨fun hm => (List.mem_cons.1 hm).elim hne h1, h2⟩

section
variable {E : Env} {call round : CallT} {w0 w : World} {r : Inj} {base : List Deferred × List Frame}
theorem FR.csr {P : Program} {af : AF} {cx : Ctx} {fr : Frame} {cs : List Frame} (h : FR P r af cx base fr cs) : af.roundOf ≠ none → cs = base.2 := by
  intro hne
  have hfr : fr.roundOf ≠ none := by
    have := h.round
    intro hx
    rw [hx] at this
    cases e : af.roundOf with
    | none => exact hne e
    | some l => rw [e] at this; exact this.elim
  have hk := h.rk hfr
  have hc := h.cx
  unfold CxR at hc
  cases cx with
  | no => exact hc.2
  | cx up d =>
    cases up with
    | none => exact hc.1.2
    | some m => have := hc.1.1; rw [hk] at this; cases this
theorem FR.slots {P : Program} {af : AF} {cx : Ctx} {fr : Frame} {cs : List Frame} (h : FR P r af cx base fr cs) : SlR r (fun _ => True) [] [] af.tmps fr.tmps :=
  ⟨fun i d v _ e => by simp at e, fun y v _ e => (h.tm y v e).2⟩
theorem noP_rOf {α : Type} {m : M α} {o : Out α} {s s' : St} (h : noP m s = rOf o s') : ∃ a, o = .inl a ∧ m s = .some a s' := by
  unfold noP at h
  cases e : m s with
  | none => rw [e] at h; exact (rOf_none h).elim
  | some a s1 => rw [e] at h; obtain ⟨rfl, rfl⟩ := rOf_inl h; exact ⟨a, rfl, rfl⟩
  | pan c s1 => rw [e] at h; exact (rOf_none h).elim
theorem bind_inl {α β : Type} {m : M α} {f : α → M β} {b : β} {s s' : St} (h : M.bind m f s = .some b s') : ∃ a s1, m s = .some a s1 ∧ f a s1 = .some b s' := bind_some h

/-! ### Regions -/
theorem regF_ok (he : EnvOK E) (c1 : CallOK E call) (c2 : RoundOK E round) {af : AF} {fr : Frame} {cs : List Frame} {s s' : St} {out : Out Step} {ops : Array Oper} {cops : List COp} {F : RT} {id : Nat} {k : List Item}
    (hc : compOps E af.glob af.n ops.toList ops.toList [] = some cops) (hF' : fuse cops = .mk F) (h : regF call round af (dstL ops.toList) F k s = rOf out s') (hF : FR E.P r af s.cx base fr cs) (hm : af.mode = .run) (htodo : af.todo = .code (.region id ops false) :: k)
    (hr : Rel w0 r s.mem w) (hb : Bnd s) (hf : Fresh r s.next s'.next) :
    ∃ w' r', Goes w0 r s s' r' w' ∧ s'.lim = s.lim ∧ StepE E.P r' base s'.cx fr (lone fr cs w) w' out := by
  obtain ⟨F2, q1, q2⟩ := fuse_eq cops
  rw [hF'] at q1
  cases q1
  unfold regF at h
  rw [q2] at h
  have hstart : step E.P (lone fr cs w) = .next (lone (frm fr fr.tmps fr.defers (.inRegion ops (List.range' 0 ops.toList.length) :: k)) cs w) := by
    rw [hF.frm hm, htodo]
    have := step_region_frm (P := E.P) (b := fr) (t := fr.tmps) (d := fr.defers) (k := k) (cs := cs) (w := w) (ops := ops) (id := id)
    rw [List.range_eq_range'] at this
    rw [show ops.toList.length = ops.size by simp]
    exact this
  have main : ∀ {o : Out (T Value)} {s1 : St}, opsIn call round cops [] af.tmps s = rOf o s1 → Fresh r s.next s1.next → ∃ w' r' dfs' cs', Goes w0 r s s1 r' w' ∧ CxR r' base s1.cx fr dfs' cs' ∧ s1.lim = s.lim ∧
      RegEnds E.P r' af.glob o (lone (frm fr fr.tmps fr.defers (.inRegion ops (List.range' 0 ops.toList.length) :: k)) cs w) fr fr.tmps ops.toList dfs' k cs' w' := fun e hf1 =>
    opsIn_ok he.ty c1 c2 ops.toList 0 [] cops [] af.tmps fr.tmps fr.defers cs w r s _ _ (fun j o hj => by rw [Nat.zero_add]; rw [Array.getElem?_toList] at hj; exact hj) hc hF.slots hF.tm hF.size rfl hr hF.cx hb hf1 e
  cases e : opsIn call round cops [] af.tmps s with
  | none => rw [e] at h; exact (rOf_none h).elim
  | some tm s1 =>
    rw [e] at h
    obtain ⟨rfl, rfl⟩ := rOf_inl ((goTm_eq af k tm s1).symm.trans h)
    obtain ⟨w', r', dfs', cs', k1, k2, k3, t', k4, k5, k6⟩ := main (o := .inl tm) e hf
    exact ⟨w', r', k1, k3, frm fr t' dfs' k, cs', rfl, ⟨hF.fn, k5.trans hF.size, k4, fun _ => rfl, by rw [show ({ af with todo := k, tmps := tm } : AF).mode = .run from hm]; exact .run, hF.round.mono k1.le, hF.rk, hF.known, k2⟩, .head hstart k6⟩
  | pan ch s1 =>
    rw [e] at h
    cases hro : af.roundOf with
    | some l => rw [hro] at h; exact (rOf_none h).elim
    | none =>
      rw [hro] at h
      obtain ⟨rfl, rfl⟩ := rOf_inl (show R.some (Step.go { af with mode := .panicking ch, tmps := delT (dstL ops.toList) af.tmps }) s1 = rOf out s' from h)
      obtain ⟨w', r', dfs', cs', k1, k2, k3, ch', t', td, k4, k5, k6, k7⟩ := main (o := .inr ch) e hf
      refine ⟨w', r', k1, k3, { frm fr t' dfs' td with mode := .panicking ch' }, cs', rfl, ⟨hF.fn, k5.trans hF.size, ?_, (fun e => by cases e), .pan k4, hF.round.mono k1.le, hF.rk, hF.known, k2⟩, .head hstart k7⟩
      intro y v hy
      obtain ⟨p1, p2⟩ := delT_get hy
      obtain ⟨p3, v', p4, p5⟩ := hF.tm y v p2
      exact ⟨p3, v', by rw [show ({ frm fr t' dfs' td with mode := .panicking ch' } : Frame).tmps = t' from rfl, k6 y p1]; exact p4, p5.mono k1.le⟩
theorem drawP_run {tm0 : T Value} {cops : List COp} {bef : List Nat} {s s' : St} {out : Out (Rho × T Value)} (h : drawP call round tm0 cops bef s = rOf out s') :
    ∃ q logs s1, opsDraw call round cops [] [] tm0 ⟨s.mem, s.next, 0, [], [], .no⟩ = .some (q, logs) s1 ∧ apartM s.next logs.reverse bef = true ∧ out = .inl q ∧
      s' = ⟨s1.mem, s1.next, s.lim, rdsL s.lim logs s.rd, wrsL s.lim logs s.wr, s.cx⟩ := by
  obtain ⟨mem, next, lim, rd, wr, cx⟩ := s
  unfold drawP at h
  simp only at h
  cases e : opsDraw call round cops [] [] tm0 ⟨mem, next, 0, [], [], .no⟩ with
  | none => rw [e] at h; exact (rOf_none h).elim
  | pan c s1 => rw [e] at h; exact (rOf_none h).elim
  | some p s1 =>
    rw [e] at h
    obtain ⟨q, logs⟩ := p
    obtain ⟨mem1, next1, lim1, rd1, wr1, cx1⟩ := s1
    simp only at h
    cases hA : apartM next logs.reverse bef with
    | false => rw [hA] at h; exact (rOf_none h).elim
    | true =>
      rw [hA] at h
      obtain ⟨rfl, rfl⟩ := rOf_inl (show R.some q _ = rOf out s' from h)
      exact ⟨_, logs, _, rfl, hA, rfl, rfl⟩
theorem takeC_eq : ∀ (l : List COp) (m : Nat), takeC l m = l.take m
  | [], m => by simp [takeC]
  | c :: l, 0 => rfl
  | c :: l, m + 1 => by show c :: takeC l m = _; rw [takeC_eq l m]; rfl
theorem dropC_eq : ∀ (l : List COp) (m : Nat), dropC l m = l.drop m
  | [], m => by simp [dropC]
  | c :: l, 0 => rfl
  | c :: l, m + 1 => by show dropC l m = _; rw [dropC_eq l m]; rfl
/-- How many are drawn: all but one at most; what is left stands behind these. -/
theorem manyD_spec {ops : Array Oper} : manyD ops.size (Region.before ops).toList ≤ ops.size ∧ ops.size ≤ manyD ops.size (Region.before ops).toList + 1 ∧
    ∀ j, manyD ops.size (Region.before ops).toList ≤ j → j < ops.size → ∀ i, i < manyD ops.size (Region.before ops).toList → Bf ops j i := by
  have key : ∀ y : Bool, (y = true → ∃ b, (Region.before ops).toList[ops.size - 1]? = some b ∧ b = 2 ^ (ops.size - 1) - 1) → (Bool.rec (motive := fun _ => Nat) ops.size (Nat.pred ops.size) y) ≤ ops.size ∧ ops.size ≤ (Bool.rec (motive := fun _ => Nat) ops.size (Nat.pred ops.size) y) + 1 ∧
      ∀ j, (Bool.rec (motive := fun _ => Nat) ops.size (Nat.pred ops.size) y) ≤ j → j < ops.size → ∀ i, i < (Bool.rec (motive := fun _ => Nat) ops.size (Nat.pred ops.size) y) → Bf ops j i := by
    intro y hy
    cases y with
    | false => exact ⟨Nat.le_refl ops.size, Nat.le_succ ops.size, fun j (h1 : ops.size ≤ j) h2 => absurd h2 (Nat.not_lt.2 h1)⟩
    | true =>
      obtain ⟨b, hb, hb'⟩ := hy rfl
      refine ⟨Nat.pred_le ops.size, ?_, fun j (h1 : Nat.pred ops.size ≤ j) h2 i (h3 : i < Nat.pred ops.size) => ?_⟩
      · show ops.size ≤ Nat.pred ops.size + 1
        rw [Nat.pred_eq_sub_one]; omega
      · rw [Nat.pred_eq_sub_one] at h1 h3
        have hj : j = ops.size - 1 := by omega
        subst hj
        refine ⟨b, by rw [← Array.getElem?_toList]; exact hb, ?_⟩
        rw [hb', Nat.testBit_two_pow_sub_one]
        simpa using h3
  unfold manyD
  refine key _ fun h => ?_
  split at h
  · exact ⟨_, by rw [← Nat.pred_eq_sub_one]; assumption, Nat.eq_of_beq_eq_true h⟩
  · cases h
theorem compOps_drop {glob n : Nat} {all : List Oper} : ∀ (m : Nat) (l : List Oper) (ds : List Nat) (cs : List COp), compOps E glob n all l ds = some cs → compOps E glob n all (l.drop m) ((l.take m).foldl (fun ds o => consD o.dst ds) ds) = some (cs.drop m)
  | 0, l, ds, cs, h => h
  | m + 1, [], ds, cs, h => by cases h; rfl
  | m + 1, o :: l, ds, cs, h => by
    obtain ⟨g, f, r, rfl, h1, h2, h3, h4⟩ := compOps_cons h
    exact compOps_drop m l _ r h4
theorem drawE_ok (he : EnvOK E) (c1 : CallOK E call) (c2 : RoundOK E round) {af : AF} {fr : Frame} {cs : List Frame} {s s' : St} {out : Out Step} {ops : Array Oper} {cops : List COp} {id m : Nat} {k : List Item}
    (hc : compOps E af.glob af.n ops.toList ops.toList [] = some cops) (hd : drawOk ops.toList (Region.before ops).toList = true) (hmn : m = manyD ops.size (Region.before ops).toList) (h : drawE call round af (cops.take m) (cops.drop m) (Region.before ops).toList (dstL ops.toList) k s = rOf out s') (hF : FR E.P r af s.cx base fr cs) (hm : af.mode = .run) (htodo : af.todo = .code (.region id ops true) :: k)
    (hr : Rel w0 r s.mem w) (hb : Bnd s) (hf : Fresh r s.next s'.next) :
    ∃ w' r', Goes w0 r s s' r' w' ∧ s'.lim = s.lim ∧ StepE E.P r' base s'.cx fr (lone fr cs w) w' out := by
  obtain ⟨m1, m2, m3⟩ := manyD_spec (ops := ops)
  rw [← hmn] at m1 m2 m3
  obtain ⟨hlen, hcomp⟩ := compOps_at ops.toList [] cops hc
  have hn : cops.length = ops.size := by rw [hlen]; simp
  have hloc : ∀ c ∈ cops, ∀ rho tm, Loc (wantG c.guard rho (c.run call round rho tm)) := by
    intro c hcm rho tm
    obtain ⟨i, hi, rfl⟩ := List.getElem_of_mem hcm
    have hio : i < ops.toList.length := by rw [← hlen]; exact hi
    obtain ⟨g, f, p1, p2, p3, p4⟩ := hcomp i ops.toList[i] (List.getElem?_eq_getElem hio)
    rw [List.getElem?_eq_getElem hi] at p1
    rw [Option.some.inj p1]
    exact (opG_ok (ops := ops) (i := i) (keep := keepD ops.toList[i].dst af.glob) he.ty (by rw [← Array.getElem?_toList]; exact List.getElem?_eq_getElem hio) p2 p4).1 call round c1 c2 rho tm
  have hlast := compOps_drop m ops.toList [] cops hc
  have hds : (ops.toList.take m).foldl (fun ds o => consD o.dst ds) [] = dsAt ops.toList m := rfl
  rw [hds] at hlast
  have hsub : ∀ j o, (ops.toList.drop m)[j]? = some o → ops[m + j]? = some o := fun j o hj => by rw [List.getElem?_drop, Array.getElem?_toList] at hj; exact hj
  -- the draw
  have hbind : ∃ q sd, drawP call round af.tmps (cops.take m) (Region.before ops).toList s = rOf (.inl q) sd ∧ endE call round af (cops.drop m) (dstL ops.toList) k q sd = rOf out s' := by
    rcases bind_rOf h with ⟨q, sd, e1, e2⟩ | ⟨ch, e1, _⟩
    · exact ⟨q, sd, e1, e2⟩
    · obtain ⟨_, _, _, _, _, q3, _⟩ := drawP_run (out := .inr ch) e1
      cases q3
  obtain ⟨q, sd, e1, e2⟩ := hbind
  obtain ⟨q', logs, s1, e, hA, q3, q4⟩ := drawP_run e1
  cases q3
  obtain ⟨x, t1, t2, t3, t4, t5, t6, t7⟩ := opsDraw_tra (cops.take m) [] [] af.tmps _ (.inl (q, logs)) s1 (fun c hc => hloc c (List.mem_of_mem_take hc)) rfl e
  have hlm : (cops.take m).length = m := by rw [List.length_take, hn]; omega
  rw [hlm] at t6 t7
  cases t6
  have H : Pre E af.glob af.n ops call round cops x m := by
    refine ⟨fun i o ho => ?_, m1, m2, m3, t1, t4, hd, ?_⟩
    · have := hcomp i o (by rw [Array.getElem?_toList]; exact ho)
      simpa using this
    · rw [t3]
      simpa using hA
  simp only at t2 t3
  -- what the end adds
  unfold endE at e2
  have hsdb : Bnd sd := by rw [q4, t7]; exact Nat.le_trans hb (by rw [← t3]; exact H.nx (Nat.zero_le _) (Nat.le_refl _))
  have hloc2 : Loc (opsIn call round (cops.drop m) (x.Rh m) (x.Tm m)) := lo_opsIn he.ty c1 c2 (ops.toList.drop m) m _ _ hlast hsub _ _
  have hstart : step E.P (lone fr cs w) = .next (lone (frm fr fr.tmps fr.defers (.inRegion ops (Region.linearise .any ops (w.tape w.drawn (.order fr.fn id))) :: k)) cs w.drew) := by
    rw [hF.frm hm, htodo]
    have := step_region_draw_frm (P := E.P) (b := fr) (t := fr.tmps) (d := fr.defers) (k := k) (cs := cs) (w := w) (ops := ops) (id := id)
    rw [he.mixed] at this
    have hsch : Region.schedule true ops (w.tape w.drawn (.order fr.fn id)) = Region.linearise .any ops (w.tape w.drawn (.order fr.fn id)) := by simp [Region.schedule]
    rw [hsch] at this
    exact this
  have main : ∀ {o : Out (T Value)} {s2 : St}, opsIn call round (cops.drop m) (x.Rh m) (x.Tm m) sd = rOf o s2 → Fresh r s.next s2.next → ∃ w' r' dfs' cs', Goes w0 r s s2 r' w' ∧ CxR r' base s2.cx fr dfs' cs' ∧ s2.lim = s.lim ∧
      RegEnds E.P r' af.glob o (lone fr cs w) fr fr.tmps ops.toList dfs' k cs' w' := by
    intro o s2 e3 hf2
    have hn2 : sd.next ≤ s2.next := (hloc2.at' sd o s2 e3 hsdb).next
    have hsdn : sd.next = x.Nx m := by rw [q4, t7]
    obtain ⟨t', w1, r1, g1, g2, g3, g5, g6, g4⟩ := H.draw_ok he.ty c1 c2 (w0 := w0) (w := w.drew) (r := r) (t := fr.tmps) (by rw [t5]; exact hF.tm) hF.size (by rw [t2]; exact hr.drew)
      (by rw [t3]; exact fun b u v => hf2 b u (Nat.lt_of_lt_of_le v (by rw [← hsdn]; exact hn2))) fr fr.defers cs k (w.tape w.drawn (.order fr.fn id))
    have hgo := g1 s sd t3.symm hsdn (by rw [q4, t7])
    have hcx : CxR r1 base sd.cx fr fr.defers cs := by rw [q4]; exact hF.cx.mono hgo.le
    obtain ⟨w2, r2, dfs2, cs2, k1, k2, k3, k4⟩ := opsIn_ok he.ty c1 c2 (b := fr) (k := k) (base := base) (w0 := w0) (ops.toList.drop m) m (dsAt ops.toList m) (cops.drop m) (x.Rh m) (x.Tm m) t' fr.defers cs w1 r1 sd o s2 hsub hlast g5 g2 g3 (H.ds (Nat.le_refl m)).1
      hgo.rel hcx hsdb (hgo.fresh hf2) e3
    refine ⟨w2, r2, dfs2, cs2, hgo.trans k1, k2, k3.trans (by rw [q4]), ?_⟩
    have hrl : (ops.toList.drop m).length = ops.size - m := by simp
    rw [hrl] at k4
    have hto : Steps E.P (lone fr cs w) (lone (frm fr t' fr.defers (.inRegion ops (List.range' m (ops.size - m)) :: k)) cs w1) := .head hstart g4
    unfold RegEnds at k4 ⊢
    cases o with
    | inl tm' =>
      obtain ⟨t2, z1, z2, z3⟩ := k4
      exact ⟨t2, z1, by rw [z2, g3, hF.size], hto.trans z3⟩
    | inr ch =>
      obtain ⟨ch', t2, td, z1, z2, z3, z4⟩ := k4
      exact ⟨ch', t2, td, z1, by rw [z2, g3, hF.size], fun d hd => by rw [z3 d hd, g6 d hd], hto.trans z4⟩
  cases e3 : opsIn call round (cops.drop m) (x.Rh m) (x.Tm m) sd with
  | none => rw [e3] at e2; exact (rOf_none e2).elim
  | some tm s2 =>
    rw [e3] at e2
    obtain ⟨rfl, rfl⟩ := rOf_inl ((goTm_eq af k tm s2).symm.trans e2)
    obtain ⟨w', r', dfs', cs', k1, k2, k3, t', k4, k5, k6⟩ := main (o := .inl tm) e3 hf
    exact ⟨w', r', k1, k3, frm fr t' dfs' k, cs', rfl, ⟨hF.fn, k5.trans hF.size, k4, fun _ => rfl, by rw [show ({ af with todo := k, tmps := tm } : AF).mode = .run from hm]; exact .run, hF.round.mono k1.le, hF.rk, hF.known, k2⟩, k6⟩
  | pan ch s2 =>
    rw [e3] at e2
    cases hro : af.roundOf with
    | some l => rw [hro] at e2; exact (rOf_none e2).elim
    | none =>
      rw [hro] at e2
      obtain ⟨rfl, rfl⟩ := rOf_inl (show R.some (Step.go { af with mode := .panicking ch, tmps := delT (dstL ops.toList) af.tmps }) s2 = rOf out s' from e2)
      obtain ⟨w', r', dfs', cs', k1, k2, k3, ch', t', td, k4, k5, k6, k7⟩ := main (o := .inr ch) e3 hf
      refine ⟨w', r', k1, k3, { frm fr t' dfs' td with mode := .panicking ch' }, cs', rfl, ⟨hF.fn, k5.trans hF.size, ?_, (fun e => by cases e), .pan k4, hF.round.mono k1.le, hF.rk, hF.known, k2⟩, k7⟩
      intro y v hy
      obtain ⟨p1, p2⟩ := delT_get hy
      obtain ⟨p3, v', p4, p5⟩ := hF.tm y v p2
      exact ⟨p3, v', by rw [show ({ frm fr t' dfs' td with mode := .panicking ch' } : Frame).tmps = t' from rfl, k6 y p1]; exact p4, p5.mono k1.le⟩
theorem lo_drawP {tm0 : T Value} {cops : List COp} {bef : List Nat} (hloc : ∀ c ∈ cops, ∀ rho tm, Loc (wantG c.guard rho (c.run call round rho tm))) : Loc (drawP call round tm0 cops bef) := ⟨fun s o s' h hb => by
  obtain ⟨q, logs, s1, e, hA, rfl, rfl⟩ := drawP_run h
  obtain ⟨Rd, Wr, tm', es, q1, q2, _, q4, q5⟩ := opsDraw_loc cops [] [] tm0 _ (.inl (q, logs)) s1 hloc rfl (Nat.zero_le _) e
  cases q1
  refine ⟨Rd, Wr, rdsL s.lim logs [], wrsL s.lim logs [], ⟨rdsL_eq _ _ _, wrsL_eq _ _ _, q2.nxt, rfl, Nat.le_trans hb q2.nxt, q2.rlt, q2.wlt, q2.old, fun t e1 e2 e3 e4 => ?_⟩, fun l e1 e2 => ?_, fun l e1 e2 => ?_⟩
  · obtain ⟨t', p1, p2, p3, p4, p5, p6, p7, p8⟩ := q2.any ⟨t.mem, t.next, 0, [], [], .no⟩ e1 rfl rfl e4
    obtain ⟨tm1, tn1, tl1, tr1, tw1, tc1⟩ := t'
    simp only at p2
    refine ⟨⟨tm1, tn1, t.lim, rdsL t.lim logs t.rd, wrsL t.lim logs t.wr, t.cx⟩, ?_, p2, e2, e3, by rw [e2]; exact rdsL_eq _ _ _, by rw [e2]; exact wrsL_eq _ _ _, p7, p8⟩
    obtain ⟨mem, next, lim, rd, wr, cx⟩ := t
    unfold drawP
    simp only at p1 e1 ⊢
    rw [p1]
    simp only [rOf]
    rw [e1, hA]
  · obtain ⟨g, a, b⟩ := q4 l e1 (Nat.lt_of_lt_of_le e2 hb)
    exact rdsL_mem e2 a b
  · obtain ⟨g, a, b⟩ := q5 l e1 (Nat.lt_of_lt_of_le e2 hb)
    exact wrsL_mem e2 a b⟩
end
end Go.Proofs.Ytnhmbhpkebjjaaa.Am
