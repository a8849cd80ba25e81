/- Frames beside the evaluator's: loops over functions, regions, code of every kind. -/
import Derived.Test.YtpkklkhdkbnjjaaGreatAmFrame
namespace Go.Proofs.YtpkklkhdkbnjjaaGreat.Am
open Go.RowKit

theorem fuse_eq : ∀ (l : List COp), ∃ F, fuse l = .mk F ∧ ∀ call round rho tm s, F call round rho tm s = opsIn call round l rho tm s
  | [] => ⟨_, rfl, fun _ _ _ _ _ => rfl⟩
  | ⟨g, d, keep, f⟩ :: l => by
    obtain ⟨k, h1, h2⟩ := fuse_eq l
    have key : ∀ f' : OpT, ∃ F, fuseK d keep f' k = .mk F ∧ ∀ call round rho tm s, F call round rho tm s = M.bind (f' call round rho tm) (fun v => opsIn call round l (pushV d v rho) (keepT d keep v tm)) s := by
      intro f'
      cases d with
      | none =>
        refine ⟨_, rfl, fun call round rho tm s => ?_⟩
        unfold M.bind
        simp only
        cases f' call round rho tm s with
        | none => rfl
        | some v s1 => exact h2 _ _ _ _ _
        | pan c s1 => rfl
      | some d =>
        cases keep with
        | false =>
          refine ⟨_, rfl, fun call round rho tm s => ?_⟩
          unfold M.bind
          simp only
          cases f' call round rho tm s with
          | none => rfl
          | some v s1 => exact h2 _ _ _ _ _
          | pan c s1 => rfl
        | true =>
          refine ⟨_, rfl, fun call round rho tm s => ?_⟩
          unfold M.bind
          simp only
          cases f' call round rho tm s with
          | none => rfl
          | some v s1 =>
            obtain ⟨a, b, c, e⟩ := T.set_N tm d v
            simp only [e, keepT]
            exact h2 _ _ _ _ _
          | pan c s1 => rfl
    have h0 : fuse (⟨g, d, keep, f⟩ :: l) = fuse1 ⟨g, d, keep, f⟩ k := by
      show Cl.rec (motive := fun _ => Cl RT) (fun k => fuse1 ⟨g, d, keep, f⟩ k) (fuse l) = _
      rw [h1]
    rw [h0]
    cases g with
    | none =>
      obtain ⟨F, q1, q2⟩ := key f
      exact ⟨F, q1, fun call round rho tm s => by rw [q2, opsIn_cons]; rfl⟩
    | some p =>
      obtain ⟨F, q1, q2⟩ := key (fun call round r tm => wantG (some p) r (f call round r tm))
      exact ⟨F, q1, fun call round rho tm s => by rw [q2, opsIn_cons]⟩

noncomputable def delT (ds : List Nat) (t : T Value) : T Value := List.rec (motive := fun _ => T Value) t (fun d _ t => T.del t d) ds
theorem delT_get {tm : T Value} {y : Nat} {v : Value} : ∀ {ds : List Nat}, T.get (delT ds tm) y = some v → y ∉ ds ∧ T.get tm y = some v
  | [], h => ⟨by simp, h⟩
  | d :: ds, h => by
    replace h : T.get (T.del (delT ds tm) d) y = some v := h
    rw [T.get_del] at h
    split at h
    · cases h
    · rename_i hne
      obtain ⟨h1, h2⟩ := delT_get h
      exact ⟨fun hm => (List.mem_cons.1 hm).elim hne h1, h2⟩

section
variable {E : Env} {call round : CallT} {w0 w : World} {r : Inj} {base : List Deferred × List Frame}
theorem FR.csr {P : Program} {af : AF} {cx : Ctx} {fr : Frame} {cs : List Frame} (h : FR P r af cx base fr cs) : af.roundOf ≠ none → cs = base.2 := by
  intro hne
  have hfr : fr.roundOf ≠ none := by
    have := h.round
    intro hx
    rw [hx] at this
    cases e : af.roundOf with
    | none => exact hne e
    | some l => rw [e] at this; exact this.elim
  have hk := h.rk hfr
  have hc := h.cx
  unfold CxR at hc
  cases cx with
  | no => exact hc.2
  | cx up d =>
    cases up with
    | none => exact hc.1.2
    | some m => have := hc.1.1; rw [hk] at this; cases this
theorem FR.slots {P : Program} {af : AF} {cx : Ctx} {fr : Frame} {cs : List Frame} (h : FR P r af cx base fr cs) : SlR r (fun _ => True) [] [] af.tmps fr.tmps :=
  ⟨fun i d v _ e => by simp at e, fun y v _ e => (h.tm y v e).2⟩
theorem noP_rOf {α : Type} {m : M α} {o : Out α} {s s' : St} (h : noP m s = rOf o s') : ∃ a, o = .inl a ∧ m s = .some a s' := by
  unfold noP at h
  cases e : m s with
  | none => rw [e] at h; exact (rOf_none h).elim
  | some a s1 => rw [e] at h; obtain ⟨rfl, rfl⟩ := rOf_inl h; exact ⟨a, rfl, rfl⟩
  | pan c s1 => rw [e] at h; exact (rOf_none h).elim
theorem bind_inl {α β : Type} {m : M α} {f : α → M β} {b : β} {s s' : St} (h : M.bind m f s = .some b s') : ∃ a s1, m s = .some a s1 ∧ f a s1 = .some b s' := bind_some h

/-! ### Regions -/
theorem regF_ok (he : EnvOK E) (c1 : CallOK E call) (c2 : RoundOK E round) {af : AF} {fr : Frame} {cs : List Frame} {s s' : St} {out : Out Step} {ops : Array Oper} {cops : List COp} {F : RT} {id : Nat} {k : List Item}
    (hc : compOps E af.glob af.n ops.toList ops.toList [] = some cops) (hF' : fuse cops = .mk F) (h : regF call round af (dstL ops.toList) F k s = rOf out s') (hF : FR E.P r af s.cx base fr cs) (hm : af.mode = .run) (htodo : af.todo = .code (.region id ops false) :: k)
    (hr : Rel w0 r s.mem w) (hb : Bnd s) (hf : Fresh r s.next s'.next) :
    ∃ w' r', Goes w0 r s s' r' w' ∧ s'.lim = s.lim ∧ StepE E.P r' base s'.cx fr (lone fr cs w) w' out := by
  obtain ⟨F2, q1, q2⟩ := fuse_eq cops
  rw [hF'] at q1
  cases q1
  unfold regF at h
  rw [q2] at h
  have hstart : step E.P (lone fr cs w) = .next (lone (frm fr fr.tmps fr.defers (.inRegion ops (List.range' 0 ops.toList.length) :: k)) cs w) := by
    rw [hF.frm hm, htodo]
    have := step_region_frm (P := E.P) (b := fr) (t := fr.tmps) (d := fr.defers) (k := k) (cs := cs) (w := w) (ops := ops) (id := id)
    rw [List.range_eq_range'] at this
    rw [show ops.toList.length = ops.size by simp]
    exact this
  have main : ∀ {o : Out (T Value)} {s1 : St}, opsIn call round cops [] af.tmps s = rOf o s1 → Fresh r s.next s1.next → ∃ w' r' dfs' cs', Goes w0 r s s1 r' w' ∧ CxR r' base s1.cx fr dfs' cs' ∧ s1.lim = s.lim ∧
      RegEnds E.P r' af.glob o (lone (frm fr fr.tmps fr.defers (.inRegion ops (List.range' 0 ops.toList.length) :: k)) cs w) fr fr.tmps ops.toList dfs' k cs' w' := fun e hf1 =>
    opsIn_ok he.ty c1 c2 ops.toList 0 [] cops [] af.tmps fr.tmps fr.defers cs w r s _ _ (fun j o hj => by rw [Nat.zero_add]; rw [Array.getElem?_toList] at hj; exact hj) hc hF.slots hF.tm hF.size rfl hr hF.cx hb hf1 e
  cases e : opsIn call round cops [] af.tmps s with
  | none => rw [e] at h; exact (rOf_none h).elim
  | some tm s1 =>
    rw [e] at h
    obtain ⟨rfl, rfl⟩ := rOf_inl ((goTm_eq af k tm s1).symm.trans h)
    obtain ⟨w', r', dfs', cs', k1, k2, k3, t', k4, k5, k6⟩ := main (o := .inl tm) e hf
    exact ⟨w', r', k1, k3, frm fr t' dfs' k, cs', rfl, ⟨hF.fn, k5.trans hF.size, k4, fun _ => rfl, by rw [show ({ af with todo := k, tmps := tm } : AF).mode = .run from hm]; exact .run, hF.round.mono k1.le, hF.rk, hF.known, k2⟩, .head hstart k6⟩
  | pan ch s1 =>
    rw [e] at h
    cases hro : af.roundOf with
    | some l => rw [hro] at h; exact (rOf_none h).elim
    | none =>
      rw [hro] at h
      obtain ⟨rfl, rfl⟩ := rOf_inl (show R.some (Step.go { af with mode := .panicking ch, tmps := delT (dstL ops.toList) af.tmps }) s1 = rOf out s' from h)
      obtain ⟨w', r', dfs', cs', k1, k2, k3, ch', t', td, k4, k5, k6, k7⟩ := main (o := .inr ch) e hf
      refine ⟨w', r', k1, k3, { frm fr t' dfs' td with mode := .panicking ch' }, cs', rfl, ⟨hF.fn, k5.trans hF.size, ?_, (fun e => by cases e), .pan k4, hF.round.mono k1.le, hF.rk, hF.known, k2⟩, .head hstart k7⟩
      intro y v hy
      obtain ⟨p1, p2⟩ := delT_get hy
      obtain ⟨p3, v', p4, p5⟩ := hF.tm y v p2
      exact ⟨p3, v', by rw [show ({ frm fr t' dfs' td with mode := .panicking ch' } : Frame).tmps = t' from rfl, k6 y p1]; exact p4, p5.mono k1.le⟩
theorem drawF_run {af : AF} {cops : List COp} {bef : List Nat} {k : List Item} {s s' : St} {out : Out Step} (h : drawF call round af cops bef k s = rOf out s') :
    ∃ tm logs s1, opsDraw call round cops [] [] af.tmps ⟨s.mem, s.next, 0, [], [], .no⟩ = .some (tm, logs) s1 ∧ apartM s.next logs.reverse bef = true ∧ out = .inl (.go { af with todo := k, tmps := tm }) ∧
      s' = ⟨s1.mem, s1.next, s.lim, rdsL s.lim logs s.rd, wrsL s.lim logs s.wr, s.cx⟩ := by
  obtain ⟨mem, next, lim, rd, wr, cx⟩ := s
  unfold drawF at h
  simp only at h
  cases e : opsDraw call round cops [] [] af.tmps ⟨mem, next, 0, [], [], .no⟩ with
  | none => rw [e] at h; exact (rOf_none h).elim
  | pan c s1 => rw [e] at h; exact (rOf_none h).elim
  | some p s1 =>
    rw [e] at h
    obtain ⟨tm, logs⟩ := p
    obtain ⟨mem1, next1, lim1, rd1, wr1, cx1⟩ := s1
    simp only at h
    cases hA : apartM next logs.reverse bef with
    | false => rw [hA] at h; exact (rOf_none h).elim
    | true =>
      rw [hA] at h
      obtain ⟨rfl, rfl⟩ := rOf_inl ((goTm_eq af k tm _).symm.trans h)
      exact ⟨tm, logs, _, rfl, hA, rfl, rfl⟩
theorem drawF_ok (he : EnvOK E) (c1 : CallOK E call) (c2 : RoundOK E round) {af : AF} {fr : Frame} {cs : List Frame} {s s' : St} {out : Out Step} {ops : Array Oper} {cops : List COp} {id : Nat} {k : List Item}
    (hc : compOps E af.glob af.n ops.toList ops.toList [] = some cops) (hd : drawOk ops.toList (Region.before ops).toList = true) (h : drawF call round af cops (Region.before ops).toList k s = rOf out s') (hF : FR E.P r af s.cx base fr cs) (hm : af.mode = .run) (htodo : af.todo = .code (.region id ops true) :: k)
    (hr : Rel w0 r s.mem w) (hf : Fresh r s.next s'.next) :
    ∃ w' r', Goes w0 r s s' r' w' ∧ s'.lim = s.lim ∧ StepE E.P r' base s'.cx fr (lone fr cs w) w' out := by
  obtain ⟨tm, logs, s1, e, hA, rfl, rfl⟩ := drawF_run h
  obtain ⟨hlen, hcomp⟩ := compOps_at ops.toList [] cops hc
  have hloc : ∀ c ∈ cops, ∀ rho tm, Loc (wantG c.guard rho (c.run call round rho tm)) := by
    intro c hcm rho tm
    obtain ⟨i, hi, rfl⟩ := List.getElem_of_mem hcm
    have hio : i < ops.toList.length := by rw [← hlen]; exact hi
    obtain ⟨g, f, p1, p2, p3, p4⟩ := hcomp i ops.toList[i] (List.getElem?_eq_getElem hio)
    rw [List.getElem?_eq_getElem hi] at p1
    rw [Option.some.inj p1]
    exact (opG_ok (ops := ops) (i := i) (keep := keepD ops.toList[i].dst af.glob) he.ty (by rw [← Array.getElem?_toList]; exact List.getElem?_eq_getElem hio) p2 p4).1 call round c1 c2 rho tm
  obtain ⟨x, t1, t2, t3, t4, t5, t6, t7⟩ := opsDraw_tra cops [] [] af.tmps _ (.inl (tm, logs)) s1 hloc rfl e
  cases t6
  have hn : cops.length = ops.size := by rw [hlen]; simp
  have H : Pre E af.glob af.n ops call round cops x := by
    refine ⟨fun i o ho => ?_, hn, t1, t4, hd, ?_⟩
    · have := hcomp i o (by rw [Array.getElem?_toList]; exact ho)
      simpa using this
    · rw [t3]
      simpa using hA
  subst t7
  simp only at hf
  rw [hn] at hf e
  simp only at t2 t3
  obtain ⟨t', w', r', g1, g2, g3, g4⟩ := H.draw_ok he.ty c1 c2 (w0 := w0) (w := w.drew) (r := r) (t := fr.tmps) (by rw [t5]; exact hF.tm) hF.size (by rw [t2]; exact hr.drew) (by rw [t3]; exact hf) fr fr.defers cs k (w.tape w.drawn (.order fr.fn id))
  have hgo := g1 s ⟨x.Mm cops.length, x.Nx cops.length, s.lim, rdsL s.lim (((List.range cops.length).map x.log).reverse ++ []) s.rd, wrsL s.lim (((List.range cops.length).map x.log).reverse ++ []) s.wr, s.cx⟩ t3.symm (by rw [hn]) (by rw [hn])
  refine ⟨w', r', hgo, rfl, frm fr t' fr.defers k, cs, rfl, ⟨hF.fn, g3, by rw [hn]; exact g2, fun _ => rfl, by rw [show ({ af with todo := k, tmps := x.Tm cops.length } : AF).mode = .run from hm]; exact .run, hF.round.mono hgo.le, hF.rk, hF.known, hF.cx.mono hgo.le⟩, ?_⟩
  refine .head ?_ g4
  rw [hF.frm hm, htodo]
  have := step_region_draw_frm (P := E.P) (b := fr) (t := fr.tmps) (d := fr.defers) (k := k) (cs := cs) (w := w) (ops := ops) (id := id)
  rw [he.mixed] at this
  have hsch : Region.schedule true ops (w.tape w.drawn (.order fr.fn id)) = Region.linearise .any ops (w.tape w.drawn (.order fr.fn id)) := by simp [Region.schedule]
  rw [hsch] at this
  exact this
theorem lo_drawF {af : AF} {cops : List COp} {bef : List Nat} {k : List Item} (hloc : ∀ c ∈ cops, ∀ rho tm, Loc (wantG c.guard rho (c.run call round rho tm))) : Loc (drawF call round af cops bef k) := ⟨fun s o s' h hb => by
  obtain ⟨tm, logs, s1, e, hA, rfl, rfl⟩ := drawF_run h
  obtain ⟨Rd, Wr, tm', es, q1, q2, _, q4, q5⟩ := opsDraw_loc cops [] [] af.tmps _ (.inl (tm, logs)) s1 hloc rfl (Nat.zero_le _) e
  cases q1
  refine ⟨Rd, Wr, rdsL s.lim logs [], wrsL s.lim logs [], ⟨rdsL_eq _ _ _, wrsL_eq _ _ _, q2.nxt, rfl, Nat.le_trans hb q2.nxt, q2.rlt, q2.wlt, q2.old, fun t e1 e2 e3 e4 => ?_⟩, fun l e1 e2 => ?_, fun l e1 e2 => ?_⟩
  · obtain ⟨t', p1, p2, p3, p4, p5, p6, p7, p8⟩ := q2.any ⟨t.mem, t.next, 0, [], [], .no⟩ e1 rfl rfl e4
    obtain ⟨tm1, tn1, tl1, tr1, tw1, tc1⟩ := t'
    simp only at p2
    refine ⟨⟨tm1, tn1, t.lim, rdsL t.lim logs t.rd, wrsL t.lim logs t.wr, t.cx⟩, ?_, p2, e2, e3, by rw [e2]; exact rdsL_eq _ _ _, by rw [e2]; exact wrsL_eq _ _ _, p7, p8⟩
    obtain ⟨mem, next, lim, rd, wr, cx⟩ := t
    unfold drawF
    simp only at p1 e1 ⊢
    rw [p1]
    simp only [rOf]
    rw [e1, hA]
    rfl
  · obtain ⟨g, a, b⟩ := q4 l e1 (Nat.lt_of_lt_of_le e2 hb)
    exact rdsL_mem e2 a b
  · obtain ⟨g, a, b⟩ := q5 l e1 (Nat.lt_of_lt_of_le e2 hb)
    exact wrsL_mem e2 a b⟩
end
end Go.Proofs.YtpkklkhdkbnjjaaGreat.Am
