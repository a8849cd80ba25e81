/- Frames beside the evaluator's: code of every kind; leaving a frame. -/
import Derived.Test.YtnhmbhpkebjjaaaAmFrame3
namespace Go.Proofs.Ytnhmbhpkebjjaaa.Am
open Go.RowKit

section
variable {E : Env} {call round : CallT} {w0 w : World} {r : Inj} {base : List Deferred × List Frame}
theorem codeF_eq (call round : CallT) (af : AF) (k : List Item) (c : Code) {f : CodeT} (h : compC E af.glob af.n c = .mk f) : codeF E call round af k c = f call round af k := by
  obtain ⟨fn, n, g, tm, todo, mo, ki, ro⟩ := af
  show Cl.rec (motive := fun _ => M Step) (fun f => f call round (AF.mk fn n g tm todo mo ki ro) k) (compC E g n c) = _
  rw [show compC E g n c = .mk f from h]
theorem lo_condF (af : AF) (a b : Code) (k : List Item) (v : Value) : Loc (condF af a b k v) := by
  cases v with
  | bool t => cases t <;> exact lo_goTo _ _
  | _ => exact lo_fail
theorem lo_endR (l : Nat) (jump : Option Code) : Loc (endR l jump) := by
  unfold endR
  refine lo_bind (lo_rdC _) fun c => ?_
  cases c with
  | C a b => exact lo_fail
  | O o => cases o <;> first | exact lo_fail | exact lo_bind (lo_wrC _ _) fun _ => lo_pure _
theorem lo_leaveF (af : AF) (jump : Option Code) : Loc (leaveF af jump) := lo_opt _ (lo_chk _ (lo_goMo _ _ _)) fun l => lo_endR l jump
theorem lo_jumpF (af : AF) (jump : Code) (k : Option (List Item)) : Loc (jumpF af jump k) := lo_opt _ (lo_leaveF _ _) fun k => lo_goTo _ _
theorem lo_regF (he : EnvOK E) (c1 : CallOK E call) (c2 : RoundOK E round) {af : AF} {ops : Array Oper} {cops : List COp} {F : RT} {ds : List Nat} {k : List Item} (hc : compOps E af.glob af.n ops.toList ops.toList [] = some cops) (hF' : fuse cops = .mk F) : Loc (regF call round af ds F k) := by
  obtain ⟨F2, q1, q2⟩ := fuse_eq cops
  rw [hF'] at q1
  cases q1
  have : regF call round af ds F k = fun s => R.rec (motive := fun _ => R Step) .none (fun tm s => goTm af k tm s) (fun c s => Option.rec (motive := fun _ => M Step) (raiseF af ds c) (fun _ => M.fail) af.roundOf s) (opsIn call round cops [] af.tmps s) := by
    funext s
    unfold regF
    rw [q2]
    cases opsIn call round cops [] af.tmps s with
    | none => rfl
    | some a s => rfl
    | pan c s => cases af.roundOf <;> rfl
  rw [this]
  refine lo_catch (f := fun tm => goTm af k tm) (g := fun c => Option.rec (motive := fun _ => M Step) (raiseF af ds c) (fun _ => M.fail) af.roundOf) ?_ (fun tm => lo_goTm _ _ _) fun c => lo_opt _ (lo_goMo _ _ _) fun _ => lo_fail
  exact lo_opsIn he.ty c1 c2 ops.toList 0 [] cops hc (fun j o hj => by rw [Nat.zero_add]; rw [Array.getElem?_toList] at hj; exact hj) [] af.tmps
theorem lo_drawE (he : EnvOK E) (c1 : CallOK E call) (c2 : RoundOK E round) {af : AF} {ops : Array Oper} {cops : List COp} {bef ds : List Nat} {m : Nat} {k : List Item} (hc : compOps E af.glob af.n ops.toList ops.toList [] = some cops)
    (hloc : ∀ c ∈ cops, ∀ rho tm, Loc (wantG c.guard rho (c.run call round rho tm))) : Loc (drawE call round af (cops.take m) (cops.drop m) bef ds k) := by
  refine lo_bind (lo_drawP fun c hcm => hloc c (List.mem_of_mem_take hcm)) fun q => ?_
  refine lo_catch (f := fun tm => goTm af k tm) (g := fun c => Option.rec (motive := fun _ => M Step) (raiseF af ds c) (fun _ => M.fail) af.roundOf) ?_ (fun tm => lo_goTm _ _ _) fun c => lo_opt _ (lo_goMo _ _ _) fun _ => lo_fail
  exact lo_opsIn he.ty c1 c2 (ops.toList.drop m) m _ _ (compOps_drop m ops.toList [] cops hc) (fun j o hj => by rw [List.getElem?_drop, Array.getElem?_toList] at hj; exact hj) _ _
theorem compReg_cases (g n : Nat) (ops : Array Oper) (d : Bool) : (∃ f, compReg E g n ops d = .mk f ∧ f = fun _ _ _ _ => M.fail) ∨ ∃ cops F, compOps E g n ops.toList ops.toList [] = some cops ∧ fuse cops = .mk F ∧
    ((d = false ∧ compReg E g n ops d = .mk fun call round fr k => regF call round fr (dstL ops.toList) F k) ∨ (d = true ∧ drawOk ops.toList (Region.before ops).toList = true ∧ ∃ m, m = manyD ops.size (Region.before ops).toList ∧ compReg E g n ops d = .mk fun call round fr k => drawE call round fr (cops.take m) (cops.drop m) (Region.before ops).toList (dstL ops.toList) k)) := by
  unfold compReg
  cases e : compOps E g n ops.toList ops.toList [] with
  | none => exact .inl ⟨_, rfl, rfl⟩
  | some cops =>
    obtain ⟨F, q1, _⟩ := fuse_eq cops
    cases d with
    | false => exact .inr ⟨cops, F, rfl, q1, .inl ⟨rfl, by simp only [q1]⟩⟩
    | true =>
      cases hd : drawOk ops.toList (Region.before ops).toList with
      | false => exact .inl ⟨_, rfl, rfl⟩
      | true =>
        refine .inr ⟨cops, F, rfl, q1, .inr ⟨rfl, rfl, _, rfl, ?_⟩⟩
        have hn : cops.length = ops.size := by rw [(compOps_at ops.toList [] cops e).1]; simp
        show drawC cops (dstL ops.toList) (Region.before ops).toList (manyD cops.length (Region.before ops).toList) = _
        unfold drawC
        simp only [takeC_eq, dropC_eq, hn]
theorem lo_hloc (he : EnvOK E) (c1 : CallOK E call) (c2 : RoundOK E round) {g n : Nat} {ops : Array Oper} {cops : List COp} (hc : compOps E g n ops.toList ops.toList [] = some cops) : ∀ c ∈ cops, ∀ rho tm, Loc (wantG c.guard rho (c.run call round rho tm)) := by
  obtain ⟨hlen, hcomp⟩ := compOps_at ops.toList [] cops hc
  intro c hcm rho tm
  obtain ⟨i, hi, rfl⟩ := List.getElem_of_mem hcm
  have hio : i < ops.toList.length := by rw [← hlen]; exact hi
  obtain ⟨g, f, p1, p2, p3, p4⟩ := hcomp i ops.toList[i] (List.getElem?_eq_getElem hio)
  rw [List.getElem?_eq_getElem hi] at p1
  rw [Option.some.inj p1]
  exact (opG_ok (ops := ops) (i := i) (keep := keepD ops.toList[i].dst _) he.ty (by rw [← Array.getElem?_toList]; exact List.getElem?_eq_getElem hio) p2 p4).1 call round c1 c2 rho tm
theorem lo_codeF (he : EnvOK E) (c1 : CallOK E call) (c2 : RoundOK E round) (af : AF) (k : List Item) (c : Code) : Loc (codeF E call round af k c) := by
  cases c with
  | skip => rw [codeF_eq (f := fun _ _ fr k => goTo fr k) call round af k _ rfl]; exact lo_goTo _ _
  | region id ops d =>
    rcases compReg_cases (E := E) af.glob af.n ops d with ⟨f, q1, rfl⟩ | ⟨cops, F, q1, q2, ⟨rfl, q3⟩ | ⟨rfl, q4, m, hm0, q3⟩⟩
    · rw [codeF_eq call round af k (.region id ops d) q1]; exact lo_fail
    · rw [codeF_eq call round af k (.region id ops false) q3]; exact lo_regF he c1 c2 q1 q2
    · rw [codeF_eq call round af k (.region id ops true) q3]; exact lo_drawE he c1 c2 q1 (lo_hloc he c1 c2 q1)
  | seq a b => rw [codeF_eq (f := fun _ _ fr k => goTo fr (.code a :: .code b :: k)) call round af k _ rfl]; exact lo_goTo _ _
  | cond x a b =>
    obtain ⟨g, h1, _⟩ := compO_ok [] x
    rw [codeF_eq (f := fun _ _ fr k => M.on (g [] fr.tmps) (condF fr a b k)) call round af k (.cond x a b) (by unfold compC; simp only [h1])]
    exact lo_on _ fun v => lo_condF _ _ _ _ _
  | block id b => rw [codeF_eq (f := fun _ _ fr k => goTo fr (.code b :: .inBlock id :: k)) call round af k _ rfl]; exact lo_goTo _ _
  | loop b => rw [codeF_eq (f := fun _ _ fr k => goTo fr (.code b :: .inLoop b :: k)) call round af k _ rfl]; exact lo_goTo _ _
  | rangeFunc f ps as bd =>
    obtain ⟨g, h1, _⟩ := compO_ok [] f
    rw [codeF_eq (f := fun call _ fr k => M.on (g [] fr.tmps) fun f => rangeF E call fr f ps as bd k) call round af k (.rangeFunc f ps as bd) (by unfold compC; simp only [h1])]
    exact lo_on _ fun v => lo_rangeF c1 _ _ _ _ _ _
  | exit id => rw [codeF_eq (f := fun _ _ fr k => jumpF fr (.exit id) (exitTo id k)) call round af k _ rfl]; exact lo_jumpF _ _ _
  | scope b => rw [codeF_eq (f := fun _ _ fr k => goTo fr (.code b :: .inScope b :: k)) call round af k _ rfl]; exact lo_goTo _ _
  | label l => rw [codeF_eq (f := fun _ _ fr k => goTo fr k) call round af k _ rfl]; exact lo_goTo _ _
  | goto l => rw [codeF_eq (f := fun _ _ fr k => jumpF fr (.goto l) (gotoIn l k)) call round af k _ rfl]; exact lo_jumpF _ _ _
  | ret => rw [codeF_eq (f := fun _ _ fr _ => leaveF fr (some .ret)) call round af k _ rfl]; exact lo_leaveF _ _
  | refuse x => rw [codeF_eq (f := fun _ _ _ _ => M.fail) call round af k _ rfl]; exact lo_fail
theorem codeF_ok (he : EnvOK E) (c1 : CallOK E call) (c2 : RoundOK E round) {af : AF} {fr : Frame} {cs : List Frame} {s s' : St} {out : Out Step} {c : Code} {k : List Item} (h : codeF E call round af k c s = rOf out s') (hF : FR E.P r af s.cx base fr cs) (hm : af.mode = .run) (htodo : af.todo = .code c :: k)
    (hr : Rel w0 r s.mem w) (hb : Bnd s) (hf : Fresh r s.next s'.next) :
    ∃ w' r', Goes w0 r s s' r' w' ∧ s'.lim = s.lim ∧ StepE E.P r' base s'.cx fr (lone fr cs w) w' out := by
  cases c with
  | skip => rw [codeF_eq (f := fun _ _ fr k => goTo fr k) call round af k _ rfl] at h; exact goTo_ok h hF hm hr (by rw [htodo]; exact sf_skip)
  | region id ops d =>
    rcases compReg_cases (E := E) af.glob af.n ops d with ⟨f, q1, rfl⟩ | ⟨cops, F, q1, q2, ⟨rfl, q3⟩ | ⟨rfl, q4, m, hm0, q3⟩⟩
    · rw [codeF_eq call round af k (.region id ops d) q1] at h; exact (rOf_none h).elim
    · rw [codeF_eq call round af k (.region id ops false) q3] at h; exact regF_ok he c1 c2 q1 q2 h hF hm htodo hr hb hf
    · rw [codeF_eq call round af k (.region id ops true) q3] at h; exact drawE_ok he c1 c2 q1 q4 hm0 h hF hm htodo hr hb hf
  | seq a b => rw [codeF_eq (f := fun _ _ fr k => goTo fr (.code a :: .code b :: k)) call round af k _ rfl] at h; exact goTo_ok h hF hm hr (by rw [htodo]; exact sf_seq)
  | cond x a b =>
    obtain ⟨g, h1, h2⟩ := compO_ok [] x
    rw [codeF_eq (f := fun _ _ fr k => M.on (g [] fr.tmps) (condF fr a b k)) call round af k (.cond x a b) (by unfold compC; simp only [h1])] at h
    obtain ⟨v, e1, h⟩ := on_rOf h
    have hv : VR r v (Act.eval ⟨fr.tmps, fr.defers⟩ x) := h2 _ _ _ _ ⟨fr.tmps, fr.defers⟩ _ hF.slots (fun _ _ => True.intro) e1
    cases v with
    | bool t =>
      have hx : Act.eval ⟨fr.tmps, fr.defers⟩ x = .bool t := by
        generalize Act.eval ⟨fr.tmps, fr.defers⟩ x = y at hv
        cases hv; rfl
      cases t with
      | true => exact goTo_ok (k := .code a :: k) h hF hm hr (by rw [htodo]; exact sf_cond hx)
      | false => exact goTo_ok (k := .code b :: k) h hF hm hr (by rw [htodo]; exact sf_cond hx)
    | _ => exact (rOf_none h).elim
  | block id b => rw [codeF_eq (f := fun _ _ fr k => goTo fr (.code b :: .inBlock id :: k)) call round af k _ rfl] at h; exact goTo_ok h hF hm hr (by rw [htodo]; exact sf_block)
  | loop b => rw [codeF_eq (f := fun _ _ fr k => goTo fr (.code b :: .inLoop b :: k)) call round af k _ rfl] at h; exact goTo_ok h hF hm hr (by rw [htodo]; exact sf_loop)
  | rangeFunc f ps as bd =>
    obtain ⟨g, h1, h2⟩ := compO_ok [] f
    rw [codeF_eq (f := fun call _ fr k => M.on (g [] fr.tmps) fun f => rangeF E call fr f ps as bd k) call round af k (.rangeFunc f ps as bd) (by unfold compC; simp only [h1])] at h
    obtain ⟨v, e1, h⟩ := on_rOf h
    have hv : VR r v (Act.eval ⟨fr.tmps, fr.defers⟩ f) := h2 _ _ _ _ ⟨fr.tmps, fr.defers⟩ _ hF.slots (fun _ _ => True.intro) e1
    exact rangeF_ok he c1 h hF hm htodo hv hr hb hf
  | exit id =>
    rw [codeF_eq (f := fun _ _ fr k => jumpF fr (.exit id) (exitTo id k)) call round af k _ rfl] at h
    exact jumpF_ok h hF hm hr hF.csr (fun k' e => by rw [htodo]; exact sf_exit e) fun e => .inl ⟨id, k, htodo, e, rfl⟩
  | scope b => rw [codeF_eq (f := fun _ _ fr k => goTo fr (.code b :: .inScope b :: k)) call round af k _ rfl] at h; exact goTo_ok h hF hm hr (by rw [htodo]; exact sf_scope)
  | label l => rw [codeF_eq (f := fun _ _ fr k => goTo fr k) call round af k _ rfl] at h; exact goTo_ok h hF hm hr (by rw [htodo]; exact sf_label)
  | goto l =>
    rw [codeF_eq (f := fun _ _ fr k => jumpF fr (.goto l) (gotoIn l k)) call round af k _ rfl] at h
    exact jumpF_ok h hF hm hr hF.csr (fun k' e => by rw [htodo]; exact sf_goto e) fun e => .inr ⟨l, k, htodo, e, rfl⟩
  | ret => rw [codeF_eq (f := fun _ _ fr _ => leaveF fr (some .ret)) call round af k _ rfl] at h; exact leaveF_ok h hF hm hr hF.csr (.inr (.inl ⟨k, htodo, rfl⟩))
  | refuse x => rw [codeF_eq (f := fun _ _ _ _ => M.fail) call round af k _ rfl] at h; exact (rOf_none h).elim
theorem lo_begR (af : AF) (k : List Item) : Loc (begR af k) := by
  unfold begR
  cases af.roundOf with
  | none => exact lo_fail
  | some l =>
    refine lo_bind (lo_rdC _) fun c => ?_
    cases c with
    | C a b => exact lo_fail
    | O o =>
      cases o with
      | loop st pe f n g tm ps as bd df => cases st <;> first | exact lo_fail | exact lo_bind (lo_wrC _ _) fun _ => lo_goTo _ _
      | _ => exact lo_fail
theorem lo_itemF (he : EnvOK E) (c1 : CallOK E call) (c2 : RoundOK E round) (af : AF) (k : List Item) (x : Item) : Loc (itemF E call round af k x) := by
  cases x with
  | code c => exact lo_codeF he c1 c2 _ _ _
  | inBlock id => exact lo_goTo _ _
  | inLoop b => exact lo_goTo _ _
  | inScope b => exact lo_goTo _ _
  | beginRound => exact lo_begR _ _
  | _ => exact lo_fail
theorem itemF_ok (he : EnvOK E) (c1 : CallOK E call) (c2 : RoundOK E round) {af : AF} {fr : Frame} {cs : List Frame} {s s' : St} {out : Out Step} {x : Item} {k : List Item} (h : itemF E call round af k x s = rOf out s') (hF : FR E.P r af s.cx base fr cs) (hm : af.mode = .run) (htodo : af.todo = x :: k)
    (hr : Rel w0 r s.mem w) (hb : Bnd s) (hf : Fresh r s.next s'.next) :
    ∃ w' r', Goes w0 r s s' r' w' ∧ s'.lim = s.lim ∧ StepE E.P r' base s'.cx fr (lone fr cs w) w' out := by
  cases x with
  | code c => exact codeF_ok he c1 c2 h hF hm htodo hr hb hf
  | inBlock id => exact goTo_ok (k := k) h hF hm hr (by rw [htodo]; exact sf_inBlock)
  | inLoop b => exact goTo_ok (k := .code b :: .inLoop b :: k) h hF hm hr (by rw [htodo]; exact sf_inLoop)
  | inScope b => exact goTo_ok (k := k) h hF hm hr (by rw [htodo]; exact sf_inScope)
  | beginRound => exact begR_ok h hF hm htodo hr
  | _ => exact (rOf_none h).elim

/-! ### Results -/
theorem lo_resV (tm : T Value) (x : ResultVar) : Loc (resV E tm x) := by
  cases x with
  | tmp t => exact lo_ofOpt _
  | cell a t => exact lo_on _ fun a => lo_bind (lo_asA _) fun a => lo_aLoad _ _ _
theorem lo_resL (tm : T Value) : ∀ (l : List ResultVar), Loc (resL E tm l)
  | [] => lo_pure _
  | x :: l => lo_bind (lo_resV tm x) fun v => lo_bind (lo_resL tm l) fun l => lo_pure _
def resM (t : Array Value) (x : ResultVar) : Sem Value :=
  match x with
  | .tmp i => pure (t.getD i undef)
  | .cell a ty => do loadVar ty (← asAddr (t.getD a undef))
theorem results_eq (fn : Func) (t : Array Value) : results fn t = (do let vs ← fn.results.mapM (resM t); pure (if h : vs.size = 1 then vs[0] else .tuple vs)) := rfl
theorem resV_ok (he : EnvTy E) {g : Nat} {tm : T Value} {t : Array Value} {x : ResultVar} {s s' : St} {v : Value} (h : resV E tm x s = .some v s') (hT : TmR r g tm t) (hr : Rel w0 r s.mem w) :
    ∃ v', ((resM t x).run E.P w = .ok v' w) ∧ VR r v v' ∧ Same s s' := by
  cases x with
  | tmp i =>
    obtain ⟨h1, rfl⟩ := ofOpt_some h
    obtain ⟨_, v', k1, k2⟩ := hT i v h1
    exact ⟨v', by simp [resM, Array.getD_eq_getD_getElem?, k1], k2, .refl _⟩
  | cell a ty =>
    obtain ⟨av, h1, h⟩ := on_some h
    obtain ⟨ad, s1, h2, h3⟩ := bind_some h
    obtain ⟨rfl, rfl⟩ := asA_some h2
    obtain ⟨_, v', k1, k2⟩ := hT a _ h1
    obtain ⟨ad', rfl, k3⟩ := k2.ptr_inv
    obtain ⟨v', k4, k5, k6⟩ := aLoad_ok he h3 hr k3
    refine ⟨v', ?_, k5, k6⟩
    simp only [resM, Array.getD_eq_getD_getElem?, k1, Option.getD_some, Sem.run_bind, asAddr, Sem.run_pure, Result.andThen_ok, k4]
theorem resL_ok (he : EnvTy E) {g : Nat} {tm : T Value} {t : Array Value} (hT : TmR r g tm t) : ∀ (l : List ResultVar) {s s' : St} {vs : List Value}, resL E tm l s = .some vs s' → Rel w0 r s.mem w →
    ∃ vs', (l.mapM (resM t)).run E.P w = .ok vs' w ∧ VRs r vs vs' ∧ Same s s'
  | [], s, s', vs, h, hr => by
    obtain ⟨rfl, rfl⟩ := pure_some h
    exact ⟨[], by simp, .nil, .refl _⟩
  | x :: l, s, s', vs, h, hr => by
    obtain ⟨v, s1, h1, h⟩ := bind_some h
    obtain ⟨ws, s2, h2, h⟩ := bind_some h
    obtain ⟨rfl, rfl⟩ := pure_some h
    obtain ⟨v', k1, k2, k3⟩ := resV_ok he h1 hT hr
    obtain ⟨ws', k4, k5, k6⟩ := resL_ok he hT l h2 (by rw [k3.1]; exact hr)
    refine ⟨v' :: ws', ?_, .cons k2 k5, k3.trans k6⟩
    rw [List.mapM_cons]
    simp only [Sem.run_bind, k1, Result.andThen_ok, k4, Sem.run_pure]
theorem resultsA_ok (he : EnvTy E) {g : Nat} {tm : T Value} {t : Array Value} {fn : Func} {s s' : St} {v : Value} (h : resultsA E fn tm s = .some v s') (hT : TmR r g tm t) (hr : Rel w0 r s.mem w) : ∃ v', (results fn t).run E.P w = .ok v' w ∧ VR r v v' ∧ Same s s' := by
  obtain ⟨vs, s1, h1, h⟩ := bind_some h
  obtain ⟨rfl, rfl⟩ := pure_some h
  obtain ⟨vs', k1, k2, k3⟩ := resL_ok he hT _ h1 hr
  have hm : (fn.results.mapM (resM t)).run E.P w = .ok vs'.toArray w := by
    rw [Array.mapM_eq_mapM_toList, map_eq_pure_bind]
    simp only [Sem.run_bind, k1, Result.andThen_ok, Sem.run_pure, Function.comp]
  refine ⟨tupV vs', ?_, ?_, k3⟩
  · rw [results_eq]
    simp only [Sem.run_bind, hm, Result.andThen_ok, Sem.run_pure]
    congr 1
    unfold tupV
    cases vs' with
    | nil => rfl
    | cons a l => cases l <;> simp
  · cases vs with
    | nil => rw [k2.inv_nil]; exact VRs.tuple .nil
    | cons a l =>
      obtain ⟨a', l', rfl, q1, q2⟩ := k2.inv
      cases l with
      | nil => rw [q2.inv_nil]; exact q1
      | cons b m =>
        obtain ⟨b', m', rfl, q3, q4⟩ := q2.inv
        exact VRs.tuple (.cons q1 (.cons q3 q4))
end
end Go.Proofs.Ytnhmbhpkebjjaaa.Am
