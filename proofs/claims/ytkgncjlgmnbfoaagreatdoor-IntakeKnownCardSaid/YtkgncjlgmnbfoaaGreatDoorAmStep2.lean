/- Panics, recover, defer; every operation that the evaluator knows, put together. -/
import Derived.Test.YtkgncjlgmnbfoaaGreatDoorAmStep
namespace Go.Proofs.YtkgncjlgmnbfoaaGreatDoor.Am
open Go.RowKit

section
variable {E : Env} {ds : List Nat} {o : Oper}
theorem lo_rec {α : Type} {g : Option α} {f : α → M Value} (h : ∀ a, Loc (f a)) : Loc (fun s => Option.rec (motive := fun _ => R Value) .none (fun a => f a s) g) := by
  cases g with
  | none => exact lo_none
  | some a => exact h a
theorem optRec_rOf {α : Type} {x : Option α} {f : α → St → R Value} {s s' : St} {out : Out Value} (h : Option.rec (motive := fun _ => R Value) .none (fun a => f a s) x = rOf out s') : ∃ a, x = some a ∧ f a s = rOf out s' := by
  cases x with
  | none => exact (rOf_none h).elim
  | some a => exact ⟨a, rfl, h⟩
theorem chk_rOf {α : Type} {b : Bool} {m : M α} {o : Out α} {s s' : St} (h : M.chk b m s = rOf o s') : b = true ∧ m s = rOf o s' := by
  cases b with
  | false => exact (rOf_none h).elim
  | true => exact ⟨rfl, h⟩
theorem on_rOf {α β : Type} {y : Option α} {f : α → M β} {o : Out β} {s s' : St} (h : M.on y f s = rOf o s') : ∃ a, y = some a ∧ f a s = rOf o s' := by
  cases y with
  | none => exact (rOf_none h).elim
  | some a => exact ⟨a, rfl, h⟩
theorem bind_rOf {α β : Type} {m : M α} {f : α → M β} {o : Out β} {s s' : St} (h : M.bind m f s = rOf o s') : (∃ a s1, m s = .some a s1 ∧ f a s1 = rOf o s') ∨ ∃ c, m s = .pan c s' ∧ o = .inr c := by
  unfold M.bind at h
  cases e : m s with
  | none => rw [e] at h; exact (rOf_none h).elim
  | some a s1 => rw [e] at h; exact .inl ⟨a, s1, rfl, h⟩
  | pan c s1 =>
    rw [e] at h
    obtain ⟨rfl, rfl⟩ := rOf_inr h
    exact .inr ⟨c, rfl, rfl⟩
theorem getCx_bind {β : Type} {f : Ctx → M β} {s : St} : M.bind getCx f s = f s.cx s := rfl
theorem putCx_bind {β : Type} {x : Ctx} {f : Unit → M β} {s : St} : M.bind (putCx x) f s = f () ⟨s.mem, s.next, s.lim, s.rd, s.wr, x⟩ := rfl

theorem op_panic {x : Operand} (ho : o.op = .panic x) : OpS E o (with1 ds x kPanic) ds := by
  obtain ⟨g, h1, h2⟩ := compO_ok ds x
  refine ⟨_, by unfold with1; rw [h1], fun call round _ _ rho tm => lo_rec fun a => ?_, ?_⟩
  · cases a <;> first | exact lo_throw _ | exact lo_fail
  · intro call round hc1 hc2 w0 w r U rho tm b t dfs cs base s out s' hs hu hr hx hb hf e ops i rest k hoi hw
    obtain ⟨v, e1, e⟩ := optRec_rOf e
    have hv : VR r v (Act.eval ⟨t, dfs⟩ x) := h2 _ _ _ _ ⟨t, dfs⟩ _ hs (fun t q => hu t (by simp [ho, Op.operands] at q ⊢; simp [q])) e1
    have hd : ∀ c, o.op ≠ .defer c := by rw [ho]; intro c h; cases h
    cases v with
    | iface ty y =>
      obtain ⟨rfl, rfl⟩ := rOf_inr (show R.pan [{ v := .iface ty y, recovered := false }] s = rOf out s' from e)
      cases hv' : Act.eval ⟨t, dfs⟩ x with
      | iface ty' y' =>
        rw [hv'] at hv
        refine ⟨w, r, dfs, cs, .of_rel rfl hr, hx, rfl, [{ v := .iface ty' y', recovered := false }], .inRegion ops (i :: rest) :: k, .cons hv rfl rfl .nil, .one (step_lone_go ?_)⟩
        rw [stepG_frm hoi hw (.inr hd)]
        simp only [execOp, ho, hv']
        rw [← frm_raise]
        simp [stepG.apply, Instr.panic, goPanic, Sem.run]
      | _ => rw [hv'] at hv; cases hv
    | _ => exact (rOf_none e).elim
theorem op_recover {c : Call} (ho : o.op = .call c) (hc : c.callee = .builtin .recover) : OpS E o (.mk fun _ _ _ _ => kRecover) ds := by
  refine ⟨_, rfl, fun _ _ _ _ _ _ => lo_kRecover, ?_⟩
  intro call round hc1 hc2 w0 w r U rho tm b t dfs cs base s out s' hs hu hr hx hb hf e ops i rest k hoi hw
  have hd : ∀ c, o.op ≠ .defer c := by rw [ho]; intro c h; cases h
  have hrun : (execOp (Act.eval ⟨t, dfs⟩) o).run E.P w = .ok .recover w := by
    simp [execOp, ho, resolve, hc, invoke, builtin]
  have key : ∀ {v v' : Value} {cs' : List Frame}, b.roundOf = none → ((tryRecover (frm b t dfs (.inRegion ops (i :: rest) :: k)) cs = some (v', cs')) ∨ (tryRecover (frm b t dfs (.inRegion ops (i :: rest) :: k)) cs = none ∧ v' = .nilIface ∧ cs' = cs)) →
      step E.P (lone (frm b t dfs (.inRegion ops (i :: rest) :: k)) cs w) = .next (lone (frm b (putT t o.dst v') dfs (.inRegion ops rest :: k)) cs' w) := by
    intro v v' cs' hro htr
    refine step_lone_go ?_
    rw [stepG_frm hoi hw (.inr hd), ← frm_finish b t dfs hoi]
    have hro' : (frm b t dfs (.inRegion ops (i :: rest) :: k)).roundOf = none := hro
    rcases htr with htr | ⟨htr, rfl, rfl⟩ <;> simp [stepG.apply, hrun, hro', htr]
  unfold kRecover at e
  rw [getCx_bind] at e
  have fin : (∃ m d, s.cx = .cx (some m) (some d)) ∨ (∃ d, s.cx = .cx none (some d)) := by
    cases hcx : s.cx with
    | no => rw [hcx] at e; exact (rOf_none e).elim
    | cx up d =>
      cases d with
      | none => rw [hcx] at e; cases up <;> exact (rOf_none e).elim
      | some d => cases up with
        | none => exact .inr ⟨d, rfl⟩
        | some m => exact .inl ⟨m, d, rfl⟩
  rcases fin with ⟨m, d, hcx⟩ | ⟨d, hcx⟩
  · rw [hcx] at hx e
    unfold CxR at hx
    obtain ⟨⟨q1, c0, rest0, m', q2, q3, q4⟩, q5, q6⟩ := hx
    have htry := tryRecover_deferred (fr := frm b t dfs (.inRegion ops (i :: rest) :: k)) q1 cs
    cases hrm : recM m with
    | none =>
      replace e : Option.rec (motive := fun _ => M Value) (M.pure .nilIface) (fun p => M.bind (putCx (.cx (some p.2) (some d))) fun _ => M.pure p.1) (recM m) s = rOf out s' := e
      rw [hrm] at e
      obtain ⟨rfl, rfl⟩ := rOf_inl (show R.some .nilIface s = rOf out s' from e)
      refine ⟨w, r, dfs, cs, .of_rel rfl hr, ?_, rfl, .nilIface, .nilIface, .one (key (v := .nilIface) q5 (.inr ⟨?_, rfl, rfl⟩))⟩
      · rw [hcx]; exact ⟨⟨q1, c0, rest0, m', q2, q3, q4⟩, q5, q6⟩
      · rw [htry, q3]
        cases q4 with
        | run => rfl
        | ret => rfl
        | pan hch =>
          cases hch with
          | nil => rfl
          | @cons e0 e1 l0 l1 p1 p2 p3 p4 =>
            obtain ⟨ev, er, eg⟩ := e0
            obtain ⟨ev', er', eg'⟩ := e1
            simp only at p1 p2 p3
            subst p2
            subst p3
            cases er' <;> cases eg' <;> first | rfl | (simp [recM] at hrm)
    | some p =>
      replace e : Option.rec (motive := fun _ => M Value) (M.pure .nilIface) (fun p => M.bind (putCx (.cx (some p.2) (some d))) fun _ => M.pure p.1) (recM m) s = rOf out s' := e
      rw [hrm] at e
      obtain ⟨pv, pm⟩ := p
      obtain ⟨rfl, rfl⟩ := rOf_inl (show R.some pv ⟨s.mem, s.next, s.lim, s.rd, s.wr, .cx (some pm) (some d)⟩ = rOf out s' from e)
      unfold recM at hrm
      split at hrm
      · rename_i v older
        simp only [Option.some.injEq, Prod.mk.injEq] at hrm
        obtain ⟨rfl, rfl⟩ := hrm
        cases q4 with
        | pan hch =>
          cases hch with
          | @cons _ e1 _ l1 p1 p2 p3 p4 =>
            obtain ⟨ev, er, eg⟩ := e1
            simp only at p1 p2 p3
            subst p2
            subst p3
            refine ⟨w, r, dfs, { c0 with mode := .panicking ({ v := ev, recovered := true } :: l1) } :: rest0, .of_rel rfl hr, ?_, rfl, ev, p1, .one (key (v := v) q5 (.inl ?_))⟩
            · exact ⟨⟨q1, c0, rest0, _, q2, rfl, .pan (.cons p1 rfl rfl p4)⟩, q5, q6⟩
            · rw [htry, q3]; rfl
      · cases hrm
  · rw [hcx] at hx e
    unfold CxR at hx
    obtain ⟨⟨q1, q2⟩, q5, q6⟩ := hx
    obtain ⟨rfl, rfl⟩ := rOf_inl (show R.some .nilIface s = rOf out s' from e)
    refine ⟨w, r, dfs, cs, .of_rel rfl hr, ?_, rfl, .nilIface, .nilIface, .one (key (v := .nilIface) q5 (.inr ⟨?_, rfl, rfl⟩))⟩
    · rw [hcx]; exact ⟨⟨q1, q2⟩, q5, q6⟩
    · have hk : (frm b t dfs (.inRegion ops (i :: rest) :: k)).kind = .normal := q1
      unfold tryRecover
      rw [hk]
theorem op_defer {x : Operand} {c : Call} (ho : o.op = .defer c) (hc : c.callee = .value x) : OpS E o (compDefer ds c) ds := by
  obtain ⟨g, h1, h2⟩ := compO_ok ds x
  obtain ⟨g', h3, h4⟩ := compL_ok ds c.args.toList
  refine ⟨fun call round rho tm => M.on (g rho tm) fun f => M.on (g' rho tm) fun l => kDefer f l, by unfold compDefer; simp only [hc, h1, h3], ?_, ?_⟩
  · intro call round _ _ rho tm
    exact lo_on _ fun f => lo_on _ fun l => lo_kDefer _ _
  · intro call round hc1 hc2 w0 w r U rho tm b t dfs cs base s out s' hs hu hr hx hb hf e ops i rest k hoi hw
    obtain ⟨fv, e1, e⟩ := on_rOf e
    obtain ⟨l, e2, e⟩ := on_rOf e
    have hfv := h2 _ _ _ _ ⟨t, dfs⟩ _ hs (fun t q => hu t (by simp [ho, Op.operands, Call.operands, hc] at q ⊢; simp [q])) e1
    have hl : VRs r l (c.args.toList.map (Act.eval ⟨t, dfs⟩)) := h4 _ _ _ _ ⟨t, dfs⟩ _ hs (fun t q => hu t (by simp [ho, Op.operands, Call.operands] at q ⊢; simp [q])) e2
    have hmap : c.args.map (Act.eval ⟨t, dfs⟩) = (c.args.toList.map (Act.eval ⟨t, dfs⟩)).toArray := by rw [← List.map_toArray]
    unfold kDefer at e
    rw [getCx_bind] at e
    have fin : ∃ up d fn first cap, s.cx = .cx up (some d) ∧ fv = .func fn first cap := by
      cases hcx : s.cx with
      | no => rw [hcx] at e; cases fv <;> exact (rOf_none e).elim
      | cx up d =>
        cases d with
        | none => rw [hcx] at e; cases fv <;> exact (rOf_none e).elim
        | some d => cases fv with
          | func fn first cap => exact ⟨up, d, fn, first, cap, rfl, rfl⟩
          | _ => rw [hcx] at e; exact (rOf_none e).elim
    obtain ⟨up, d, fn, first, cap, hcx, rfl⟩ := fin
    · rw [hcx] at e
      obtain ⟨f', a', c', q1, q2, q3, q4⟩ := hfv.func_inv
      obtain ⟨rfl, rfl⟩ := rOf_inl (show R.some undef ⟨s.mem, s.next, s.lim, s.rd, s.wr, .cx up (some ({ target := .fn fn cap, args := first ++ l.toArray } :: d))⟩ = rOf out s' from e)
      rw [hcx] at hx
      unfold CxR at hx
      obtain ⟨p1, p2, p3⟩ := hx
      refine ⟨w, r, { target := .fn f' c', args := a' ++ c.args.map (Act.eval ⟨t, dfs⟩) } :: dfs, cs, .of_rel rfl hr, ⟨p1, p2, .cons (.fn q2 q4 ?_) p3⟩, rfl, undef, .undef, .one (step_lone_go ?_)⟩
      · rw [hmap]; simpa using q3.append hl
      · rw [stepG_frm hoi hw (.inl p2)]
        simp only [execOp, ho, resolve_value _ hc q1]
        rw [← frm_finish b t _ hoi]
        simp [stepG.apply, frm]

/-! ### All of them -/
theorem lo_int2 {k : Int → Int → St → R Value} {slow : Value → Value → M Value} (hk : ∀ a b, Loc (k a b)) (hs : ∀ x y, Loc (slow x y)) (x y : Value) : Loc (int2 k slow x y) := by
  unfold int2 caseI
  cases x
  case int k1 a =>
    cases y
    case int k2 b =>
      cases h1 : isI64 k1 with
      | false => simp only [h1]; exact hs _ _
      | true =>
        cases h2 : isI64 k2 with
        | false => simp only [h1, h2]; exact hs _ _
        | true => simp only [h1, h2]; exact hk a b
    all_goals exact hs _ _
  all_goals exact hs _ _
theorem lo_int3 {k : FastT} {slow : Value → Value → M Value} (hs : ∀ x y, Loc (slow x y)) (x y : Value) : Loc (int3 k slow x y) := by
  unfold int3 caseI
  cases x
  case int k1 a =>
    cases y
    case int k2 b =>
      cases a with
      | negSucc m => exact hs _ _
      | ofNat m =>
        cases b with
        | negSucc n => exact hs _ _
        | ofNat n =>
          simp only
          cases k k1 k2 m n with
          | none => exact hs _ _
          | some u => exact lo_pure _
    all_goals exact hs _ _
  all_goals exact hs _ _
theorem lo_aBin {op : BinOp} {t : Nat} {x y : Operand} {f : Value → Value → M Value} (h : aBin E op t x y = .mk f) : ∀ a b, Loc (f a b) := by
  have slow : ∀ op a b, Loc (binSlow E op t x y a b) := fun op a b => lo_binSlow _ _ _ _ _ _ _
  have rI' : ∀ n, Loc (rI n) := fun n => by
    have : rI n = (M.pure (.int .i64 (wrap64 n)) : M Value) := by funext s; unfold rI; rw [fI_eq]; rfl
    rw [this]; exact lo_pure _
  have rB' : ∀ b, Loc (rB b) := fun b => by cases b <;> exact lo_pure _
  intro a b
  cases op <;> cases h <;> first | exact slow _ _ _ | exact lo_int3 (slow _) _ _ | exact lo_int2 (fun a b => rI' _) (lo_int3 (slow _)) _ _ | exact lo_int2 (fun a b => rB' _) (lo_int3 (slow _)) _ _
theorem lo_with0 {x : Operand} : ∀ f, with0 ds x = .mk f → ∀ call round rho tm, Loc (f call round rho tm) := by
  obtain ⟨g, h1, _⟩ := compO_ok ds x
  intro f h
  unfold with0 at h
  rw [h1] at h
  cases h
  exact fun _ _ _ _ => lo_rec (f := fun a => M.pure a) fun a => lo_pure a
theorem lo_with1 {x : Operand} {k : Value → M Value} (hk : ∀ a, Loc (k a)) : ∀ f, with1 ds x k = .mk f → ∀ call round rho tm, Loc (f call round rho tm) := by
  obtain ⟨g, h1, _⟩ := compO_ok ds x
  intro f h
  unfold with1 at h
  rw [h1] at h
  cases h
  exact fun _ _ _ _ => lo_rec hk
theorem lo_with2 {x y : Operand} {k : Value → Value → M Value} (hk : ∀ a b, Loc (k a b)) : ∀ f, with2 ds x y k = .mk f → ∀ call round rho tm, Loc (f call round rho tm) := by
  obtain ⟨g, h1, _⟩ := compO_ok ds x
  obtain ⟨g', h2, _⟩ := compO_ok ds y
  intro f h
  unfold with2 at h
  rw [h1, h2] at h
  cases h
  exact fun _ _ rho tm => lo_rec (f := fun a s => Option.rec (motive := fun _ => R Value) .none (fun b => k a b s) (g' rho tm)) fun a => lo_rec (hk a)
theorem lo_withL {l : List Operand} {k : List Value → M Value} (hk : ∀ a, Loc (k a)) : ∀ f, withL ds l k = .mk f → ∀ call round rho tm, Loc (f call round rho tm) := by
  obtain ⟨g, h1, _⟩ := compL_ok ds l
  intro f h
  unfold withL at h
  rw [h1] at h
  cases h
  exact fun _ _ _ _ => lo_rec hk
theorem lo_withLL {l l' : List Operand} {k : List Value → List Value → M Value} (hk : ∀ a b, Loc (k a b)) : ∀ f, withLL ds l l' k = .mk f → ∀ call round rho tm, Loc (f call round rho tm) := by
  obtain ⟨g, h1, _⟩ := compL_ok ds l
  obtain ⟨g', h2, _⟩ := compL_ok ds l'
  intro f h
  unfold withLL at h
  rw [h1, h2] at h
  cases h
  exact fun _ _ rho tm => lo_rec (f := fun a s => Option.rec (motive := fun _ => R Value) .none (fun b => k a b s) (g' rho tm)) fun a => lo_rec (hk a)
theorem lo_withP {l : List (Nat × Operand)} {k : List (Nat × Value) → M Value} (hk : ∀ a, Loc (k a)) : ∀ f, withP ds l k = .mk f → ∀ call round rho tm, Loc (f call round rho tm) := by
  obtain ⟨g, h1, _⟩ := compP_ok ds l
  intro f h
  unfold withP at h
  rw [h1] at h
  cases h
  exact fun _ _ _ _ => lo_rec hk
theorem lo_with3 {x y z : Operand} {k : Value → Value → Value → M Value} (hk : ∀ a b c, Loc (k a b c)) : ∀ f, with3 ds x y z k = .mk f → ∀ call round rho tm, Loc (f call round rho tm) := by
  obtain ⟨g, h1, _⟩ := compO_ok ds x
  obtain ⟨g', h2, _⟩ := compO_ok ds y
  obtain ⟨g2, h3, _⟩ := compO_ok ds z
  intro f h
  unfold with3 at h
  rw [h1, h2, h3] at h
  cases h
  exact fun _ _ rho tm => lo_on _ fun a => lo_on _ fun b => lo_on _ fun c => hk a b c
theorem lo_compSl {t : Nat} {x : Operand} {lo hi mx : Option Operand} : ∀ f, compSl E ds t x lo hi mx = .mk f → ∀ call round rho tm, Loc (f call round rho tm) := by
  cases mx with
  | some m => intro f h; cases h; exact fun _ _ _ _ => lo_fail
  | none =>
    obtain ⟨g, h1, _⟩ := compO_ok ds x
    obtain ⟨g', h2, _⟩ := compM_ok ds lo
    obtain ⟨g2, h3, _⟩ := compM_ok ds hi
    intro f h
    unfold compSl withS at h
    simp only [h1, h2, h3] at h
    cases h
    exact fun _ _ rho tm => lo_on _ fun a => lo_on _ fun b => lo_on _ fun c => lo_aSlice _ _ _ _ _
theorem op_failC : OpS E o failC ds := ⟨_, rfl, fun _ _ _ _ _ _ => lo_fail, fun _call _round _ _ _w0 _w _r _U _rho _tm _b _t _dfs _cs _base _s _out _s' _hs _hu _hr _hx _hb _hf e => (rOf_none e).elim⟩
theorem compOp_ok (he : EnvTy E) (o : Oper) (ds : List Nat) : OpS E o (compOp E ds o.op) ds := by
  have nd : ∀ {p : Op}, o.op = p → (∀ c, p ≠ .defer c) → ∀ c, o.op ≠ .defer c := fun h k c => by rw [h]; exact k c
  generalize hop : o.op = op
  unfold compOp
  split
  · exact .ofV (op_move hop) (nd hop (by intro c h; cases h)) lo_with0
  · exact .ofV (op_assign hop) (nd hop (by intro c h; cases h)) lo_with0
  · exact .ofV (op_pick hop) (nd hop (by intro c h; cases h)) (lo_with3 lo_kPick)
  · exact .ofV (op_alloc hop he) (nd hop (by intro c h; cases h)) (by intro f h; cases h; exact fun _ _ _ _ => lo_kAlloc _ _)
  · exact .ofV (op_box hop) (nd hop (by intro c h; cases h)) (lo_with1 lo_kBox)
  · exact .ofV (op_build hop he) (nd hop (by intro c h; cases h)) (lo_withP fun a => lo_aBuild _ _ _)
  · exact .ofV (op_buildSlice hop he) (nd hop (by intro c h; cases h)) (lo_withP fun a => lo_aBuildS _ _ _ _)
  · exact .ofV (op_load hop he) (nd hop (by intro c h; cases h)) (lo_with1 fun a => lo_kLoad _ _ _)
  · exact .ofV (op_store hop he) (nd hop (by intro c h; cases h)) (lo_with2 fun a b => lo_kStore _ _ _ _)
  · exact .ofV (op_nil hop) (nd hop (by intro c h; cases h)) (lo_with1 lo_kNil)
  · refine .ofV (op_bin hop he) (nd hop (by intro c h; cases h)) ?_
    rename_i op t x y yt
    generalize hc : aBin E op t x y = c
    obtain ⟨f⟩ := c
    exact lo_with2 (lo_aBin hc)
  · exact .ofV (op_un hop) (nd hop (by intro c h; cases h)) (lo_with1 fun a => lo_kUn _ _ _)
  · exact .ofV (op_conv hop he) (nd hop (by intro c h; cases h)) (lo_with1 fun a => lo_kConvB _ _ _ _)
  · exact .ofV (op_slArr hop he) (nd hop (by intro c h; cases h)) (lo_with1 fun a => lo_kSlArr _ _ _)
  · exact .ofV (op_iface hop he) (nd hop (by intro c h; cases h)) (lo_with1 fun a => lo_kIface _ _ _)
  · exact .ofV (op_makeFunc hop) (nd hop (by intro c h; cases h)) (lo_withLL fun a b => lo_pure _)
  · exact .ofV (op_makeSlice hop he) (nd hop (by intro c h; cases h)) (lo_with2 fun a b => lo_kMkSl _ _ _ _)
  · exact .ofV (op_slice hop he) (nd hop (by intro c h; cases h)) lo_compSl
  · exact .ofV (op_fieldAddr hop he) (nd hop (by intro c h; cases h)) (lo_with1 fun a => lo_kFld _ _ _ _)
  · exact .ofV (op_field hop he) (nd hop (by intro c h; cases h)) (lo_with1 fun a => lo_kField _ _ _ _)
  · exact .ofV (op_indexAddr hop he) (nd hop (by intro c h; cases h)) (lo_with2 fun a b => lo_kIdxA _ _ _ _)
  · exact .ofV (op_index hop he) (nd hop (by intro c h; cases h)) (lo_with2 fun a b => lo_kIdx _ _ _ _)
  · exact .ofV (op_extract hop) (nd hop (by intro c h; cases h)) (lo_with1 fun a => lo_kExt _ _)
  · rename_i c
    cases hc : c.callee with
    | value f => unfold compCall; simp only [hc]; exact op_call hop hc
    | invoke a b => unfold compCall; simp only [hc]; exact op_invoke he hop hc
    | builtin bi =>
      by_cases hbr : bi = .recover
      · subst hbr; unfold compCall; simp only [hc]; exact op_recover hop hc
      · have : compCall E ds c = withL ds c.args.toList (aBuiltin E bi c.argTypes.toList) := by
          unfold compCall
          rw [hc]
          cases bi <;> first | rfl | exact absurd rfl hbr
        rw [this]
        exact .ofV (op_builtin hop hc hbr he) (nd hop (by intro c h; cases h)) (lo_withL fun a => lo_aBuiltin _ _ _ _)
  · exact op_panic hop
  · rename_i c
    cases hc : c.callee with
    | value f => exact op_defer hop hc
    | _ => unfold compDefer; simp only [hc]; exact op_failC
  · exact .ofV (op_assert hop he) (nd hop (by intro c h; cases h)) (lo_with1 fun a => lo_kAssert _ _ _ _)
  · exact .ofV (op_range hop he) (nd hop (by intro c h; cases h)) (lo_with1 fun a => lo_kRange _ _ _)
  · exact .ofV (op_next hop) (nd hop (by intro c h; cases h)) (lo_with1 fun a => lo_kNext _)
  · exact .ofV (op_mkMap hop) (nd hop (by intro c h; cases h)) (by intro f h; cases h; exact fun _ _ _ _ => lo_kMkMap)
  · exact .ofV (op_mkMapR hop he) (nd hop (by intro c h; cases h)) (lo_with1 fun a => lo_kMkMapR _ _ _)
  · exact .ofV (op_lookup hop he) (nd hop (by intro c h; cases h)) (lo_with2 fun a b => lo_kLook _ _ _ _ _)
  · exact .ofV (op_mapUp hop he) (nd hop (by intro c h; cases h)) (lo_with3 fun a b c => lo_kMapUp _ _ _ _ _)
  · exact .ofV (op_insert hop he) (nd hop (by intro c h; cases h)) (lo_with3 fun a b c => lo_kMapUp _ _ _ _ _)
  · exact .ofV (op_mapEnt hop he) (nd hop (by intro c h; cases h)) (lo_with2 fun a b => lo_kMapEnt _ _ _ _)
  · exact .ofV (op_entSt hop) (nd hop (by intro c h; cases h)) (lo_with3 fun a b c => lo_kEntSt _ _ _)
  · exact op_failC
end
end Go.Proofs.YtkgncjlgmnbfoaaGreatDoor.Am
