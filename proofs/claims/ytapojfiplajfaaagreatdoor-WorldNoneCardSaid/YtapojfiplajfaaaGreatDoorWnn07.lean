/- The machine's frames beside the evaluator's:contexts,panics,calls;one operation's steps. -/
import Derived.Test.YtapojfiplajfaaaGreatDoorWnn06
import Derived.Recover
import Derived.Orders
namespace Go.Proofs.YtapojfiplajfaaaGreatDoor.Am
open Go.RowKit
/-! ### Panics,deferred calls,what belongs to a frame -/
inductive ChR (r:Inj):List PanicEntry→List PanicEntry→Prop
 |nil:ChR r [] []
 |cons {e e':PanicEntry} {l l':List PanicEntry}:VR r e.v e'.v→e'.recovered=e.recovered→e'.goexit=e.goexit→ChR r l l'→ChR r (e::l) (e'::l')
theorem ChR.mono {r r':Inj}(h:r.le r'){l l':List PanicEntry}(k:ChR r l l'):ChR r' l l':=by
 induction k with
 |nil=>exact .nil
 |cons a b c _ ih=>exact .cons (a.mono h) b c ih
theorem ChR.append {r:Inj}{a a' b b':List PanicEntry}(h:ChR r a a')(k:ChR r b b'):ChR r (a++b) (a'++b'):=by
 induction h with
 |nil=>exact k
 |cons x y z _ ih=>exact .cons x y z ih
inductive MoR (r:Inj):FrameMode→FrameMode→Prop
 |run:MoR r .run .run
 |ret:MoR r .returning .returning
 |pan {c c':List PanicEntry}:ChR r c c'→MoR r (.panicking c) (.panicking c')
theorem MoR.mono {r r':Inj}(h:r.le r'){m m':FrameMode}(k:MoR r m m'):MoR r' m m':=by
 cases k with
 |run=>exact .run
 |ret=>exact .ret
 |pan c=>exact .pan (c.mono h)
inductive DfR (r:Inj):Deferred→Deferred→Prop
 |fn {f f':Fn} {c c' a a':Array Value}:FnR r f f'→VRs r c.toList c'.toList→VRs r a.toList a'.toList→DfR r ⟨.fn f c,a⟩ ⟨.fn f' c',a'⟩
 |coll {b b' d:Nat}:r.blk b=some (b',d)→DfR r ⟨.collected b, #[]⟩ ⟨.collected b', #[]⟩
theorem DfR.mono {r r':Inj}(h:r.le r'){m m':Deferred}(k:DfR r m m'):DfR r' m m':=by
 cases k with
 |fn a b c=>exact .fn (a.mono h) (b.mono h) (c.mono h)
 |coll a=>exact .coll (h.1 _ _ a)
inductive DfsR (r:Inj):List Deferred→List Deferred→Prop
 |nil:DfsR r [] []
 |cons {e e':Deferred} {l l':List Deferred}:DfR r e e'→DfsR r l l'→DfsR r (e::l) (e'::l')
theorem DfsR.mono {r r':Inj}(h:r.le r'){l l':List Deferred}(k:DfsR r l l'):DfsR r' l l':=by
 induction k with
 |nil=>exact .nil
 |cons a _ ih=>exact .cons (a.mono h) ih
/-- What a frame has deferred and who called it,against the context: 'base' has both as they were when the frame began (or when the context was shut). -/
def CxR (r:Inj)(base:List Deferred×List Frame)(cx:Ctx)(b:Frame)(dfs:List Deferred)(cs:List Frame):Prop:=
 match cx with
 | .no=>dfs=base.1∧cs=base.2
 | .cx up d=>
  (match up with
   |none=>b.kind= .normal∧cs=base.2
   |some m=>b.kind= .deferred∧ ∃c rest m',base.2=c::rest∧cs={c with mode:=m'}::rest∧MoR r m m')∧
  (match d with
   |none=>b.roundOf≠none∧dfs=[]
   |some l=>b.roundOf=none∧DfsR r l dfs)
theorem CxR.mono {r r':Inj}(h:r.le r'){base:List Deferred×List Frame}{cx:Ctx}{b:Frame}{dfs:List Deferred}{cs:List Frame}(k:CxR r base cx b dfs cs):CxR r' base cx b dfs cs:=by
 unfold CxR at *
 cases cx with
 |no=>exact k
 |cx up d=>
  obtain⟨k1,k2⟩:=k
  constructor
  ·cases up with
   |none=>exact k1
   |some m=>obtain⟨q1,c,rest,m',q2,q3,q4⟩:=k1;exact⟨q1,c,rest,m',q2,q3,q4.mono h⟩
  ·cases d with
   |none=>exact k2
   |some l=>exact⟨k2.1,k2.2.mono h⟩
/-! ### Frames in the midst of their work -/
def frm (b:Frame)(t:Array Value)(d:List Deferred)(todo:List Item):Frame:={fn:=b.fn,tmps:=t,todo,defers:=d,mode:= .run,kind:=b.kind,roundOf:=b.roundOf}
def putT (t:Array Value)(dst:Option Nat)(v:Value):Array Value:=
 match dst with
 |some d=>t.setIfInBounds d v
 |none=>t
theorem frm_eval (b:Frame)(t:Array Value)(d:List Deferred)(todo:List Item):(frm b t d todo).eval=Act.eval ⟨t,d⟩:=funext fun x=>by cases x<;>rfl
theorem frm_finish (b:Frame)(t:Array Value)(d:List Deferred){ops:Array Oper}{i:Nat}{o:Oper}(ho:ops[i]?=some o)(rest:List Nat)(k:List Item)(v:Value):
  (frm b t d (.inRegion ops (i::rest)::k)).finish v=frm b (putT t o.dst v) d (.inRegion ops rest::k):=by
 cases h:o.dst<;>simp[Frame.finish,frm,putT,ho,h]
section
variable {P:Program}{b:Frame}{t:Array Value}{d:List Deferred}{k:List Item}{cs:List Frame}{w:World}{ops:Array Oper}
theorem stepG_frm {i:Nat}{rest:List Nat}{o:Oper}(ho:ops[i]?=some o)(hw:Region.wanted o (yielded ops t)=true)(hd:b.roundOf=none∨ ∀c,o.op≠ .defer c):
  stepG P true {frame:=frm b t d (.inRegion ops (i::rest)::k),callers:=cs,status:= .running,dying:=none} w=
   stepG.apply P true (frm b t d (.inRegion ops (i::rest)::k)) cs none (execOp (Act.eval ⟨t,d⟩) o) w:=by
 have he:=frm_eval b t d (.inRegion ops (i::rest)::k)
 have e1:stepG P true {frame:=frm b t d (.inRegion ops (i::rest)::k),callers:=cs,status:= .running,dying:=none} w=
   stepG.oper P true (frm b t d (.inRegion ops (i::rest)::k)) cs none w:=by
  simp[stepG,stepG.exec,frm,ho,hw]
 rw[e1]
 have e2:(frm b t d (.inRegion ops (i::rest)::k)).oper?=some o:=ho
 unfold stepG.oper
 simp only[e2,he]
 split
 ·rename_i l c h1 h2
  rcases hd with hd|hd
  ·rw[show(frm b t d (.inRegion ops (i::rest)::k)).roundOf=b.roundOf from rfl,hd]at h1
   cases h1
  ·exact absurd h2 (hd c)
 ·rfl
theorem step_region_frm {id:Nat}:step P (lone (frm b t d (.code (.region id ops false)::k)) cs w)= .next (lone (frm b t d (.inRegion ops (List.range ops.size)::k)) cs w):=
 step_lone_go (by simp[stepG,stepG.exec,frm])
theorem step_region_draw_frm {id:Nat}:
  step P (lone (frm b t d (.code (.region id ops true)::k)) cs w)=
   .next (lone (frm b t d (.inRegion ops (Region.schedule (P.follows .mixedOrders) ops (w.tape w.drawn (.order b.fn id)))::k)) cs {w with drawn:=w.drawn+1}):=
 step_lone_go (by simp[stepG,stepG.exec,frm,choose,Sem.run,Question.forced,Question.cut])
theorem step_region_end_frm:step P (lone (frm b t d (.inRegion ops []::k)) cs w)= .next (lone (frm b t d k) cs w):=
 step_lone_go (by simp[stepG,stepG.exec,frm])
theorem step_op_skip_frm {i:Nat}{o:Oper}{rest:List Nat}(ho:ops[i]?=some o)(h:Region.wanted o (yielded ops t)=false):
  step P (lone (frm b t d (.inRegion ops (i::rest)::k)) cs w)= .next (lone (frm b (putT t o.dst undef) d (.inRegion ops rest::k)) cs w):=by
 rw[←frm_finish b t d ho]
 exact step_lone_go (by simp[stepG,stepG.exec,frm,ho,h])
end
/-! ### Calls -/
/-- What comes of a call,for whoever called. -/
def Ends (P:Program)(r:Inj)(out:Out Value)(m:Machine)(c:Frame)(cs:List Frame)(w':World):Prop:=
 match out with
 | .inl v=> ∃v',VR r v v'∧Steps P m (lone (c.finish v') cs w')
 | .inr ch=> ∃ch',ChR r ch ch'∧Steps P m (lone (c.raise ch') cs w')
/-- A call that is answered at once:of a function without a body. -/
def AtOnce (P:Program)(w0 w:World)(r:Inj)(s:St)(f:Nat)(args':List Value)(out:Out Value)(s':St):Prop:=
 ∃v v' w' r',out= .inl v∧VR r' v v'∧Goes w0 r s s' r' w'∧s'.lim=s.lim∧s'.cx=s.cx∧(callFunc f args'.toArray).run P w= .ok (.value v') w'
structure CallOK (E:Env)(call:CallT):Prop where
 loc: ∀f args,Loc (call f args)
 ok: ∀{w0 w:World} {r:Inj} {f:Nat} {args args':List Value} {s:St} {out:Out Value} {s':St},call f args s=rOf out s'→Rel w0 r s.mem w→Bnd s→Fresh r s.next s'.next→VRs r args args'→
  ((∀w,(callFunc f args'.toArray).run E.P w= .ok (.enter f args'.toArray) w)∧
  ∀c cs,∃w' r',Goes w0 r s s' r' w'∧s'.lim=s.lim∧s'.cx=s.cx∧Ends E.P r' out (lone (Frame.enter E.P f args'.toArray .normal) (c::cs) w) c cs w')∨
  (E.ext.get f≠none∧AtOnce E.P w0 w r s f args' out s')
structure RoundOK (E:Env)(round:CallT):Prop where
 loc: ∀l args,Loc (round l args)
 ok: ∀{w0 w:World} {r:Inj} {l l' d:Nat} {args args':List Value} {s:St} {out:Out Value} {s':St},round l args s=rOf out s'→Rel w0 r s.mem w→Bnd s→Fresh r s.next s'.next→VRs r args args'→r.blk l=some (l',d)→
  ∃f tm as bd,(Instr.yield l' args'.toArray).run E.P w= .ok (.round l' f tm as bd) w∧
  ∀c cs,∃w' r',Goes w0 r s s' r' w'∧s'.lim=s.lim∧s'.cx=s.cx∧Ends E.P r' out (lone (Frame.round l' f tm as bd .normal) (c::cs) w) c cs w'
/-! ### One operation -/
/-- What comes of an operation,in its frame. -/
def OpEnds (P:Program)(r:Inj)(out:Out Value)(m:Machine)(b:Frame)(t:Array Value)(dfs:List Deferred)(ops:Array Oper)(o:Oper)(rest:List Nat)(k:List Item)(cs:List Frame)(w':World):Prop:=
 match out with
 | .inl v=> ∃v',VR r v v'∧Steps P m (lone (frm b (putT t o.dst v') dfs (.inRegion ops rest::k)) cs w')
 | .inr ch=> ∃ch' td,ChR r ch ch'∧Steps P m (lone {frm b t dfs td with mode:= .panicking ch'} cs w')
def OpS (E:Env)(o:Oper)(c:Cl OpT)(ds:List Nat):Prop:=
 ∃f,c= .mk f∧(∀call round,CallOK E call→RoundOK E round→ ∀rho tm,Loc (f call round rho tm))∧
  ∀call round,CallOK E call→RoundOK E round→ ∀(w0 w:World) (r:Inj) (U:Nat→Prop) rho tm (b:Frame) (t:Array Value) (dfs:List Deferred) (cs:List Frame) (base:List Deferred×List Frame) (s:St) (out:Out Value) (s':St),
   SlR r U ds rho tm t→(∀t,Operand.tmp t∈o.op.operands.toList→U t)→Rel w0 r s.mem w→CxR r base s.cx b dfs cs→Bnd s→Fresh r s.next s'.next→f call round rho tm s=rOf out s'→
   ∀(ops:Array Oper) i rest k,ops[i]?=some o→Region.wanted o (yielded ops t)=true→
    ∃w' r' dfs' cs',Goes w0 r s s' r' w'∧CxR r' base s'.cx b dfs' cs'∧s'.lim=s.lim∧
     OpEnds E.P r' out (lone (frm b t dfs (.inRegion ops (i::rest)::k)) cs w) b t dfs' ops o rest k cs' w'
theorem OpS.ofV {E:Env}{o:Oper}{c:Cl OpT}{ds:List Nat}(h:OpV E o c ds)(hd: ∀c,o.op≠ .defer c)(hl: ∀f,c= .mk f→ ∀call round rho tm,Loc (f call round rho tm)):OpS E o c ds:=by
 obtain⟨f,h1,h2,h3⟩:=h
 refine⟨f,h1,fun call round _ _=>hl f h1 call round, ?_⟩
 intro call round hc hro w0 w r U rho tm b t dfs cs base s out s' hs hu hr hx hb hf e ops i rest k ho hw
 cases out with
 |inr ch=>exact((h2 call round rho tm).no _ _ _ e).elim
 |inl v=>
  obtain⟨v',w',r',k1,k2,k3,k4,k5⟩:=h3 call round w0 w r U rho tm ⟨t,dfs⟩ s v s' hs hu hr e hf
  refine⟨w',r',dfs,cs,k2,by rw[k5];exact hx.mono k2.le,k4,v',k3, .one (step_lone_go ?_)⟩
  rw[stepG_frm ho hw (.inr hd),←frm_finish b t dfs ho]
  rcases k1 with k1|⟨k1,rfl⟩<;>simp[stepG.apply,k1]
theorem frm_raise (b:Frame)(t:Array Value)(d:List Deferred)(td:List Item)(ch:List PanicEntry):(frm b t d td).raise ch={frm b t d td with mode:= .panicking ch}:=rfl
section
variable {E:Env}{ds:List Nat}{o:Oper}
theorem VR.func_inv {r:Inj}{f:Fn}{a c:Array Value}{v':Value}(h:VR r (.func f a c) v'): ∃f' a' c',v'= .func f' a' c'∧FnR r f f'∧VRs r a.toList a'.toList∧VRs r c.toList c'.toList:=by
 cases h with
 |func h1 h2 h3 h4 h5=>exact⟨_,_,_,rfl,h1,VRs.ofArr h2 h3,VRs.ofArr h4 h5⟩
theorem resolve_value (ρ:Operand→Value){c:Call}{ty:TypeId}{x:Operand}{f:Fn}{a cap:Array Value}(hc:c.callee= .value x)(hx:ρ x= .func f a cap):
  resolve ρ c ty=pure {target:= .fn f cap,args:=a++c.args.map ρ}:=by
 unfold resolve
 simp only[hc,hx,Deferred.ofValue]
theorem op_call {x:Operand}{c:Call}(ho:o.op= .call c)(hc:c.callee= .value x):OpS E o (withC ds x c.args.toList) ds:=by
 obtain⟨g,h1,h2⟩:=compO_ok ds x
 obtain⟨g',h3,h4⟩:=compL_ok ds c.args.toList
 refine⟨fun call round rho tm=>M.on (g rho tm) fun f=>M.on (g' rho tm) fun l=>callV call round f l,by unfold withC;simp only[h1,h3], ?_, ?_⟩
 ·intro call round hc1 hc2 rho tm
  refine lo_on _ fun f=>lo_on _ fun l=> ?_
  unfold callV
  split
  ·exact hc1.loc _ _
  ·exact lo_chk _ (hc2.loc _ _)
  ·exact lo_fail
 ·intro call round hc1 hc2 w0 w r U rho tm b t dfs cs base s out s' hs hu hr hx hb hf e ops i rest k hoi hw
  have on': ∀{α β:Type} {y:Option α} {f:α→M β} {o:Out β} {s s':St},M.on y f s=rOf o s'→ ∃a,y=some a∧f a s=rOf o s':=by
   intro α β y f o s s' h
   cases y with
   |none=>exact(rOf_none h).elim
   |some a=>exact⟨a,rfl,h⟩
  obtain⟨fv,e1,e⟩:=on' e
  obtain⟨l,e2,e⟩:=on' e
  have hfv:=h2 _ _ _ _ ⟨t,dfs⟩ _ hs (fun t q=>hu t (by simp[ho,Op.operands,Call.operands,hc]at q ⊢;simp[q])) e1
  have hl:VRs r l (c.args.toList.map (Act.eval ⟨t,dfs⟩)):=h4 _ _ _ _ ⟨t,dfs⟩ _ hs (fun t q=>hu t (by simp[ho,Op.operands,Call.operands]at q ⊢;simp[q])) e2
  have hmap:c.args.map (Act.eval ⟨t,dfs⟩)=(c.args.toList.map (Act.eval ⟨t,dfs⟩)).toArray:=by rw[←List.map_toArray]
  have hd: ∀c,o.op≠ .defer c:=by rw[ho];intro c h;cases h
  unfold callV at e
  split at e
  ·rename_i f first cap _
   obtain⟨f',a',c',q1,q2,q3,q4⟩:=hfv.func_inv
   cases f' with
   |func f'=>
    simp only[FnR]at q2
    subst q2
    have e1:(a'++c.args.map (Act.eval ⟨t,dfs⟩)++c')=(a'.toList++(c.args.toList.map (Act.eval ⟨t,dfs⟩)++c'.toList)).toArray:=by
     rw[hmap];simp
    rcases hc1.ok e hr hb hf (args':=a'.toList++(c.args.toList.map (Act.eval ⟨t,dfs⟩)++c'.toList)) (q3.append (hl.append q4))with⟨k1,k2⟩|⟨_,v,v',w',r',rfl,g1,g2,g3,g4,g5⟩
    case inr=>
     have hrun:(execOp (Act.eval ⟨t,dfs⟩) o).run E.P w= .ok (.value v') w':=by
      simp only[execOp,ho,resolve_value _ hc q1]
      simp only[invoke,Sem.run_bind,Sem.run_pure,Result.andThen_ok,e1,g5]
     refine⟨w',r',dfs,cs,g2,by rw[g4];exact hx.mono g2.le,g3,v',g1, .one (step_lone_go ?_)⟩
     rw[stepG_frm hoi hw (.inr hd),←frm_finish b t dfs hoi]
     simp[stepG.apply,hrun]
    obtain⟨w',r',g1,g2,g3,g4⟩:=k2 (frm b t dfs (.inRegion ops (i::rest)::k)) cs
    have henter:step E.P (lone (frm b t dfs (.inRegion ops (i::rest)::k)) cs w)=
      .next (lone (Frame.enter E.P f (a'.toList++(c.args.toList.map (Act.eval ⟨t,dfs⟩)++c'.toList)).toArray .normal) (frm b t dfs (.inRegion ops (i::rest)::k)::cs) w):=by
     refine step_lone_go ?_
     rw[stepG_frm hoi hw (.inr hd)]
     have hrun:(execOp (Act.eval ⟨t,dfs⟩) o).run E.P w= .ok (.enter f (a'.toList++(c.args.toList.map (Act.eval ⟨t,dfs⟩)++c'.toList)).toArray) w:=by
      simp only[execOp,ho,resolve_value _ hc q1]
      simp only[invoke,Sem.run_bind,Sem.run_pure,Result.andThen_ok,e1,k1]
     simp[stepG.apply,hrun,frm]
    refine⟨w',r',dfs,cs,g1,by rw[g3];exact hx.mono g1.le,g2, ?_⟩
    unfold Ends at g4
    cases out with
    |inl v=>
     obtain⟨v',p1,p2⟩:=g4
     rw[frm_finish b t dfs hoi]at p2
     exact⟨v',p1, .head henter p2⟩
    |inr ch=>
     obtain⟨ch',p1,p2⟩:=g4
     exact⟨ch',_,p1, .head henter p2⟩
   |_=>simp only[FnR]at q2
  ·rename_i lp first cap _
   obtain⟨f',a',c',q1,q2,q3,q4⟩:=hfv.func_inv
   cases f' with
   |yield lp'=>
    obtain⟨dd,q2⟩:=q2
    cases hemp:first.isEmpty with
    |false=>rw[hemp]at e;exact(rOf_none e).elim
    |true=>
     rw[hemp]at e
     have e':round lp l s=rOf out s':=e
     have hfe:first= #[]:=by simpa using hemp
     subst hfe
     have ha':a'= #[]:=by have:=q3.1;simp at this;simpa using this.symm
     subst ha'
     obtain⟨fn,tmn,as,bd,k1,k2⟩:=hc2.ok e' hr hb hf hl q2
     obtain⟨w',r',g1,g2,g3,g4⟩:=k2 (frm b t dfs (.inRegion ops (i::rest)::k)) cs
     have henter:step E.P (lone (frm b t dfs (.inRegion ops (i::rest)::k)) cs w)=
       .next (lone (Frame.round lp' fn tmn as bd .normal) (frm b t dfs (.inRegion ops (i::rest)::k)::cs) w):=by
      refine step_lone_go ?_
      rw[stepG_frm hoi hw (.inr hd)]
      have hrun:(execOp (Act.eval ⟨t,dfs⟩) o).run E.P w= .ok (.round lp' fn tmn as bd) w:=by
       simp only[execOp,ho,resolve_value _ hc q1]
       have e1:(#[]++c.args.map (Act.eval ⟨t,dfs⟩))=(c.args.toList.map (Act.eval ⟨t,dfs⟩)).toArray:=by
        rw[hmap];simp
       simp only[invoke,Sem.run_bind,Sem.run_pure,Result.andThen_ok,e1,k1]
      simp[stepG.apply,hrun,frm]
     refine⟨w',r',dfs,cs,g1,by rw[g3];exact hx.mono g1.le,g2, ?_⟩
     unfold Ends at g4
     cases out with
     |inl v=>
      obtain⟨v',p1,p2⟩:=g4
      rw[frm_finish b t dfs hoi]at p2
      exact⟨v',p1, .head henter p2⟩
     |inr ch=>
      obtain⟨ch',p1,p2⟩:=g4
      exact⟨ch',_,p1, .head henter p2⟩
   |_=>simp only[FnR]at q2
  ·exact(rOf_none e).elim
/-! ### Methods of what stands behind an interface -/
theorem lo_fieldA (s:FieldStep)(a:Addr):Loc (fieldA E s a):=lo_bind (lo_ti _ _) fun _i=>lo_bind (lo_fldOf _ _ _) fun _p=>lo_chk _ (lo_bind (lo_ptrA _) fun _v=>lo_pure _)
theorem lo_fieldV (s:FieldStep)(cs:List Value):Loc (fieldV E s cs):=lo_bind (lo_ti _ _) fun _i=>lo_bind (lo_fldOf _ _ _) fun _p=>lo_bind (lo_partV _ _ _ _) fun _v=>lo_pure _
theorem lo_stepP (s:FieldStep)(v:Value)(b:Bool):Loc (stepP E s v b):=by
 unfold stepP
 split
 ·exact lo_bind (lo_asA _) fun a=>lo_bind (lo_fieldA _ _) fun p=>lo_pure _
 ·exact lo_bind (lo_asA _) fun a=>lo_bind (lo_fieldA _ _) fun p=>lo_pure _
 ·exact lo_bind (lo_asCs _) fun a=>lo_bind (lo_fieldV _ _) fun p=>lo_pure _
 ·exact lo_fail
theorem lo_walkP: ∀(l:List FieldStep) (t:Nat) (v:Value) (b:Bool),Loc (walkP E l t v b)
 |[],_,_,_=>lo_pure _
 |s::l,_,v,b=>lo_bind (lo_stepP s v b) fun _p=>lo_walkP l _ _ _
theorem lo_methodA (t:Nat)(v:Value)(name:String):Loc (methodA E t v name):=lo_on _ fun _m=>lo_on _ fun _fp=>lo_bind (lo_walkP _ _ _ _) fun _q=>lo_bind (lo_ti _ _) fun _i=>lo_chk _ (lo_pure _)
theorem np_fieldA (s:FieldStep)(a:Addr):NoPan (fieldA E s a):=np_bind (np_ti _ _) fun _i=>np_bind (np_fldOf _ _ _) fun _p=>np_chk _ (np_bind (np_ptrA _) fun _v=>np_pure _)
theorem np_fieldV (s:FieldStep)(cs:List Value):NoPan (fieldV E s cs):=np_bind (np_ti _ _) fun _i=>np_bind (np_fldOf _ _ _) fun _p=>np_bind (np_partV _ _ _ _) fun _v=>np_pure _
theorem np_stepP (s:FieldStep)(v:Value)(b:Bool):NoPan (stepP E s v b):=by
 unfold stepP
 split
 ·exact np_bind (np_asA _) fun a=>np_bind (np_fieldA _ _) fun p=>np_pure _
 ·exact np_bind (np_asA _) fun a=>np_bind (np_fieldA _ _) fun p=>np_pure _
 ·exact np_bind (np_asCs _) fun a=>np_bind (np_fieldV _ _) fun p=>np_pure _
 ·exact np_fail
theorem np_walkP: ∀(l:List FieldStep) (t:Nat) (v:Value) (b:Bool),NoPan (walkP E l t v b)
 |[],_,_,_=>np_pure _
 |s::l,_,v,b=>np_bind (np_stepP s v b) fun _p=>np_walkP l _ _ _
theorem np_methodA (t:Nat)(v:Value)(name:String):NoPan (methodA E t v name):=np_on _ fun _m=>np_on _ fun _fp=>np_bind (np_walkP _ _ _ _) fun _q=>np_bind (np_ti _ _) fun _i=>np_chk _ (np_pure _)
/-- A value,or a place told as its address. -/
def PlR (r:Inj)(b:Bool)(v:Value)(p:Place):Prop:=
 match b,p with
 |false, .val v'=>VR r v v'
 |true, .var a'=> ∃a,v= .pointer (some a)∧AR r a a'
 |_,_=>False
theorem fieldA_ok {w:World}{r:Inj}{s s':St}{st:FieldStep}{a a2:Addr}{p:Nat×Value}(he:EnvTy E)(h:fieldA E st a s= .some p s')(ha:AR r a a2):
  s=s'∧ ∃fs fd a3,(underlying st.struct).run E.P w= .ok (.struct fs) w∧fs[st.index]?=some fd∧p.1=fd.type∧(fieldPlace a2 fd).run E.P w= .ok a3 w∧PlR r true p.2 (.var a3):=by
 obtain⟨i,s1,h1,h2⟩:=bind_some h
 obtain⟨hi,rfl⟩:=ti_some h1 he
 obtain⟨q,s2,h5,h6⟩:=bind_some h2
 obtain⟨h7,h8⟩:=chk_some h6
 obtain⟨v,s3,h9,h10⟩:=bind_some h8
 obtain⟨rfl,rfl⟩:=ptrA_some h9
 obtain⟨rfl,rfl⟩:=pure_some h10
 obtain⟨rfl,fs,fd,fi,hu,hfd,hfi,rfl⟩:=fldOf_some he h5
 have hz:fi.size≠0:=by
  intro h0
  simp[h0]at h7
 refine⟨rfl,fs,fd,a2.add fd.offset,by rw[hi.run_und,hu],hfd,rfl, ?_,_,rfl,ha.add _⟩
 simp[fieldPlace,hfi.run_size,hz]
theorem fieldV_ok {w:World}{r:Inj}{s s':St}{st:FieldStep}{cs:List Value}{cs':Array Value}{p:Nat×Value}(he:EnvTy E)(h:fieldV E st cs s= .some p s')(hc:VRs r cs cs'.toList):
  s=s'∧ ∃fs fd v',(underlying st.struct).run E.P w= .ok (.struct fs) w∧fs[st.index]?=some fd∧p.1=fd.type∧(part fd.type cs' fd.offset).run E.P w= .ok v' w∧VR r p.2 v':=by
 obtain⟨i,s1,h1,h2⟩:=bind_some h
 obtain⟨hi,rfl⟩:=ti_some h1 he
 obtain⟨q,s2,h5,h6⟩:=bind_some h2
 obtain⟨v,s3,h9,h10⟩:=bind_some h6
 obtain⟨rfl,rfl⟩:=pure_some h10
 obtain⟨rfl,fs,fd,fi,hu,hfd,hfi,rfl⟩:=fldOf_some he h5
 obtain⟨rfl,v',g1,g2⟩:=partV_ok (w:=w) he h9 hc
 exact⟨rfl,fs,fd,v',by rw[hi.run_und,hu],hfd,rfl,g1,g2⟩
theorem stepP_ok {w:World}{r:Inj}{s s':St}{st:FieldStep}{v:Value}{b:Bool}{p:Nat×Value×Bool}(he:EnvTy E)(h:stepP E st v b s= .some p s'){pl:Place}(hp:PlR r b v pl)(t:Nat)(rest:List FieldStep):
  s=s'∧ ∃pl',(follow (st::rest) t pl).run E.P w=(follow rest p.1 pl').run E.P w∧PlR r p.2.2 p.2.1 pl':=by
 unfold stepP at h
 generalize e:st.deref=dr at h
 match dr,b,h,hp with
 |true,false,h,hp=>
  obtain⟨a,s1,h1,h2⟩:=bind_some h
  obtain⟨rfl,rfl⟩:=asA_some h1
  obtain⟨q,s2,h3,h4⟩:=bind_some h2
  obtain⟨rfl,rfl⟩:=pure_some h4
  cases pl with
  |var a'=>exact hp.elim
  |val v'=>
   obtain⟨a2,rfl,ha2⟩:=VR.ptr_inv hp
   obtain⟨rfl,fs,fd,a3,g1,g2,g3,g4,g5⟩:=fieldA_ok (w:=w) he h3 ha2
   refine⟨rfl, .var a3, ?_,g5⟩
   show(follow (st::rest) t _).run E.P w=(follow rest q.1 _).run E.P w
   rw[g3]
   simp[follow,g1,g2,e,Place.get,asAddr,g4]
 |false,true,h,hp=>
  obtain⟨a,s1,h1,h2⟩:=bind_some h
  obtain⟨rfl,rfl⟩:=asA_some h1
  obtain⟨q,s2,h3,h4⟩:=bind_some h2
  obtain⟨rfl,rfl⟩:=pure_some h4
  cases pl with
  |val v'=>exact hp.elim
  |var a2=>
   obtain⟨a',q1,ha2⟩:=hp
   cases q1
   obtain⟨rfl,fs,fd,a3,g1,g2,g3,g4,g5⟩:=fieldA_ok (w:=w) he h3 ha2
   refine⟨rfl, .var a3, ?_,g5⟩
   show(follow (st::rest) t _).run E.P w=(follow rest q.1 _).run E.P w
   rw[g3]
   simp[follow,g1,g2,e,g4]
 |false,false,h,hp=>
  obtain⟨cs,s1,h1,h2⟩:=bind_some h
  obtain⟨⟨c,rfl,rfl⟩,rfl⟩:=asCs_some h1
  obtain⟨q,s2,h3,h4⟩:=bind_some h2
  obtain⟨rfl,rfl⟩:=pure_some h4
  cases pl with
  |var a'=>exact hp.elim
  |val v'=>
   obtain⟨c',rfl,hc⟩:=VR.agg_inv hp
   obtain⟨rfl,fs,fd,v2,g1,g2,g3,g4,g5⟩:=fieldV_ok (w:=w) he h3 hc
   refine⟨rfl, .val v2, ?_,g5⟩
   show(follow (st::rest) t _).run E.P w=(follow rest q.1 _).run E.P w
   rw[g3]
   simp[follow,g1,g2,e,g4]
 |true,true,h,hp=>cases h
theorem walkP_ok {w:World}{r:Inj}(he:EnvTy E): ∀{l:List FieldStep} {t:Nat} {v:Value} {b:Bool} {pl:Place} {s s':St} {p:Nat×Value×Bool},walkP E l t v b s= .some p s'→PlR r b v pl→
  s=s'∧ ∃pl',(follow l t pl).run E.P w= .ok (p.1,pl') w∧PlR r p.2.2 p.2.1 pl'
 |[],t,v,b,pl,s,s',p,h,hp=>by
  obtain⟨rfl,rfl⟩:=pure_some (show M.pure (t,v,b) s= .some p s' from h)
  exact⟨rfl,pl,by simp[follow],hp⟩
 |st::l,t,v,b,pl,s,s',p,h,hp=>by
  obtain⟨q,s1,h1,h2⟩:=bind_some (show M.bind (stepP E st v b) (fun p=>walkP E l p.1 p.2.1 p.2.2) s= .some p s' from h)
  obtain⟨rfl,pl1,g1,g2⟩:=stepP_ok (w:=w) he h1 hp t l
  obtain⟨rfl,pl2,g3,g4⟩:=walkP_ok (w:=w) he h2 g2
  exact⟨rfl,pl2,by rw[g1,g3],g4⟩
theorem methodA_ok {w:World}{r:Inj}(he:EnvTy E){t n:Nat}{v v':Value}{name:String}{s s':St}{p:Nat×Value}(h:methodA E t v name s= .some p s')(hv:VR r v v'):
  s=s'∧ ∃x,(method (n+1) t v' name).run E.P w= .ok (p.1,x) w∧VR r p.2 x:=by
 obtain⟨m,h1,h⟩:=on_some h
 obtain⟨fp,h2,h⟩:=on_some h
 obtain⟨q,s1,h3,h⟩:=bind_some h
 obtain⟨i,s2,h4,h⟩:=bind_some h
 obtain⟨hi,rfl⟩:=ti_some h4 he
 obtain⟨h5,h6⟩:=chk_some h
 obtain⟨rfl,rfl⟩:=pure_some h6
 obtain⟨rfl,pl,g1,g2⟩:=walkP_ok (w:=w) (r:=r) he h3 (pl:= .val v') hv
 obtain⟨info,h7,h8⟩:=onO_some (show onO (E.P.info? t) (fun i=>i.methods.toList.find? fun m=>m.name==name)=some m from h1)
 have h9:info.methods.find? (fun m=>m.name==name)=some m:=by rw[←Array.find?_toList];exact h8
 obtain⟨f,pr⟩:=fp
 have key: ∃x,(∀wr,(receiverAt q.1 pl pr wr).run E.P w= .ok x w)∧VR r q.2.1 x:=by
  have hu:=hi.run_und (w:=w)
  generalize i.u=u at h5 hu
  obtain⟨q1,q2,q3⟩:=q
  simp only at h5 hu g2 ⊢
  unfold recvOk at h5
  split at h5
  ·rename_i e
   rw[Bool.and_eq_true,Bool.not_eq_true']at h5
   obtain⟨h5a,h6a⟩:=h5
   subst h5a
   subst h6a
   cases pl with
   |var a=>exact g2.elim
   |val x=>exact⟨x,fun wr=>by simp[receiverAt,hu,Place.get],g2⟩
  ·rename_i hne
   have h5':=eq_of_beq h5
   subst h5'
   have hne2: ∀e,u≠ .pointer e:=fun e he=>hne e he
   cases pr with
   |true=>
    cases pl with
    |val x=>exact g2.elim
    |var a=>
     obtain⟨a1,rfl,ha⟩:=g2
     refine⟨.pointer (some a), ?_,ha.ptr⟩
     intro wr
     cases u<;>first|exact absurd rfl (hne2 _)|simp[receiverAt,hu]
   |false=>
    cases pl with
    |var a=>exact g2.elim
    |val x=>
     refine⟨x, ?_,g2⟩
     intro wr
     cases u<;>first|exact absurd rfl (hne2 _)|simp[receiverAt,hu,Place.get]
 obtain⟨x,k1,k2⟩:=key
 refine⟨rfl,x, ?_,k2⟩
 have hti:(typeInfo t).run E.P w= .ok info w:=by simp[typeInfo,program,Sem.run,h7]
 simp[method,hti,h9,g1,h2,k1]
theorem op_invoke (he:EnvTy E){x:Operand}{name:String}{c:Call}(ho:o.op= .call c)(hc:c.callee= .invoke x name):OpS E o (withI E ds x name c.args.toList) ds:=by
 obtain⟨g,h1,h2⟩:=compO_ok ds x
 obtain⟨g',h3,h4⟩:=compL_ok ds c.args.toList
 refine⟨fun call round rho tm=>M.on (g rho tm) fun f=>M.on (g' rho tm) fun l=>callI E call name f l,by unfold withI;simp only[h1,h3], ?_, ?_⟩
 ·intro call round hc1 hc2 rho tm
  refine lo_on _ fun f=>lo_on _ fun l=> ?_
  unfold callI
  split
  ·exact lo_bind (lo_methodA _ _ _) fun p=>hc1.loc _ _
  ·exact lo_fail
 ·intro call round hc1 hc2 w0 w r U rho tm b t dfs cs base s out s' hs hu hr hx hb hf e ops i rest k hoi hw
  have on': ∀{α β:Type} {y:Option α} {f:α→M β} {o:Out β} {s s':St},M.on y f s=rOf o s'→ ∃a,y=some a∧f a s=rOf o s':=by
   intro α β y f o s s' h
   cases y with
   |none=>exact(rOf_none h).elim
   |some a=>exact⟨a,rfl,h⟩
  obtain⟨fv,e1,e⟩:=on' e
  obtain⟨l,e2,e⟩:=on' e
  have hfv:=h2 _ _ _ _ ⟨t,dfs⟩ _ hs (fun t q=>hu t (by simp[ho,Op.operands,Call.operands,hc]at q ⊢;simp[q])) e1
  have hl:VRs r l (c.args.toList.map (Act.eval ⟨t,dfs⟩)):=h4 _ _ _ _ ⟨t,dfs⟩ _ hs (fun t q=>hu t (by simp[ho,Op.operands,Call.operands]at q ⊢;simp[q])) e2
  have hmap:c.args.map (Act.eval ⟨t,dfs⟩)=(c.args.toList.map (Act.eval ⟨t,dfs⟩)).toArray:=by rw[←List.map_toArray]
  have hd: ∀c,o.op≠ .defer c:=by rw[ho];intro c h;cases h
  unfold callI at e
  split at e
  ·rename_i ty v _
   have hbind: ∃p s1,methodA E ty v name s= .some p s1∧call p.1 (p.2::l) s1=rOf out s':=by
    have e':(match methodA E ty v name s with| .none=>R.none| .some p s1=>call p.1 (p.2::l) s1| .pan c s1=> .pan c s1)=rOf out s':=by
     rw[←e]
     unfold M.bind
     cases methodA E ty v name s<;>rfl
    cases e3:methodA E ty v name s with
    |none=>rw[e3]at e';exact(rOf_none e').elim
    |some p s1=>rw[e3]at e';exact⟨p,s1,rfl,e'⟩
    |pan c s1=>exact((np_methodA _ _ _).no _ _ _ e3).elim
   obtain⟨p,s1,e3,e4⟩:=hbind
   have inv: ∀{z:Value},VR r (.iface ty v) z→ ∃v',z= .iface ty v'∧VR r v v':=by
    intro z hz
    cases hz with
    |iface h=>exact⟨_,rfl,h⟩
   obtain⟨v',hrecv,hv⟩:=inv hfv
   ·skip
    have hfuel: ∀z:Nat,z+Made.depth=(z+99)+1:=fun z=>rfl
    obtain⟨rfl,rv,m1,m2⟩:=methodA_ok (w:=w) (n:=E.P.types.size+99) he e3 hv
    have hm: ∀(args:Array Value),(callMethod (.iface ty v') name args).run E.P w=(callFunc p.1 (#[rv]++args)).run E.P w:=by
     intro args
     unfold callMethod
     simp only[Sem.run_bind,run_program,Result.andThen_ok]
     rw[hfuel,m1]
     simp only[Result.andThen_ok]
    have e1:(#[rv]++c.args.map (Act.eval ⟨t,dfs⟩))=(rv::c.args.toList.map (Act.eval ⟨t,dfs⟩)).toArray:=by
     rw[hmap];simp
    have hexec:(execOp (Act.eval ⟨t,dfs⟩) o).run E.P w=(callFunc p.1 (rv::c.args.toList.map (Act.eval ⟨t,dfs⟩)).toArray).run E.P w:=by
     rw[←e1,←hm]
     simp only[execOp,ho,resolve,hc,hrecv]
     have hz: ∀(y:Value) (l:Array Value),(#[y]++l)[0]?=some y:=fun y l=>(Array.getElem?_append_left (by simp)).trans rfl
     have hz2: ∀(y:Value) (l:Array Value),(#[y]++l).extract 1 (#[y]++l).size=l:=fun y l=>by
      simp[Array.extract_append]
     simp only[invoke,Sem.run_bind,Sem.run_pure,Result.andThen_ok,hz,hz2]
    rcases hc1.ok e4 hr hb hf (args':=rv::c.args.toList.map (Act.eval ⟨t,dfs⟩)) (.cons m2 hl)with⟨k1,k2⟩|⟨_,v,v',w',r',rfl,g1,g2,g3,g4,g5⟩
    case inr=>
     refine⟨w',r',dfs,cs,g2,by rw[g4];exact hx.mono g2.le,g3,v',g1, .one (step_lone_go ?_)⟩
     rw[stepG_frm hoi hw (.inr hd),←frm_finish b t dfs hoi]
     rw[g5]at hexec
     simp[stepG.apply,hexec]
    obtain⟨w',r',g1,g2,g3,g4⟩:=k2 (frm b t dfs (.inRegion ops (i::rest)::k)) cs
    have henter:step E.P (lone (frm b t dfs (.inRegion ops (i::rest)::k)) cs w)=
      .next (lone (Frame.enter E.P p.1 (rv::c.args.toList.map (Act.eval ⟨t,dfs⟩)).toArray .normal) (frm b t dfs (.inRegion ops (i::rest)::k)::cs) w):=by
     refine step_lone_go ?_
     rw[stepG_frm hoi hw (.inr hd)]
     rw[k1]at hexec
     simp[stepG.apply,hexec,frm]
    refine⟨w',r',dfs,cs,g1,by rw[g3];exact hx.mono g1.le,g2, ?_⟩
    unfold Ends at g4
    cases out with
    |inl v=>
     obtain⟨v',p1,p2⟩:=g4
     rw[frm_finish b t dfs hoi]at p2
     exact⟨v',p1, .head henter p2⟩
    |inr ch=>
     obtain⟨ch',p1,p2⟩:=g4
     exact⟨ch',_,p1, .head henter p2⟩
  ·exact(rOf_none e).elim
end
end Go.Proofs.YtapojfiplajfaaaGreatDoor.Am
/- Panics,recover,defer;every operation that the evaluator knows,put together. -/
namespace Go.Proofs.YtapojfiplajfaaaGreatDoor.Am
open Go.RowKit
section
variable {E:Env}{ds:List Nat}{o:Oper}
theorem lo_rec {α:Type}{g:Option α}{f:α→M Value}(h: ∀a,Loc (f a)):Loc (fun s=>Option.rec (motive:=fun _=>R Value) .none (fun a=>f a s) g):=by
 cases g with
 |none=>exact lo_none
 |some a=>exact h a
theorem optRec_rOf {α:Type}{x:Option α}{f:α→St→R Value}{s s':St}{out:Out Value}(h:Option.rec (motive:=fun _=>R Value) .none (fun a=>f a s) x=rOf out s'): ∃a,x=some a∧f a s=rOf out s':=by
 cases x with
 |none=>exact(rOf_none h).elim
 |some a=>exact⟨a,rfl,h⟩
theorem chk_rOf {α:Type}{b:Bool}{m:M α}{o:Out α}{s s':St}(h:M.chk b m s=rOf o s'):b=true∧m s=rOf o s':=by
 cases b with
 |false=>exact(rOf_none h).elim
 |true=>exact⟨rfl,h⟩
theorem on_rOf {α β:Type}{y:Option α}{f:α→M β}{o:Out β}{s s':St}(h:M.on y f s=rOf o s'): ∃a,y=some a∧f a s=rOf o s':=by
 cases y with
 |none=>exact(rOf_none h).elim
 |some a=>exact⟨a,rfl,h⟩
theorem bind_rOf {α β:Type}{m:M α}{f:α→M β}{o:Out β}{s s':St}(h:M.bind m f s=rOf o s'):(∃a s1,m s= .some a s1∧f a s1=rOf o s')∨ ∃c,m s= .pan c s'∧o= .inr c:=by
 unfold M.bind at h
 cases e:m s with
 |none=>rw[e]at h;exact(rOf_none h).elim
 |some a s1=>rw[e]at h;exact .inl ⟨a,s1,rfl,h⟩
 |pan c s1=>
  rw[e]at h
  obtain⟨rfl,rfl⟩:=rOf_inr h
  exact .inr ⟨c,rfl,rfl⟩
theorem getCx_bind {β:Type}{f:Ctx→M β}{s:St}:M.bind getCx f s=f s.cx s:=rfl
theorem putCx_bind {β:Type}{x:Ctx}{f:Unit→M β}{s:St}:M.bind (putCx x) f s=f () ⟨s.mem,s.next,s.lim,s.rd,s.wr,x⟩:=rfl
theorem op_panic {x:Operand}(ho:o.op= .panic x):OpS E o (with1 ds x kPanic) ds:=by
 obtain⟨g,h1,h2⟩:=compO_ok ds x
 refine⟨_,by unfold with1;rw[h1],fun call round _ _ rho tm=>lo_rec fun a=> ?_, ?_⟩
 ·cases a<;>first|exact lo_throw _|exact lo_fail
 ·intro call round hc1 hc2 w0 w r U rho tm b t dfs cs base s out s' hs hu hr hx hb hf e ops i rest k hoi hw
  obtain⟨v,e1,e⟩:=optRec_rOf e
  have hv:VR r v (Act.eval ⟨t,dfs⟩ x):=h2 _ _ _ _ ⟨t,dfs⟩ _ hs (fun t q=>hu t (by simp[ho,Op.operands]at q ⊢;simp[q])) e1
  have hd: ∀c,o.op≠ .defer c:=by rw[ho];intro c h;cases h
  cases v with
  |iface ty y=>
   obtain⟨rfl,rfl⟩:=rOf_inr (show R.pan [{v:= .iface ty y,recovered:=false}] s=rOf out s' from e)
   cases hv':Act.eval ⟨t,dfs⟩ x with
   |iface ty' y'=>
    rw[hv']at hv
    refine⟨w,r,dfs,cs, .of_rel rfl hr,hx,rfl,[{v:= .iface ty' y',recovered:=false}], .inRegion ops (i::rest)::k, .cons hv rfl rfl .nil, .one (step_lone_go ?_)⟩
    rw[stepG_frm hoi hw (.inr hd)]
    simp only[execOp,ho,hv']
    rw[←frm_raise]
    simp[stepG.apply,Instr.panic,goPanic,Sem.run]
   |_=>rw[hv']at hv;cases hv
  |_=>exact(rOf_none e).elim
theorem op_recover {c:Call}(ho:o.op= .call c)(hc:c.callee= .builtin .recover):OpS E o (.mk fun _ _ _ _=>kRecover) ds:=by
 refine⟨_,rfl,fun _ _ _ _ _ _=>lo_kRecover, ?_⟩
 intro call round hc1 hc2 w0 w r U rho tm b t dfs cs base s out s' hs hu hr hx hb hf e ops i rest k hoi hw
 have hd: ∀c,o.op≠ .defer c:=by rw[ho];intro c h;cases h
 have hrun:(execOp (Act.eval ⟨t,dfs⟩) o).run E.P w= .ok .recover w:=by
  simp[execOp,ho,resolve,hc,invoke,builtin]
 have key: ∀{v v':Value} {cs':List Frame},b.roundOf=none→((tryRecover (frm b t dfs (.inRegion ops (i::rest)::k)) cs=some (v',cs'))∨(tryRecover (frm b t dfs (.inRegion ops (i::rest)::k)) cs=none∧v'= .nilIface∧cs'=cs))→
   step E.P (lone (frm b t dfs (.inRegion ops (i::rest)::k)) cs w)= .next (lone (frm b (putT t o.dst v') dfs (.inRegion ops rest::k)) cs' w):=by
  intro v v' cs' hro htr
  refine step_lone_go ?_
  rw[stepG_frm hoi hw (.inr hd),←frm_finish b t dfs hoi]
  have hro':(frm b t dfs (.inRegion ops (i::rest)::k)).roundOf=none:=hro
  rcases htr with htr|⟨htr,rfl,rfl⟩<;>simp[stepG.apply,hrun,hro',htr]
 unfold kRecover at e
 rw[getCx_bind]at e
 have fin:(∃m d,s.cx= .cx (some m) (some d))∨(∃d,s.cx= .cx none (some d)):=by
  cases hcx:s.cx with
  |no=>rw[hcx]at e;exact(rOf_none e).elim
  |cx up d=>
   cases d with
   |none=>rw[hcx]at e;cases up<;>exact(rOf_none e).elim
   |some d=>cases up with
    |none=>exact .inr ⟨d,rfl⟩
    |some m=>exact .inl ⟨m,d,rfl⟩
 rcases fin with⟨m,d,hcx⟩|⟨d,hcx⟩
 ·rw[hcx]at hx e
  unfold CxR at hx
  obtain⟨⟨q1,c0,rest0,m',q2,q3,q4⟩,q5,q6⟩:=hx
  have htry:=tryRecover_deferred (fr:=frm b t dfs (.inRegion ops (i::rest)::k)) q1 cs
  cases hrm:recM m with
  |none=>
   replace e:Option.rec (motive:=fun _=>M Value) (M.pure .nilIface) (fun p=>M.bind (putCx (.cx (some p.2) (some d))) fun _=>M.pure p.1) (recM m) s=rOf out s':=e
   rw[hrm]at e
   obtain⟨rfl,rfl⟩:=rOf_inl (show R.some .nilIface s=rOf out s' from e)
   refine⟨w,r,dfs,cs, .of_rel rfl hr, ?_,rfl, .nilIface, .nilIface, .one (key (v:= .nilIface) q5 (.inr ⟨?_,rfl,rfl⟩))⟩
   ·rw[hcx];exact⟨⟨q1,c0,rest0,m',q2,q3,q4⟩,q5,q6⟩
   ·rw[htry,q3]
    cases q4 with
    |run=>rfl
    |ret=>rfl
    |pan hch=>
     cases hch with
     |nil=>rfl
     | @cons e0 e1 l0 l1 p1 p2 p3 p4=>
      obtain⟨ev,er,eg⟩:=e0
      obtain⟨ev',er',eg'⟩:=e1
      simp only at p1 p2 p3
      subst p2
      subst p3
      cases er'<;>cases eg'<;>first|rfl|(simp[recM]at hrm)
  |some p=>
   replace e:Option.rec (motive:=fun _=>M Value) (M.pure .nilIface) (fun p=>M.bind (putCx (.cx (some p.2) (some d))) fun _=>M.pure p.1) (recM m) s=rOf out s':=e
   rw[hrm]at e
   obtain⟨pv,pm⟩:=p
   obtain⟨rfl,rfl⟩:=rOf_inl (show R.some pv ⟨s.mem,s.next,s.lim,s.rd,s.wr, .cx (some pm) (some d)⟩=rOf out s' from e)
   unfold recM at hrm
   split at hrm
   ·rename_i v older
    simp only[Option.some.injEq,Prod.mk.injEq]at hrm
    obtain⟨rfl,rfl⟩:=hrm
    cases q4 with
    |pan hch=>
     cases hch with
     | @cons _ e1 _ l1 p1 p2 p3 p4=>
      obtain⟨ev,er,eg⟩:=e1
      simp only at p1 p2 p3
      subst p2
      subst p3
      refine⟨w,r,dfs,{c0 with mode:= .panicking ({v:=ev,recovered:=true}::l1)}::rest0, .of_rel rfl hr, ?_,rfl,ev,p1, .one (key (v:=v) q5 (.inl ?_))⟩
      ·exact⟨⟨q1,c0,rest0,_,q2,rfl, .pan (.cons p1 rfl rfl p4)⟩,q5,q6⟩
      ·rw[htry,q3];rfl
   ·cases hrm
 ·rw[hcx]at hx e
  unfold CxR at hx
  obtain⟨⟨q1,q2⟩,q5,q6⟩:=hx
  obtain⟨rfl,rfl⟩:=rOf_inl (show R.some .nilIface s=rOf out s' from e)
  refine⟨w,r,dfs,cs, .of_rel rfl hr, ?_,rfl, .nilIface, .nilIface, .one (key (v:= .nilIface) q5 (.inr ⟨?_,rfl,rfl⟩))⟩
  ·rw[hcx];exact⟨⟨q1,q2⟩,q5,q6⟩
  ·have hk:(frm b t dfs (.inRegion ops (i::rest)::k)).kind= .normal:=q1
   unfold tryRecover
   rw[hk]
theorem op_defer {x:Operand}{c:Call}(ho:o.op= .defer c)(hc:c.callee= .value x):OpS E o (compDefer ds c) ds:=by
 obtain⟨g,h1,h2⟩:=compO_ok ds x
 obtain⟨g',h3,h4⟩:=compL_ok ds c.args.toList
 refine⟨fun call round rho tm=>M.on (g rho tm) fun f=>M.on (g' rho tm) fun l=>kDefer f l,by unfold compDefer;simp only[hc,h1,h3], ?_, ?_⟩
 ·intro call round _ _ rho tm
  exact lo_on _ fun f=>lo_on _ fun l=>lo_kDefer _ _
 ·intro call round hc1 hc2 w0 w r U rho tm b t dfs cs base s out s' hs hu hr hx hb hf e ops i rest k hoi hw
  obtain⟨fv,e1,e⟩:=on_rOf e
  obtain⟨l,e2,e⟩:=on_rOf e
  have hfv:=h2 _ _ _ _ ⟨t,dfs⟩ _ hs (fun t q=>hu t (by simp[ho,Op.operands,Call.operands,hc]at q ⊢;simp[q])) e1
  have hl:VRs r l (c.args.toList.map (Act.eval ⟨t,dfs⟩)):=h4 _ _ _ _ ⟨t,dfs⟩ _ hs (fun t q=>hu t (by simp[ho,Op.operands,Call.operands]at q ⊢;simp[q])) e2
  have hmap:c.args.map (Act.eval ⟨t,dfs⟩)=(c.args.toList.map (Act.eval ⟨t,dfs⟩)).toArray:=by rw[←List.map_toArray]
  unfold kDefer at e
  rw[getCx_bind]at e
  have fin: ∃up d fn first cap,s.cx= .cx up (some d)∧fv= .func fn first cap:=by
   cases hcx:s.cx with
   |no=>rw[hcx]at e;cases fv<;>exact(rOf_none e).elim
   |cx up d=>
    cases d with
    |none=>rw[hcx]at e;cases fv<;>exact(rOf_none e).elim
    |some d=>cases fv with
     |func fn first cap=>exact⟨up,d,fn,first,cap,rfl,rfl⟩
     |_=>rw[hcx]at e;exact(rOf_none e).elim
  obtain⟨up,d,fn,first,cap,hcx,rfl⟩:=fin
  ·rw[hcx]at e
   obtain⟨f',a',c',q1,q2,q3,q4⟩:=hfv.func_inv
   obtain⟨rfl,rfl⟩:=rOf_inl (show R.some undef ⟨s.mem,s.next,s.lim,s.rd,s.wr, .cx up (some ({target:= .fn fn cap,args:=first++l.toArray}::d))⟩=rOf out s' from e)
   rw[hcx]at hx
   unfold CxR at hx
   obtain⟨p1,p2,p3⟩:=hx
   refine⟨w,r,{target:= .fn f' c',args:=a'++c.args.map (Act.eval ⟨t,dfs⟩)}::dfs,cs, .of_rel rfl hr,⟨p1,p2, .cons (.fn q2 q4 ?_) p3⟩,rfl,undef, .undef, .one (step_lone_go ?_)⟩
   ·rw[hmap];simpa using q3.append hl
   ·rw[stepG_frm hoi hw (.inl p2)]
    simp only[execOp,ho,resolve_value _ hc q1]
    rw[←frm_finish b t _ hoi]
    simp[stepG.apply,frm]
/-! ### All of them -/
theorem lo_int2 {k:Int→Int→St→R Value}{slow:Value→Value→M Value}(hk: ∀a b,Loc (k a b))(hs: ∀x y,Loc (slow x y))(x y:Value):Loc (int2 k slow x y):=by
 unfold int2 caseI
 cases x
 case int k1 a=>
  cases y
  case int k2 b=>
   cases h1:isI64 k1 with
   |false=>simp only[h1];exact hs _ _
   |true=>
    cases h2:isI64 k2 with
    |false=>simp only[h1,h2];exact hs _ _
    |true=>simp only[h1,h2];exact hk a b
  all_goals exact hs _ _
 all_goals exact hs _ _
theorem lo_int3 {k:FastT}{slow:Value→Value→M Value}(hs: ∀x y,Loc (slow x y))(x y:Value):Loc (int3 k slow x y):=by
 unfold int3 caseI
 cases x
 case int k1 a=>
  cases y
  case int k2 b=>
   cases a with
   |negSucc m=>exact hs _ _
   |ofNat m=>
    cases b with
    |negSucc n=>exact hs _ _
    |ofNat n=>
     simp only
     cases k k1 k2 m n with
     |none=>exact hs _ _
     |some u=>exact lo_pure _
  all_goals exact hs _ _
 all_goals exact hs _ _
theorem lo_aBin {op:BinOp}{t:Nat}{x y:Operand}{f:Value→Value→M Value}(h:aBin E op t x y= .mk f): ∀a b,Loc (f a b):=by
 have slow: ∀op a b,Loc (binSlow E op t x y a b):=fun op a b=>lo_binSlow _ _ _ _ _ _ _
 have rI': ∀n,Loc (rI n):=fun n=>by
  have:rI n=(M.pure (.int .i64 (wrap64 n)):M Value):=by funext s;unfold rI;rw[fI_eq];rfl
  rw[this];exact lo_pure _
 have rB': ∀b,Loc (rB b):=fun b=>by cases b<;>exact lo_pure _
 intro a b
 cases op<;>cases h<;>first|exact slow _ _ _|exact lo_int3 (slow _) _ _|exact lo_int2 (fun a b=>rI' _) (lo_int3 (slow _)) _ _|exact lo_int2 (fun a b=>rB' _) (lo_int3 (slow _)) _ _
theorem lo_with0 {x:Operand}: ∀f,with0 ds x= .mk f→ ∀call round rho tm,Loc (f call round rho tm):=by
 obtain⟨g,h1,_⟩:=compO_ok ds x
 intro f h
 unfold with0 at h
 rw[h1]at h
 cases h
 exact fun _ _ _ _=>lo_rec (f:=fun a=>M.pure a) fun a=>lo_pure a
theorem lo_with1 {x:Operand}{k:Value→M Value}(hk: ∀a,Loc (k a)): ∀f,with1 ds x k= .mk f→ ∀call round rho tm,Loc (f call round rho tm):=by
 obtain⟨g,h1,_⟩:=compO_ok ds x
 intro f h
 unfold with1 at h
 rw[h1]at h
 cases h
 exact fun _ _ _ _=>lo_rec hk
theorem lo_with2 {x y:Operand}{k:Value→Value→M Value}(hk: ∀a b,Loc (k a b)): ∀f,with2 ds x y k= .mk f→ ∀call round rho tm,Loc (f call round rho tm):=by
 obtain⟨g,h1,_⟩:=compO_ok ds x
 obtain⟨g',h2,_⟩:=compO_ok ds y
 intro f h
 unfold with2 at h
 rw[h1,h2]at h
 cases h
 exact fun _ _ rho tm=>lo_rec (f:=fun a s=>Option.rec (motive:=fun _=>R Value) .none (fun b=>k a b s) (g' rho tm)) fun a=>lo_rec (hk a)
theorem lo_withL {l:List Operand}{k:List Value→M Value}(hk: ∀a,Loc (k a)): ∀f,withL ds l k= .mk f→ ∀call round rho tm,Loc (f call round rho tm):=by
 obtain⟨g,h1,_⟩:=compL_ok ds l
 intro f h
 unfold withL at h
 rw[h1]at h
 cases h
 exact fun _ _ _ _=>lo_rec hk
theorem lo_withLL {l l':List Operand}{k:List Value→List Value→M Value}(hk: ∀a b,Loc (k a b)): ∀f,withLL ds l l' k= .mk f→ ∀call round rho tm,Loc (f call round rho tm):=by
 obtain⟨g,h1,_⟩:=compL_ok ds l
 obtain⟨g',h2,_⟩:=compL_ok ds l'
 intro f h
 unfold withLL at h
 rw[h1,h2]at h
 cases h
 exact fun _ _ rho tm=>lo_rec (f:=fun a s=>Option.rec (motive:=fun _=>R Value) .none (fun b=>k a b s) (g' rho tm)) fun a=>lo_rec (hk a)
theorem lo_withP {l:List (Nat×Operand)}{k:List (Nat×Value)→M Value}(hk: ∀a,Loc (k a)): ∀f,withP ds l k= .mk f→ ∀call round rho tm,Loc (f call round rho tm):=by
 obtain⟨g,h1,_⟩:=compP_ok ds l
 intro f h
 unfold withP at h
 rw[h1]at h
 cases h
 exact fun _ _ _ _=>lo_rec hk
theorem lo_with3 {x y z:Operand}{k:Value→Value→Value→M Value}(hk: ∀a b c,Loc (k a b c)): ∀f,with3 ds x y z k= .mk f→ ∀call round rho tm,Loc (f call round rho tm):=by
 obtain⟨g,h1,_⟩:=compO_ok ds x
 obtain⟨g',h2,_⟩:=compO_ok ds y
 obtain⟨g2,h3,_⟩:=compO_ok ds z
 intro f h
 unfold with3 at h
 rw[h1,h2,h3]at h
 cases h
 exact fun _ _ rho tm=>lo_on _ fun a=>lo_on _ fun b=>lo_on _ fun c=>hk a b c
theorem lo_compSl {t:Nat}{x:Operand}{lo hi mx:Option Operand}: ∀f,compSl E ds t x lo hi mx= .mk f→ ∀call round rho tm,Loc (f call round rho tm):=by
 cases mx with
 |some m=>intro f h;cases h;exact fun _ _ _ _=>lo_fail
 |none=>
  obtain⟨g,h1,_⟩:=compO_ok ds x
  obtain⟨g',h2,_⟩:=compM_ok ds lo
  obtain⟨g2,h3,_⟩:=compM_ok ds hi
  intro f h
  unfold compSl withS at h
  simp only[h1,h2,h3]at h
  cases h
  exact fun _ _ rho tm=>lo_on _ fun a=>lo_on _ fun b=>lo_on _ fun c=>lo_aSlice _ _ _ _ _
theorem op_failC:OpS E o failC ds:=⟨_,rfl,fun _ _ _ _ _ _=>lo_fail,fun _call _round _ _ _w0 _w _r _U _rho _tm _b _t _dfs _cs _base _s _out _s' _hs _hu _hr _hx _hb _hf e=>(rOf_none e).elim⟩
theorem compOp_ok (he:EnvTy E)(o:Oper)(ds:List Nat):OpS E o (compOp E ds o.op) ds:=by
 have nd: ∀{p:Op},o.op=p→(∀c,p≠ .defer c)→ ∀c,o.op≠ .defer c:=fun h k c=>by rw[h];exact k c
 generalize hop:o.op=op
 unfold compOp
 split
 ·exact .ofV (op_move hop) (nd hop (by intro c h;cases h)) lo_with0
 ·exact .ofV (op_assign hop) (nd hop (by intro c h;cases h)) lo_with0
 ·exact .ofV (op_pick hop) (nd hop (by intro c h;cases h)) (lo_with3 lo_kPick)
 ·exact .ofV (op_alloc hop he) (nd hop (by intro c h;cases h)) (by intro f h;cases h;exact fun _ _ _ _=>lo_kAlloc _ _)
 ·exact .ofV (op_box hop) (nd hop (by intro c h;cases h)) (lo_with1 lo_kBox)
 ·exact .ofV (op_build hop he) (nd hop (by intro c h;cases h)) (lo_withP fun a=>lo_aBuild _ _ _)
 ·exact .ofV (op_buildSlice hop he) (nd hop (by intro c h;cases h)) (lo_withP fun a=>lo_aBuildS _ _ _ _)
 ·exact .ofV (op_load hop he) (nd hop (by intro c h;cases h)) (lo_with1 fun a=>lo_kLoad _ _ _)
 ·exact .ofV (op_store hop he) (nd hop (by intro c h;cases h)) (lo_with2 fun a b=>lo_kStore _ _ _ _)
 ·exact .ofV (op_nil hop) (nd hop (by intro c h;cases h)) (lo_with1 lo_kNil)
 ·refine .ofV (op_bin hop he) (nd hop (by intro c h;cases h)) ?_
  rename_i op t x y yt
  generalize hc:aBin E op t x y=c
  obtain⟨f⟩:=c
  exact lo_with2 (lo_aBin hc)
 ·exact .ofV (op_un hop) (nd hop (by intro c h;cases h)) (lo_with1 fun a=>lo_kUn _ _ _)
 ·exact .ofV (op_conv hop he) (nd hop (by intro c h;cases h)) (lo_with1 fun a=>lo_kConvB _ _ _ _)
 ·exact .ofV (op_slArr hop he) (nd hop (by intro c h;cases h)) (lo_with1 fun a=>lo_kSlArr _ _ _)
 ·exact .ofV (op_iface hop he) (nd hop (by intro c h;cases h)) (lo_with1 fun a=>lo_kIface _ _ _)
 ·exact .ofV (op_makeFunc hop) (nd hop (by intro c h;cases h)) (lo_withLL fun a b=>lo_pure _)
 ·exact .ofV (op_makeSlice hop he) (nd hop (by intro c h;cases h)) (lo_with2 fun a b=>lo_kMkSl _ _ _ _)
 ·exact .ofV (op_slice hop he) (nd hop (by intro c h;cases h)) lo_compSl
 ·exact .ofV (op_fieldAddr hop he) (nd hop (by intro c h;cases h)) (lo_with1 fun a=>lo_kFld _ _ _ _)
 ·exact .ofV (op_field hop he) (nd hop (by intro c h;cases h)) (lo_with1 fun a=>lo_kField _ _ _ _)
 ·exact .ofV (op_indexAddr hop he) (nd hop (by intro c h;cases h)) (lo_with2 fun a b=>lo_kIdxA _ _ _ _)
 ·exact .ofV (op_index hop he) (nd hop (by intro c h;cases h)) (lo_with2 fun a b=>lo_kIdx _ _ _ _)
 ·exact .ofV (op_extract hop) (nd hop (by intro c h;cases h)) (lo_with1 fun a=>lo_kExt _ _)
 ·rename_i c
  cases hc:c.callee with
  |value f=>unfold compCall;simp only[hc];exact op_call hop hc
  |invoke a b=>unfold compCall;simp only[hc];exact op_invoke he hop hc
  |builtin bi=>
   by_cases hbr:bi= .recover
   ·subst hbr;unfold compCall;simp only[hc];exact op_recover hop hc
   ·have:compCall E ds c=withL ds c.args.toList (aBuiltin E bi c.argTypes.toList):=by
     unfold compCall
     rw[hc]
     cases bi<;>first|rfl|exact absurd rfl hbr
    rw[this]
    exact .ofV (op_builtin hop hc hbr he) (nd hop (by intro c h;cases h)) (lo_withL fun a=>lo_aBuiltin _ _ _ _)
 ·exact op_panic hop
 ·rename_i c
  cases hc:c.callee with
  |value f=>exact op_defer hop hc
  |_=>unfold compDefer;simp only[hc];exact op_failC
 ·exact .ofV (op_assert hop he) (nd hop (by intro c h;cases h)) (lo_with1 fun a=>lo_kAssert _ _ _ _)
 ·exact .ofV (op_range hop he) (nd hop (by intro c h;cases h)) (lo_with1 fun a=>lo_kRange _ _ _)
 ·exact .ofV (op_next hop) (nd hop (by intro c h;cases h)) (lo_with1 fun a=>lo_kNext _)
 ·exact .ofV (op_nextM hop) (nd hop (by intro c h;cases h)) (lo_with1 fun a=>lo_kNextM _)
 ·exact .ofV (op_entry hop) (nd hop (by intro c h;cases h)) (lo_with1 fun a=>lo_kEntry _)
 ·exact .ofV (op_mkMap hop) (nd hop (by intro c h;cases h)) (by intro f h;cases h;exact fun _ _ _ _=>lo_kMkMap)
 ·exact .ofV (op_mkMapR hop he) (nd hop (by intro c h;cases h)) (lo_with1 fun a=>lo_kMkMapR _ _ _)
 ·exact .ofV (op_lookup hop he) (nd hop (by intro c h;cases h)) (lo_with2 fun a b=>lo_kLook _ _ _ _ _)
 ·exact .ofV (op_mapUp hop he) (nd hop (by intro c h;cases h)) (lo_with3 fun a b c=>lo_kMapUp _ _ _ _ _)
 ·exact .ofV (op_insert hop he) (nd hop (by intro c h;cases h)) (lo_with3 fun a b c=>lo_kMapUp _ _ _ _ _)
 ·exact .ofV (op_mapEnt hop he) (nd hop (by intro c h;cases h)) (lo_with2 fun a b=>lo_kMapEnt _ _ _ _)
 ·exact .ofV (op_entSt hop) (nd hop (by intro c h;cases h)) (lo_with3 fun a b c=>lo_kEntSt _ _ _)
 ·exact op_failC
end
end Go.Proofs.YtapojfiplajfaaaGreatDoor.Am
/- A region in the order of the text. -/
namespace Go.Proofs.YtapojfiplajfaaaGreatDoor.Am
open Go.RowKit
section
variable {E:Env}{glob n:Nat}{ops:Array Oper}
theorem compOps_cons {all:List Oper}{o:Oper}{l:List Oper}{ds:List Nat}{cs:List COp}(h:compOps E glob n all (o::l) ds=some cs):
  ∃g f r,cs=⟨g,o.dst,keepD o.dst glob,f⟩::r∧compG all ds o.guard=some g∧newD o.dst n ds=true∧compOp E ds o.op= .mk f∧compOps E glob n all l (consD o.dst ds)=some r:=by
 have h0:compOps E glob n all (o::l) ds=onO (compG all ds o.guard) fun g=>Bool.rec (motive:=fun _=>Option (List COp)) none (onO (compOps E glob n all l (consD o.dst ds)) fun r=>
   Cl.rec (motive:=fun _=>Option (List COp)) (fun f=>Bool.rec (motive:=fun _=>Option (List COp)) (some (⟨g,o.dst,false,f⟩::r)) (some (⟨g,o.dst,true,f⟩::r)) (keepD o.dst glob)) (compOp E ds o.op)) (newD o.dst n ds):=rfl
 rw[h0]at h
 obtain⟨g,h1,h⟩:=onO_some h
 cases h2:newD o.dst n ds with
 |false=>rw[h2]at h;cases h
 |true=>
  rw[h2]at h
  obtain⟨r,h3,h⟩:=onO_some h
  cases h4:compOp E ds o.op with
  |mk f=>
   rw[h4]at h
   cases h5:keepD o.dst glob with
   |false=>rw[h5]at h;cases h;exact⟨g,f,r,rfl,h1,rfl,rfl,h3⟩
   |true=>rw[h5]at h;cases h;exact⟨g,f,r,rfl,h1,rfl,rfl,h3⟩
theorem compG_some {all:List Oper}{ds:List Nat}{gd:Option (Nat×Bool)}{g:Option (Nat×Bool)}(h:compG all ds gd=some g):
  (gd=none∧g=none)∨ ∃j want q d p,gd=some (j,want)∧all[j]?=some q∧q.dst=some d∧g=some (p,want)∧ds[p]?=some d:=by
 unfold compG at h
 split at h
 ·cases h;exact .inl ⟨rfl,rfl⟩
 ·split at h
  ·split at h
   ·split at h
    ·cases h
     exact .inr ⟨_,_,_,_,_,rfl,by assumption,by assumption,rfl,whereT_some (by assumption)⟩
    ·cases h
   ·cases h
  ·cases h
theorem nthV_eq: ∀(n:Nat) (l:Rho),nthV n l=l[n]?
 |0,l=>nth0_eq l
 |_n+1,[]=>rfl
 |n+1,_v::l=>nthV_eq n l
theorem isB_wanted {r:Inj}{v v':Value}{want:Bool}(h:VR r v v')(hk:isK v=true):((match v' with| .bool b=>some b|_=>none)==some want)=isB v want:=by
 cases h<;>first|rfl|(rename_i b;cases b<;>cases want<;>rfl)|exact absurd hk (by simp[isK])
theorem lo_wantG {g:Option (Nat×Bool)}{rho:Rho}{x:M Value}(h:Loc x):Loc (wantG g rho x):=by
 cases g with
 |none=>exact h
 |some p=>exact lo_on _ fun v=>lo_chk _ (lo_if _ h (lo_pure _))
/-- An operation with its guard. -/
def OpG (E:Env)(ops:Array Oper)(i:Nat)(o:Oper)(ds:List Nat)(c:COp):Prop:=
 (∀call round,CallOK E call→RoundOK E round→ ∀rho tm,Loc (wantG c.guard rho (c.run call round rho tm)))∧
  ∀call round,CallOK E call→RoundOK E round→ ∀(w0 w:World) (r:Inj) (U:Nat→Prop) rho tm (b:Frame) (t:Array Value) (dfs:List Deferred) (cs:List Frame) (base:List Deferred×List Frame) (s:St) (out:Out Value) (s':St),
   SlR r U ds rho tm t→(∀t,t∈looksL ops.toList o→U t)→rho.length=ds.length→Rel w0 r s.mem w→CxR r base s.cx b dfs cs→Bnd s→Fresh r s.next s'.next→wantG c.guard rho (c.run call round rho tm) s=rOf out s'→
   ∀rest k,∃w' r' dfs' cs',Goes w0 r s s' r' w'∧CxR r' base s'.cx b dfs' cs'∧s'.lim=s.lim∧
    OpEnds E.P r' out (lone (frm b t dfs (.inRegion ops (i::rest)::k)) cs w) b t dfs' ops o rest k cs' w'
theorem mem_looks_op {all:List Oper}{o:Oper}{t:Nat}(h:Operand.tmp t∈o.op.operands.toList):t∈looksL all o:=by
 unfold looksL
 apply List.mem_append_right
 exact List.mem_filterMap.2 ⟨_,h,rfl⟩
theorem mem_looks_guard {all:List Oper}{o q:Oper}{j d:Nat}{want:Bool}(h:o.guard=some (j,want))(h1:all[j]?=some q)(h2:q.dst=some d):d∈looksL all o:=by
 unfold looksL
 apply List.mem_append_left
 simp[h,h1,h2]
theorem opG_ok (he:EnvTy E){i:Nat}{o:Oper}{ds:List Nat}{g:Option (Nat×Bool)}{f:OpT}{keep:Bool}(ho:ops[i]?=some o)(hg:compG ops.toList ds o.guard=some g)(hf:compOp E ds o.op= .mk f):
  OpG E ops i o ds ⟨g,o.dst,keep,f⟩:=by
 obtain⟨f',h1,h2,h3⟩:=compOp_ok he o ds
 rw[hf]at h1
 cases h1
 refine⟨fun call round c1 c2 rho tm=>lo_wantG (h2 call round c1 c2 rho tm), ?_⟩
 intro call round c1 c2 w0 w r U rho tm b t dfs cs base s out s' hs hu hlen hr hx hb hfr e rest k
 have run:Region.wanted o (yielded ops t)=true→f call round rho tm s=rOf out s'→ ∃w' r' dfs' cs',Goes w0 r s s' r' w'∧CxR r' base s'.cx b dfs' cs'∧s'.lim=s.lim∧
   OpEnds E.P r' out (lone (frm b t dfs (.inRegion ops (i::rest)::k)) cs w) b t dfs' ops o rest k cs' w':=fun hw e=>
  h3 call round c1 c2 w0 w r U rho tm b t dfs cs base s out s' hs (fun t q=>hu t (mem_looks_op q)) hr hx hb hfr e ops i rest k ho hw
 rcases compG_some hg with⟨q1,q2⟩|⟨j,want,q,d,p,q1,q2,q3,q4,q5⟩
 ·subst q2
  exact run (by unfold Region.wanted;rw[q1]) e
 ·subst q4
  replace e:M.on (nthV p rho) (fun v=>M.chk (isK v) (M.if (isB v want) (f call round rho tm) (M.pure undef))) s=rOf out s':=e
  obtain⟨v,e1,e⟩:=on_rOf e
  obtain⟨hk,e⟩:=chk_rOf e
  rw[nthV_eq]at e1
  obtain⟨v',e2,e3⟩:=hs.loc p d v (hu d (mem_looks_guard q1 q2 q3)) q5 e1
  have hj:ops[j]?=some q:=by rw[←Array.getElem?_toList];exact q2
  have hy:Region.wanted o (yielded ops t)=isB v want:=by
   rw[←isB_wanted e3 hk]
   unfold Region.wanted yielded
   simp only[q1,hj,q3,Option.bind_some,e2]
   cases v'<;>rfl
  rw[if_eq]at e
  cases hB:isB v want with
  |true=>
   rw[hB]at e
   exact run (by rw[hy,hB]) e
  |false=>
   rw[hB]at e
   obtain⟨rfl,rfl⟩:=rOf_inl (show R.some undef s=rOf out s' from e)
   exact⟨w,r,dfs,cs, .of_rel rfl hr,hx,rfl,undef, .undef, .one (step_op_skip_frm ho (by rw[hy,hB]))⟩
/-! ### Slots as they are filled -/
theorem putT_size (t:Array Value)(d:Option Nat)(v:Value):(putT t d v).size=t.size:=by cases d<;>simp[putT]
theorem putT_other {t:Array Value}{d:Option Nat}{v:Value}{x:Nat}(h:d≠some x):(putT t d v)[x]?=t[x]?:=by
 cases d with
 |none=>rfl
 |some d=>exact Array.getElem?_setIfInBounds_ne (fun e=>h (by rw[e]))
theorem putT_self {t:Array Value}{d:Nat}{v:Value}(h:d<t.size):(putT t (some d) v)[d]?=some v:=by simp[putT,h]
theorem newD_some {d n:Nat}{ds:List Nat}(h:newD (some d) n ds=true):d<n∧d∉ds:=by
 have h':(Nat.blt d n&& !ds.any fun e=>Nat.beq d e)=true:=h
 rw[Bool.and_eq_true]at h'
 refine⟨blt_lt h'.1,fun hm=> ?_⟩
 have h2:=h'.2
 rw[Bool.not_eq_true']at h2
 have:=List.any_eq_false.1 h2 d hm
 exact this (by show Nat.beq d d=true;exact Nat.beq_refl d)
/-- The slots that are kept,behind an operation. -/
noncomputable def keepT (d:Option Nat)(keep:Bool)(v:Value)(tm:T Value):T Value:=
 match d,keep with
 |some d,true=>T.set tm d v
 |_,_=>tm
theorem keepV_eq {β:Type}(d:Option Nat)(keep:Bool)(v:Value)(tm:T Value)(K:T Value→M β):keepV d keep v tm K=K (keepT d keep v tm):=by
 unfold keepV keepT
 cases keep with
 |false=>cases d<;>rfl
 |true=>
  cases d with
  |none=>rfl
  |some d=>
   obtain⟨a,b,c,e⟩:=T.set_N tm d v
   simp only[e]
theorem TmR.keep {r:Inj}{tm:T Value}{t:Array Value}{d:Option Nat}{v v':Value}(h:TmR r glob tm t)(hv:VR r v v')(hd: ∀x,d=some x→x<t.size):TmR r glob (keepT d (keepD d glob) v tm) (putT t d v'):=by
 intro x u e
 cases d with
 |none=>exact h x u e
 |some d=>
  unfold keepT at e
  cases hk:keepD (some d) glob with
  |true=>
   rw[hk]at e
   simp only[T.get_set]at e
   split at e
   ·rename_i hx
    cases e
    subst hx
    exact⟨hk,v',putT_self (hd _ rfl),hv⟩
   ·rename_i hx
    obtain⟨q1,u',q2,q3⟩:=h x u e
    exact⟨q1,u',by rw[putT_other (by simpa using fun e=>hx e.symm)];exact q2,q3⟩
  |false=>
   rw[hk]at e
   obtain⟨q1,u',q2,q3⟩:=h x u e
   refine⟨q1,u', ?_,q3⟩
   rw[putT_other]
   ·exact q2
   ·intro hx
    cases hx
    rw[show keepD (some x) glob=Nat.testBit glob x from rfl,q1]at hk
    cases hk
theorem SlR.push {r:Inj}{ds:List Nat}{rho:Rho}{tm tm':T Value}{t:Array Value}{d:Option Nat}{v v':Value}(h:SlR r (fun _=>True) ds rho tm t)(hv:VR r v v')(hd:newD d t.size ds=true)(hT:TmR r glob tm' (putT t d v')):
  SlR r (fun _=>True) (consD d ds) (pushV d v rho) tm' (putT t d v'):=by
 refine⟨?_,fun x u _ e=>(hT x u e).2⟩
 intro i x u _ e1 e2
 cases d with
 |none=>exact h.loc i x u True.intro e1 e2
 |some d=>
  obtain⟨q1,q2⟩:=newD_some hd
  replace e1:(d::ds)[i]?=some x:=e1
  replace e2:(v::rho)[i]?=some u:=e2
  cases i with
  |zero=>
   simp at e1 e2
   subst e1
   subst e2
   exact⟨v',putT_self q1,hv⟩
  |succ i=>
   simp at e1 e2
   obtain⟨u',p1,p2⟩:=h.loc i x u True.intro e1 e2
   refine⟨u', ?_,p2⟩
   rw[putT_other]
   ·exact p1
   ·intro hx
    cases hx
    exact q2 (List.mem_of_getElem? e1)
/-! ### The region -/
theorem opsIn_cons (call round:CallT)(g:Option (Nat×Bool))(d:Option Nat)(k:Bool)(f:OpT)(l:List COp)(rho:Rho)(tm:T Value):
  opsIn call round (⟨g,d,k,f⟩::l) rho tm=M.bind (wantG g rho (f call round rho tm)) fun v=>opsIn call round l (pushV d v rho) (keepT d k v tm):=by
 show M.bind (wantG g rho (f call round rho tm)) (fun v=>keepV d k v tm (opsIn call round l (pushV d v rho)))=_
 congr
 funext v
 rw[keepV_eq]
theorem dstL_cons (o:Oper)(l:List Oper):dstL (o::l)=consD o.dst (dstL l):=rfl
theorem mem_dstL {o:Oper}{d:Nat}: ∀{l:List Oper},o∈l→o.dst=some d→d∈dstL l
 |[],h,_=>by cases h
 |x::l,h,e=>by
  rw[dstL_cons]
  rcases List.mem_cons.1 h with rfl|h
  ·rw[e];exact List.mem_cons_self
  ·cases hx:x.dst with
   |none=>exact mem_dstL h e
   |some y=>exact List.mem_cons_of_mem _ (mem_dstL h e)
/-- What comes of a region,in its frame. -/
def RegEnds (P:Program)(r:Inj)(glob:Nat)(out:Out (T Value))(m:Machine)(b:Frame)(t:Array Value)(all:List Oper)(dfs:List Deferred)(k:List Item)(cs:List Frame)(w':World):Prop:=
 match out with
 | .inl tm=> ∃t',TmR r glob tm t'∧t'.size=t.size∧Steps P m (lone (frm b t' dfs k) cs w')
 | .inr ch=> ∃ch' t' td,ChR r ch ch'∧t'.size=t.size∧(∀d,d∉dstL all→t'[d]?=t[d]?)∧Steps P m (lone {frm b t' dfs td with mode:= .panicking ch'} cs w')
theorem lo_opsIn (he:EnvTy E){call round:CallT}(c1:CallOK E call)(c2:RoundOK E round): ∀(l:List Oper) (i:Nat) (ds:List Nat) (cops:List COp),compOps E glob n ops.toList l ds=some cops→(∀j o,l[j]?=some o→ops[i+j]?=some o)→
  ∀rho tm,Loc (opsIn call round cops rho tm)
 |[],_,_,_,hc,_,rho,tm=>by cases hc;exact lo_pure _
 |o::l,i,ds,cops,hc,hl,rho,tm=>by
  obtain⟨g,f,cr,rfl,q1,q2,q3,q4⟩:=compOps_cons hc
  rw[opsIn_cons]
  exact lo_bind ((opG_ok (keep:=keepD o.dst glob) he (hl 0 o rfl) q1 q3).1 call round c1 c2 rho tm) fun v=>
   lo_opsIn he c1 c2 l (i+1) _ cr q4 (fun j x hj=>by have:=hl (j+1) x (by simpa using hj);rw[←this];congr 1;omega) _ _
theorem opsIn_ok (he:EnvTy E){call round:CallT}(c1:CallOK E call)(c2:RoundOK E round){b:Frame}{k:List Item}{base:List Deferred×List Frame}{w0:World}:
  ∀(l:List Oper) (i:Nat) (ds:List Nat) (cops:List COp) (rho:Rho) (tm:T Value) (t:Array Value) (dfs:List Deferred) (cs:List Frame) (w:World) (r:Inj) (s:St) (out:Out (T Value)) (s':St),
   (∀j o,l[j]?=some o→ops[i+j]?=some o)→compOps E glob n ops.toList l ds=some cops→SlR r (fun _=>True) ds rho tm t→TmR r glob tm t→t.size=n→rho.length=ds.length→
   Rel w0 r s.mem w→CxR r base s.cx b dfs cs→Bnd s→Fresh r s.next s'.next→opsIn call round cops rho tm s=rOf out s'→
   ∃w' r' dfs' cs',Goes w0 r s s' r' w'∧CxR r' base s'.cx b dfs' cs'∧s'.lim=s.lim∧RegEnds E.P r' glob out (lone (frm b t dfs (.inRegion ops (List.range' i l.length)::k)) cs w) b t ops.toList dfs' k cs' w'
 |[],i,ds,cops,rho,tm,t,dfs,cs,w,r,s,out,s',hl,hc,hs,hT,hn,hlen,hr,hx,hb,hf,e=>by
  cases hc
  obtain⟨rfl,rfl⟩:=rOf_inl (show R.some tm s=rOf out s' from e)
  exact⟨w,r,dfs,cs, .of_rel rfl hr,hx,rfl,t,hT,rfl, .one step_region_end_frm⟩
 |o::l,i,ds,cops,rho,tm,t,dfs,cs,w,r,s,out,s',hl,hc,hs,hT,hn,hlen,hr,hx,hb,hf,e=>by
  obtain⟨g,f,cr,rfl,q1,q2,q3,q4⟩:=compOps_cons hc
  have ho:ops[i]?=some o:=hl 0 o rfl
  obtain⟨hloc,hop⟩:=opG_ok (keep:=keepD o.dst glob) he ho q1 q3
  rw[opsIn_cons]at e
  have hrange:List.range' i (o::l).length=i::List.range' (i+1) l.length:=by simp[List.range'_succ]
  rw[hrange]
  rcases bind_rOf e with⟨v,s1,e1,e2⟩|⟨ch,e1,rfl⟩
  ·have hL:=(hloc call round c1 c2 rho tm).at' s (.inl v) s1 e1 hb
   have hnx:s1.next≤s'.next:=((lo_opsIn he c1 c2 l (i+1) (consD o.dst ds) cr q4 (fun j x hj=>by have:=hl (j+1) x (by simpa using hj);rw[←this];congr 1;omega) _ _).at' _ _ _ e2 hL.bnd).next
   obtain⟨w1,r1,dfs1,cs1,k1,k2,k3,v',k4,k5⟩:=hop call round c1 c2 w0 w r _ rho tm b t dfs cs base s (.inl v) s1 hs (fun _ _=>True.intro) hlen hr hx hb (fun b x y=>hf b x (Nat.lt_of_lt_of_le y hnx)) e1 (List.range' (i+1) l.length) k
   have hT1:TmR r1 glob (keepT o.dst (keepD o.dst glob) v tm) (putT t o.dst v'):=(hT.mono k1.le).keep k4 (fun x hx=>by
    rw[hx]at q2
    rw[hn]
    exact(newD_some q2).1)
   obtain⟨w2,r2,dfs2,cs2,p1,p2,p3,p4⟩:=opsIn_ok he c1 c2 l (i+1) (consD o.dst ds) cr (pushV o.dst v rho) _ (putT t o.dst v') dfs1 cs1 w1 r1 s1 out s'
    (fun j x hj=>by have:=hl (j+1) x (by simpa using hj);rw[←this];congr 1;omega) q4 ((hs.mono k1.le).push k4 (by rw[hn];exact q2) hT1) hT1 (by rw[putT_size];exact hn)
    (by cases hd:o.dst<;>simp[consD,pushV,hlen]) k1.rel k2 hL.bnd (k1.fresh hf) e2
   refine⟨w2,r2,dfs2,cs2,k1.trans p1,p2,p3.trans k3, ?_⟩
   unfold RegEnds at p4 ⊢
   cases out with
   |inl tm'=>
    obtain⟨t',z1,z2,z3⟩:=p4
    exact⟨t',z1,by rw[z2,putT_size],k5.trans z3⟩
   |inr ch=>
    obtain⟨ch',t',td,z1,z2,z3,z4⟩:=p4
    refine⟨ch',t',td,z1,by rw[z2,putT_size],fun d hd=> ?_,k5.trans z4⟩
    rw[z3 d hd,putT_other]
    intro hx
    exact hd (mem_dstL (by rw[Array.mem_toList_iff];exact Array.mem_of_getElem? ho) hx)
  ·obtain⟨w1,r1,dfs1,cs1,k1,k2,k3,ch',td,k4,k5⟩:=hop call round c1 c2 w0 w r _ rho tm b t dfs cs base s (.inr ch) s' hs (fun _ _=>True.intro) hlen hr hx hb hf e1 (List.range' (i+1) l.length) k
   exact⟨w1,r1,dfs1,cs1,k1,k2,k3,ch',t,td,k4,rfl,fun _ _=>rfl,k5⟩
end
end Go.Proofs.YtapojfiplajfaaaGreatDoor.Am
/- Regions whose order is open:what is ordered behind what,how an order is drawn;how the evaluator's run of such a region lies before us. -/
namespace Go.Proofs.YtapojfiplajfaaaGreatDoor.Am
open Go.RowKit
/-! ### What is ordered behind what -/
def Bf (ops:Array Oper)(j i:Nat):Prop:= ∃b,(Region.before ops)[j]?=some b∧b.testBit i=true
theorem testBit_pow (i k:Nat):(2^k).testBit i=decide (i=k):=by
 rw[Nat.testBit_two_pow]
 by_cases h:k=i
 ·simp[h]
 ·simp[h];exact fun e=>h e.symm
theorem edges_fold (acc:Array Nat)(i:Nat): ∀(l:List Edge) (s:Nat),(l.foldl (fun s e=>if Region.binds .any e then s|||2^e.on|||acc.getD e.on 0 else s) s).testBit i=true→
  s.testBit i=true∨ ∃e∈l,Region.binds .any e=true∧(i=e.on∨(acc.getD e.on 0).testBit i=true)
 |[],s,h=> .inl h
 |e::l,s,h=>by
  rcases edges_fold acc i l _ h with h|⟨e',h1,h2⟩
  ·replace h:(if Region.binds .any e=true then s|||2^e.on|||acc.getD e.on 0 else s).testBit i=true:=h
   by_cases hb:Region.binds .any e=true
   ·rw[if_pos hb,Nat.testBit_or,Nat.testBit_or,testBit_pow]at h
    simp only[Bool.or_eq_true,decide_eq_true_eq]at h
    rcases h with(h|h)|h
    ·exact .inl h
    ·exact .inr ⟨e,List.mem_cons_self,hb, .inl h⟩
    ·exact .inr ⟨e,List.mem_cons_self,hb, .inr h⟩
   ·rw[if_neg hb]at h
    exact .inl h
  ·exact .inr ⟨e',List.mem_cons_of_mem _ h1,h2⟩
noncomputable def befOne (acc:Array Nat)(o:Oper):Nat:=o.after.foldl (fun s e=>if Region.binds .any e then s|||2^e.on|||acc.getD e.on 0 else s) 0
theorem befOne_bit {acc:Array Nat}{o:Oper}{i:Nat}(h:(befOne acc o).testBit i=true): ∃e∈o.after,Region.binds .any e=true∧(i=e.on∨(acc.getD e.on 0).testBit i=true):=by
 unfold befOne at h
 rw[←Array.foldl_toList]at h
 rcases edges_fold acc i _ _ h with h|⟨e,h1,h2⟩
 ·simp at h
 ·exact⟨e,by simpa using h1,h2⟩
theorem before_fold: ∀(l:List Oper) (acc:Array Nat),(l.foldl (fun acc o=>acc.push (befOne acc o)) acc).size=acc.size+l.length∧
  (∀j,j<acc.size→(l.foldl (fun acc o=>acc.push (befOne acc o)) acc)[j]?=acc[j]?)∧
  ∀q o,l[q]?=some o→ ∃acc',acc'.size=acc.size+q∧(∀j,j<acc'.size→(l.foldl (fun acc o=>acc.push (befOne acc o)) acc)[j]?=acc'[j]?)∧(l.foldl (fun acc o=>acc.push (befOne acc o)) acc)[acc.size+q]?=some (befOne acc' o)
 |[],acc=>⟨by simp,fun _ _=>rfl,fun q o h=>by simp at h⟩
 |o::l,acc=>by
  obtain⟨h1,h2,h3⟩:=before_fold l (acc.push (befOne acc o))
  simp only[List.foldl_cons]
  refine⟨by rw[h1];simp;omega,fun j hj=> ?_,fun q x hx=> ?_⟩
  ·rw[h2 j (by simp;omega),Array.getElem?_push,if_neg (by omega)]
  ·cases q with
   |zero=>
    simp at hx
    subst hx
    refine⟨acc,rfl,fun j hj=> ?_, ?_⟩
    ·rw[h2 j (by simp;omega),Array.getElem?_push,if_neg (by omega)]
    ·rw[Nat.add_zero,h2 acc.size (by simp),Array.getElem?_push,if_pos rfl]
   |succ q=>
    obtain⟨acc',k1,k2,k3⟩:=h3 q x (by simpa using hx)
    refine⟨acc',by rw[k1];simp;omega,k2, ?_⟩
    rw[←k3]
    congr 1
    simp
    omega
theorem before_eq (ops:Array Oper):Region.before ops=ops.toList.foldl (fun acc o=>acc.push (befOne acc o)) #[]:=by
 unfold Region.before
 rw[←Array.foldl_toList]
 rfl
theorem Bf_edge {ops:Array Oper}{j i:Nat}(h:Bf ops j i): ∃o e,ops[j]?=some o∧e∈o.after∧Region.binds .any e=true∧(i=e.on∨Bf ops e.on i):=by
 obtain⟨b,h1,h2⟩:=h
 rw[before_eq]at h1
 obtain⟨k1,k2,k3⟩:=before_fold ops.toList #[]
 have hj:j<ops.toList.length:=by
  have:=(Array.getElem?_eq_some_iff.1 h1).1
  rw[k1]at this
  simpa using this
 obtain⟨acc',q1,q2,q3⟩:=k3 j ops.toList[j] (List.getElem?_eq_getElem hj)
 rw[show(#[]:Array Nat).size+j=j by simp]at q3
 rw[q3]at h1
 cases h1
 obtain⟨e,p1,p2,p3⟩:=befOne_bit h2
 refine⟨ops.toList[j],e,by rw[←Array.getElem?_toList];exact List.getElem?_eq_getElem hj,p1,p2, ?_⟩
 rcases p3 with p3|p3
 ·exact .inl p3
 ·refine .inr ?_
  have he:e.on<acc'.size:=by
   rcases Nat.lt_or_ge e.on acc'.size with h|h
   ·exact h
   ·rw[Array.getD_eq_getD_getElem?,Array.getElem?_eq_none h]at p3
    simp at p3
  refine⟨acc'.getD e.on 0, ?_,p3⟩
  rw[before_eq,q2 e.on he,Array.getD_eq_getD_getElem?,Array.getElem?_eq_getElem he]
  rfl
theorem befL_size (ops:Array Oper):(Region.before ops).toList.length=ops.size:=by
 rw[before_eq]
 have:=(before_fold ops.toList #[]).1
 simpa using this
/-! ### How many are left -/
def cnt (p:Nat→Bool):Nat→Nat
 |0=>0
 |n+1=>cnt p n+if p n then 1 else 0
theorem cnt_zero {p:Nat→Bool}: ∀{n:Nat},cnt p n=0→ ∀i,i<n→p i=false
 |0,_,i,h=>absurd h (Nat.not_lt_zero _)
 |n+1,h,i,hi=>by
  simp only[cnt]at h
  by_cases e:i=n
  ·subst e
   cases hp:p i with
   |false=>rfl
   |true=>rw[hp]at h;simp at h
  ·exact cnt_zero (n:=n) (by omega) i (by omega)
theorem cnt_pos {p:Nat→Bool}: ∀{n:Nat},0<cnt p n→ ∃i,i<n∧p i=true∧ ∀j,j<i→p j=false
 |0,h=>absurd h (Nat.lt_irrefl _)
 |n+1,h=>by
  by_cases h0:0<cnt p n
  ·obtain⟨i,h1,h2,h3⟩:=cnt_pos h0
   exact⟨i,by omega,h2,h3⟩
  ·have h1:cnt p n=0:=by omega
   cases hp:p n with
   |true=>exact⟨n,by omega,hp,fun j hj=>cnt_zero h1 j hj⟩
   |false=>simp[cnt,h1,hp]at h
theorem cnt_all (n:Nat):cnt (fun _=>true) n=n:=by
 induction n with
 |zero=>rfl
 |succ n ih=>simp[cnt,ih]
theorem cnt_congr {p q:Nat→Bool}: ∀{n:Nat},(∀i,i<n→p i=q i)→cnt p n=cnt q n
 |0,_=>rfl
 |n+1,h=>by simp only[cnt];rw[cnt_congr (n:=n) fun i hi=>h i (by omega),h n (by omega)]
theorem cnt_one {p q:Nat→Bool}{i:Nat}(hp:p i=true)(hq:q i=false)(h: ∀j,j≠i→p j=q j): ∀{n:Nat},i<n→cnt p n=cnt q n+1
 |0,hi=>absurd hi (Nat.not_lt_zero _)
 |n+1,hi=>by
  simp only[cnt]
  by_cases e:i=n
  ·subst e
   rw[cnt_congr (n:=i) fun j hj=>h j (by omega),hp,hq]
   simp
  ·rw[cnt_one hp hq h (n:=n) (by omega),h n (fun x=>e x.symm)]
   omega
/-! ### The evaluator's run -/
theorem apartO_def {α:Type}(m:M α)(s:St):apartO m s=match m ⟨s.mem,s.next,s.next,[],[],s.cx⟩with
  | .some a s1=>(match s1.cx with| .no=> .some (a,⟨s.next,s1.next,s1.rd,s1.wr⟩) ⟨s1.mem,s1.next,s.lim,s.rd,s.wr, .no⟩|_=> .none)
  |_=> .none:=by
 obtain⟨mem,next,lim,rd,wr,cx⟩:=s
 unfold apartO
 simp only
 cases m ⟨mem,next,next,[],[],cx⟩with
 |none=>rfl
 |some a s1=>obtain⟨mem',next',lim',rd',wr',cx'⟩:=s1;cases cx'<;>rfl
 |pan c s1=>rfl
/-- An operation of such a region,as it ran. -/
structure TrAt (m:M Value)(mem:T Cell)(nx:Nat)(v:Value)(mem1:T Cell)(nx1:Nat)(Rd Wr:Nat→Prop)(lr lw:List Nat):Prop where
 run:LocG m ⟨mem,nx,nx,[],[], .no⟩ (.inl v) ⟨mem1,nx1,nx,lr,lw, .no⟩ Rd Wr lr lw
 ird: ∀l,Rd l→l<nx→l∈lr
 iwr: ∀l,Wr l→l<nx→l∈lw
theorem apartO_run {m:M Value}(hm:Loc m){s s':St}{o:Out (Value×OpLog)}(hs:s.cx= .no)(h:apartO m s=rOf o s'):
  ∃v mem1 nx1 Rd Wr lr lw,o= .inl (v,⟨s.next,nx1,lr,lw⟩)∧s'=⟨mem1,nx1,s.lim,s.rd,s.wr, .no⟩∧TrAt m s.mem s.next v mem1 nx1 Rd Wr lr lw∧(Bnd s→LocG (apartO m) s o s' Rd Wr [] []):=by
 rw[apartO_def]at h
 cases e:m ⟨s.mem,s.next,s.next,[],[],s.cx⟩with
 |none=>rw[e]at h;exact(rOf_none h).elim
 |pan c s1=>rw[e]at h;exact(rOf_none h).elim
 |some v s1=>
  rw[e]at h
  rw[hs]at e
  obtain⟨mem1,nx1,lim1,lr,lw,cx1⟩:=s1
  cases cx1 with
  |cx a b=>exact(rOf_none h).elim
  |no=>
   obtain⟨rfl,rfl⟩:=rOf_inl h
   obtain⟨Rd,Wr,dr,dw,g,i1,i2⟩:=hm.at' _ (.inl v) _ e (Nat.le_refl _)
   have e1:lr=dr:=by have:=g.rd;simpa using this
   have e2:lw=dw:=by have:=g.wr;simpa using this
   have e3:lim1=s.next:=g.lim
   subst e1
   subst e2
   subst e3
   refine⟨v,mem1,nx1,Rd,Wr,lr,lw,rfl,rfl,⟨g,i1,i2⟩,fun hb=>⟨rfl,rfl,g.nxt,rfl, ?_,g.rlt,g.wlt,g.old,fun t e1 e2 e3 e4=> ?_⟩⟩
   ·exact Nat.le_trans hb g.nxt
   ·obtain⟨t',q1,q2,q3,q4,q5,q6,q7,q8⟩:=g.any ⟨t.mem,t.next,t.next,[],[], .no⟩ e1 e1 rfl e4
    obtain⟨tm,tn,tl,tr,tw,tc⟩:=t'
    simp only[List.append_nil]at q2 q3 q4 q5 q6
    subst q2
    subst q4
    subst q5
    subst q6
    refine⟨⟨tm,tn,t.lim,t.rd,t.wr, .no⟩, ?_,rfl,e2,rfl,rfl,rfl,q7,q8⟩
    rw[apartO_def,e3,hs,q1]
    simp only[rOf,e1]
theorem opsDraw_cons (call round:CallT)(g:Option (Nat×Bool))(d:Option Nat)(k:Bool)(f:OpT)(l:List COp)(acc:List OpLog)(rho:Rho)(tm:T Value):
  opsDraw call round (⟨g,d,k,f⟩::l) acc rho tm=M.bind (apartO (wantG g rho (f call round rho tm))) fun p=>opsDraw call round l (p.2::acc) (pushV d p.1 rho) (keepT d k p.1 tm):=by
 show M.bind (apartO (wantG g rho (f call round rho tm))) (fun p=>keepV d k p.1 tm fun tm=>opsDraw call round l (p.2::acc) (pushV d p.1 rho) tm)=_
 congr
 funext p
 rw[keepV_eq]
/-- The run in whole,by number. -/
structure Tra where
 V:Nat→Value
 Mm:Nat→T Cell
 Nx:Nat→Nat
 Rh:Nat→Rho
 Tm:Nat→T Value
 Rd:Nat→Nat→Prop
 Wr:Nat→Nat→Prop
 lr:Nat→List Nat
 lw:Nat→List Nat
def Tra.log (x:Tra)(i:Nat):OpLog:=⟨x.Nx i,x.Nx (i+1),x.lr i,x.lw i⟩
def sh {α:Type}(a:α)(f:Nat→α):Nat→α
 |0=>a
 |i+1=>f i
structure TraOK (call round:CallT)(cops:List COp)(x:Tra):Prop where
 at': ∀i c,cops[i]?=some c→TrAt (wantG c.guard (x.Rh i) (c.run call round (x.Rh i) (x.Tm i))) (x.Mm i) (x.Nx i) (x.V i) (x.Mm (i+1)) (x.Nx (i+1)) (x.Rd i) (x.Wr i) (x.lr i) (x.lw i)∧
  x.Rh (i+1)=pushV c.slot (x.V i) (x.Rh i)∧x.Tm (i+1)=keepT c.slot c.keep (x.V i) (x.Tm i)
theorem opsDraw_tra {call round:CallT}: ∀(cops:List COp) (acc:List OpLog) (rho:Rho) (tm:T Value) (s:St) (o:Out ((Rho×T Value)×List OpLog)) (s':St),
  (∀c∈cops,∀rho tm,Loc (wantG c.guard rho (c.run call round rho tm)))→s.cx= .no→opsDraw call round cops acc rho tm s=rOf o s'→
  ∃x:Tra,TraOK call round cops x∧x.Mm 0=s.mem∧x.Nx 0=s.next∧x.Rh 0=rho∧x.Tm 0=tm∧o= .inl ((x.Rh cops.length,x.Tm cops.length),((List.range cops.length).map x.log).reverse++acc)∧
   s'=⟨x.Mm cops.length,x.Nx cops.length,s.lim,s.rd,s.wr, .no⟩
 |[],acc,rho,tm,s,o,s',hl,hs,h=>by
  obtain⟨rfl,rfl⟩:=rOf_inl (show R.some ((rho,tm),acc) s=rOf o s' from h)
  refine⟨⟨fun _=>undef,fun _=>s'.mem,fun _=>s'.next,fun _=>rho,fun _=>tm,fun _ _=>False,fun _ _=>False,fun _=>[],fun _=>[]⟩,⟨fun i c hc=>by simp at hc⟩,rfl,rfl,rfl,rfl,rfl, ?_⟩
  obtain⟨a,b,c,d,e,f⟩:=s'
  simp only at hs
  rw[hs]
 |⟨g,d,k,f⟩::l,acc,rho,tm,s,o,s',hl,hs,h=>by
  rw[opsDraw_cons]at h
  have hm:Loc (wantG g rho (f call round rho tm)):=hl _ List.mem_cons_self rho tm
  rcases bind_rOf h with⟨p,s1,e1,e2⟩|⟨ch,e1,rfl⟩
  ·obtain⟨v,mem1,nx1,Rd,Wr,lr,lw,q1,rfl,q3,_⟩:=apartO_run hm hs (o:= .inl p) e1
   cases q1
   obtain⟨x,k1,k2,k3,k4,k5,k6,k7⟩:=opsDraw_tra l _ _ _ _ o s' (fun c hc=>hl c (List.mem_cons_of_mem _ hc)) rfl e2
   refine⟨⟨sh v x.V,sh s.mem x.Mm,sh s.next x.Nx,sh rho x.Rh,sh tm x.Tm,sh Rd x.Rd,sh Wr x.Wr,sh lr x.lr,sh lw x.lw⟩,⟨fun i c hc=> ?_⟩,rfl,rfl,rfl,rfl, ?_, ?_⟩
   ·cases i with
    |zero=>
     simp at hc
     subst hc
     simp only[sh,k2,k3,k4,k5]
     exact⟨q3,trivial,trivial⟩
    |succ i=>exact k1.at' i c (by simpa using hc)
   ·rw[k6]
    simp only[List.length_cons,List.range_succ_eq_map,List.map_cons,List.map_map,List.reverse_cons,List.append_assoc,List.singleton_append]
    congr 2
    simp only[Tra.log,sh,k3]
    rfl
   ·rw[k7];rfl
  ·obtain⟨v,mem1,nx1,Rd,Wr,lr,lw,q1,_⟩:=apartO_run hm hs (o:= .inr ch) e1
   cases q1
/-- .. and what it touched,in whole. -/
theorem opsDraw_loc {call round:CallT}: ∀(cops:List COp) (acc:List OpLog) (rho:Rho) (tm:T Value) (s:St) (o:Out ((Rho×T Value)×List OpLog)) (s':St),
  (∀c∈cops,∀rho tm,Loc (wantG c.guard rho (c.run call round rho tm)))→s.cx= .no→Bnd s→opsDraw call round cops acc rho tm s=rOf o s'→
  ∃Rd Wr tm' es,o= .inl (tm',es)∧LocG (opsDraw call round cops acc rho tm) s o s' Rd Wr [] []∧(∀g∈acc,g∈es)∧(∀l,Rd l→l<s.next→ ∃g∈es,l∈g.rd)∧(∀l,Wr l→l<s.next→ ∃g∈es,l∈g.wr)
 |[],acc,rho,tm,s,o,s',hl,hs,hb,h=>by
  obtain⟨rfl,rfl⟩:=rOf_inl (show R.some ((rho,tm),acc) s=rOf o s' from h)
  refine⟨fun _=>False,fun _=>False,(rho,tm),acc,rfl,⟨rfl,rfl,Nat.le_refl _,rfl,hb,fun _ e=>e.elim,fun _ e=>e.elim,fun _ _=>rfl,fun t e1 e2 e3 _=>⟨t,rfl,e1,e2,e3,rfl,rfl,fun _ e=>e.elim,fun _ _=>rfl⟩⟩,fun g e=>e,fun _ e=>e.elim,fun _ e=>e.elim⟩
 |⟨g,d,k,f⟩::l,acc,rho,tm,s,o,s',hl,hs,hb,h=>by
  rw[opsDraw_cons]at h ⊢
  have hm:Loc (wantG g rho (f call round rho tm)):=hl _ List.mem_cons_self rho tm
  rcases bind_rOf h with⟨p,s1,e1,e2⟩|⟨ch,e1,rfl⟩
  ·obtain⟨v,mem1,nx1,Rd,Wr,lr,lw,q1,rfl,q3,q4⟩:=apartO_run hm hs (o:= .inl p) e1
   cases q1
   have g1:=q4 hb
   obtain⟨Rd2,Wr2,tm',es,k1,k2,k3,k4,k5⟩:=opsDraw_loc l _ _ _ _ o s' (fun c hc=>hl c (List.mem_cons_of_mem _ hc)) rfl g1.bnd e2
   refine⟨_,_,tm',es,k1,g1.seq k2 (fun t t1 q=>by unfold M.bind;rw[q];rfl),fun g hg=>k3 g (List.mem_cons_of_mem _ hg),fun l e x=> ?_,fun l e x=> ?_⟩
   ·rcases e with e|e
    ·exact⟨_,k3 _ List.mem_cons_self,q3.ird l e x⟩
    ·exact k4 l e (Nat.lt_of_lt_of_le x g1.nxt)
   ·rcases e with e|e
    ·exact⟨_,k3 _ List.mem_cons_self,q3.iwr l e x⟩
    ·exact k5 l e (Nat.lt_of_lt_of_le x g1.nxt)
  ·obtain⟨v,mem1,nx1,Rd,Wr,lr,lw,q1,_⟩:=apartO_run hm hs (o:= .inr ch) e1
   cases q1
theorem addL_eq (lim:Nat)(base:List Nat): ∀(l:List Nat),addL lim l base=addL lim l []++base
 |[]=>rfl
 |a::l=>by
  have h: ∀b,addL lim (a::l) b=notes a lim (addL lim l b):=fun _=>rfl
  rw[h,h,addL_eq lim base l,notes_app,notes_app (l:=addL lim l []),List.append_assoc]
theorem addL_mem {lim x:Nat}(hx:x<lim): ∀{l base:List Nat},(x∈l∨x∈base)→x∈addL lim l base
 |[],base,h=>h.elim (fun h=>by cases h) id
 |a::l,base,h=>by
  show x∈notes a lim (addL lim l base)
  rw[notes_eq]
  rcases h with h|h
  ·rcases List.mem_cons.1 h with rfl|h
   ·rw[if_pos hx];exact List.mem_cons_self
   ·split
    ·exact List.mem_cons_of_mem _ (addL_mem hx (.inl h))
    ·exact addL_mem hx (.inl h)
  ·split
   ·exact List.mem_cons_of_mem _ (addL_mem hx (.inr h))
   ·exact addL_mem hx (.inr h)
theorem rdsL_eq (lim:Nat)(base:List Nat): ∀(l:List OpLog),rdsL lim l base=rdsL lim l []++base
 |[]=>rfl
 |g::l=>by
  show addL lim g.rd (rdsL lim l base)=addL lim g.rd (rdsL lim l [])++base
  rw[addL_eq,rdsL_eq lim base l,addL_eq (base:=rdsL lim l []),List.append_assoc]
theorem wrsL_eq (lim:Nat)(base:List Nat): ∀(l:List OpLog),wrsL lim l base=wrsL lim l []++base
 |[]=>rfl
 |g::l=>by
  show addL lim g.wr (wrsL lim l base)=addL lim g.wr (wrsL lim l [])++base
  rw[addL_eq,wrsL_eq lim base l,addL_eq (base:=wrsL lim l []),List.append_assoc]
theorem rdsL_mem {lim x:Nat}(hx:x<lim): ∀{l:List OpLog} {g:OpLog},g∈l→x∈g.rd→x∈rdsL lim l []
 |g'::l,g,h,e=>by
  show x∈addL lim g'.rd (rdsL lim l [])
  rcases List.mem_cons.1 h with rfl|h
  ·exact addL_mem hx (.inl e)
  ·exact addL_mem hx (.inr (rdsL_mem hx h e))
theorem wrsL_mem {lim x:Nat}(hx:x<lim): ∀{l:List OpLog} {g:OpLog},g∈l→x∈g.wr→x∈wrsL lim l []
 |g'::l,g,h,e=>by
  show x∈addL lim g'.wr (wrsL lim l [])
  rcases List.mem_cons.1 h with rfl|h
  ·exact addL_mem hx (.inl e)
  ·exact addL_mem hx (.inr (wrsL_mem hx h e))
end Go.Proofs.YtapojfiplajfaaaGreatDoor.Am
/- A region whose order is open,in whatever order it is drawn. -/
namespace Go.Proofs.YtapojfiplajfaaaGreatDoor.Am
open Go.RowKit
/-! ### The checks -/
theorem newsL_mem {n0 x:Nat}: ∀{l acc:List Nat},(x∈l∧n0≤x)∨x∈acc→x∈newsL n0 l acc
 |[],acc,h=>h.elim (fun h=>by cases h.1) id
 |a::l,acc,h=>by
  show x∈Bool.rec (motive:=fun _=>List Nat) (newsL n0 l acc) (a::newsL n0 l acc) (Nat.ble n0 a)
  cases hb:Nat.ble n0 a with
  |true=>
   rcases h with⟨h,h'⟩|h
   ·rcases List.mem_cons.1 h with rfl|h
    ·exact List.mem_cons_self
    ·exact List.mem_cons_of_mem _ (newsL_mem (.inl ⟨h,h'⟩))
   ·exact List.mem_cons_of_mem _ (newsL_mem (.inr h))
  |false=>
   rcases h with⟨h,h'⟩|h
   ·rcases List.mem_cons.1 h with rfl|h
    ·rw[Nat.ble_eq_true_of_le h']at hb;cases hb
    ·exact newsL_mem (.inl ⟨h,h'⟩)
   ·exact newsL_mem (.inr h)
theorem hitsI_no {lo hi:Nat}: ∀{l:List Nat},hitsI lo hi l=false→ ∀x∈l,¬(lo≤x∧x<hi)
 |[],_,x,hx=>by cases hx
 |a::l,h,x,hx=>by
  replace h:Bool.rec (motive:=fun _=>Bool) (hitsI lo hi l) (Bool.rec (motive:=fun _=>Bool) (hitsI lo hi l) true (Nat.blt a hi)) (Nat.ble lo a)=false:=h
  intro⟨h1,h2⟩
  rcases List.mem_cons.1 hx with rfl|hx
  ·rw[Nat.ble_eq_true_of_le h1,show Nat.blt x hi=true from Nat.ble_eq_true_of_le h2]at h
   cases h
  ·refine hitsI_no (l:=l) ?_ x hx ⟨h1,h2⟩
   cases hb:Nat.ble lo a with
   |false=>rw[hb]at h;exact h
   |true=>
    cases hb2:Nat.blt a hi with
    |false=>rw[hb,hb2]at h;exact h
    |true=>rw[hb,hb2]at h;cases h
theorem freshJ_spec {bj:Nat}{news:List Nat}: ∀{acc:List OpLog} {i:Nat},freshJ bj news acc i=true→ ∀q a,acc[q]?=some a→bj.testBit (i+q)=false→hitsI a.lo a.hi news=false
 |[],i,_,q,a,hq,_=>by simp at hq
 |m::acc,i,h,q,a,hq,hb=>by
  replace h:((bj.testBit i|| !hitsI m.lo m.hi news)&&freshJ bj news acc (Nat.succ i))=true:=h
  rw[Bool.and_eq_true,Bool.or_eq_true]at h
  cases q with
  |zero=>
   simp at hq
   subst hq
   rw[Nat.add_zero]at hb
   rcases h.1 with h1|h1
   ·rw[hb]at h1;cases h1
   ·simpa using h1
  |succ q=>exact freshJ_spec h.2 q a (by simpa using hq) (by rw[←hb];congr 1;omega)
theorem freshL_spec {n0:Nat}{all:List OpLog}: ∀{l:List OpLog} {bef:List Nat} {j:Nat},freshL n0 all l bef j=true→ ∀q m b,l[q]?=some m→bef[q]?=some b→
  ∀i a,(all.take (j+q))[i]?=some a→b.testBit i=false→ ∀x,(x∈m.rd∨x∈m.wr)→n0≤x→ ¬(a.lo≤x∧x<a.hi)
 |[],bef,j,_,q,m,b,hq,_=>by simp at hq
 |m'::l,[],j,_,q,m,b,_,hb=>by simp at hb
 |m'::l,b'::bef,j,h,q,m,b,hq,hb=>by
  replace h:(freshN b' (newsL n0 m'.rd (newsL n0 m'.wr [])) (all.take j)&&freshL n0 all l bef (Nat.succ j))=true:=h
  rw[Bool.and_eq_true]at h
  cases q with
  |zero=>
   simp at hq hb
   subst hq
   subst hb
   intro i a ha hbit x hx hn
   have hmem:x∈newsL n0 m'.rd (newsL n0 m'.wr []):=newsL_mem (hx.elim (fun e=> .inl ⟨e,hn⟩) (fun e=> .inr (newsL_mem (.inl ⟨e,hn⟩))))
   have h1:=h.1
   generalize newsL n0 m'.rd (newsL n0 m'.wr [])=news at h1 hmem
   cases news with
   |nil=>cases hmem
   |cons y ys=>
    have h2:freshJ b' (y::ys) (all.take j) 0=true:=h1
    exact hitsI_no (freshJ_spec h2 i a ha (by rw[Nat.zero_add];exact hbit)) x hmem
  |succ q=>
   intro i a ha
   exact freshL_spec h.2 q m b (by simpa using hq) (by simpa using hb) i a (by rw[←ha];congr 2;omega)
theorem maskL_bit {x:Nat}: ∀{l:List Nat} {m:Nat},(x∈l∨m.testBit x=true)→(maskL l m).testBit x=true
 |[],m,h=>h.elim (fun h=>by cases h) id
 |a::l,m,h=>by
  show(fN (Nat.lor m (Nat.shiftLeft (nat_lit 1) a)) (maskL l)).testBit x=true
  rw[fN_eq]
  have e:Nat.lor m (Nat.shiftLeft (nat_lit 1) a)=m|||2^a:=by
   show m|||(1<<<a)=_
   rw[Nat.one_shiftLeft]
  rw[e]
  refine maskL_bit ?_
  rw[Nat.testBit_or,testBit_pow]
  rcases h with h|h
  ·rcases List.mem_cons.1 h with rfl|h
   ·right;simp
   ·exact .inl h
  ·right;simp[h]
theorem masks_eq (m:OpLog):masks m=(maskL m.rd 0,maskL m.wr 0):=by
 obtain⟨lo,hi,rd,wr⟩:=m
 show fN (maskL rd 0) (fun r=>fN (maskL wr 0) fun w=>(r,w))=_
 rw[fN_eq,fN_eq]
theorem masksL_eq: ∀(l:List OpLog),masksL l=l.map masks
 |[]=>rfl
 |m::l=>by
  have h: ∀p:Nat×Nat,Prod.rec (motive:=fun _=>List (Nat×Nat)) (fun r w=>(r,w)::masksL l) p=p::l.map masks:=by
   intro p
   rw[masksL_eq l]
  exact h (masks m)
theorem land_zero {a b x:Nat}(h:Nat.beq (Nat.land a b) (nat_lit 0)=true)(h1:a.testBit x=true)(h2:b.testBit x=true):False:=by
 have e:a&&&b=0:=Nat.eq_of_beq_eq_true h
 have:=congrArg (fun n=>n.testBit x) e
 simp only[Nat.testBit_and,h1,h2,Nat.zero_testBit]at this
 cases this
theorem apart2_spec {a m:OpLog}(h:apart2 (masks a) (masks m)=true)(x:Nat): ¬(x∈a.wr∧(x∈m.rd∨x∈m.wr))∧ ¬(x∈m.wr∧x∈a.rd):=by
 unfold apart2 at h
 rw[Bool.and_eq_true,masks_eq,masks_eq]at h
 refine⟨fun⟨h1,h2⟩=>land_zero h.1 (maskL_bit (.inl h1)) ?_,fun⟨h1,h2⟩=>land_zero h.2 (maskL_bit (.inl h1)) (maskL_bit (.inl h2))⟩
 show(maskL m.rd 0|||maskL m.wr 0).testBit x=true
 rw[Nat.testBit_or]
 rcases h2 with h2|h2
 ·rw[maskL_bit (.inl h2)];rfl
 ·rw[maskL_bit (m:=0) (l:=m.wr) (.inl h2),Bool.or_true]
theorem apartJ_spec {bj:Nat}{m:Nat×Nat}: ∀{acc:List (Nat×Nat)} {i:Nat},apartJ bj m acc i=true→ ∀q a,acc[q]?=some a→bj.testBit (i+q)=false→apart2 a m=true
 |[],i,_,q,a,hq,_=>by simp at hq
 |m'::acc,i,h,q,a,hq,hb=>by
  replace h:((bj.testBit i||apart2 m' m)&&apartJ bj m acc (Nat.succ i))=true:=h
  rw[Bool.and_eq_true,Bool.or_eq_true]at h
  cases q with
  |zero=>
   simp at hq
   subst hq
   rw[Nat.add_zero]at hb
   rcases h.1 with h1|h1
   ·rw[hb]at h1;cases h1
   ·exact h1
  |succ q=>exact apartJ_spec h.2 q a (by simpa using hq) (by rw[←hb];congr 1;omega)
theorem apartL_spec {all:List (Nat×Nat)}: ∀{l:List (Nat×Nat)} {bef:List Nat} {j:Nat},apartL all l bef j=true→ ∀q m b,l[q]?=some m→bef[q]?=some b→
  ∀i a,(all.take (j+q))[i]?=some a→b.testBit i=false→apart2 a m=true
 |[],bef,j,_,q,m,b,hq,_=>by simp at hq
 |m'::l,[],j,_,q,m,b,_,hb=>by simp at hb
 |m'::l,b'::bef,j,h,q,m,b,hq,hb=>by
  replace h:(apartJ b' m' (all.take j) 0&&apartL all l bef (Nat.succ j))=true:=h
  rw[Bool.and_eq_true]at h
  cases q with
  |zero=>
   simp at hq hb
   subst hq
   subst hb
   intro i a ha hbit
   exact apartJ_spec h.1 i a ha (by rw[Nat.zero_add];exact hbit)
  |succ q=>
   intro i a ha
   exact apartL_spec h.2 q m b (by simpa using hq) (by simpa using hb) i a (by rw[←ha];congr 2;omega)
theorem apartM_spec {n0:Nat}{l:List OpLog}{bef:List Nat}(h:apartM n0 l bef=true){i j:Nat}{a m:OpLog}{b:Nat}(hij:i<j)(ha:l[i]?=some a)(hm:l[j]?=some m)(hb:bef[j]?=some b)(hbit:b.testBit i=false):
  (∀x,(x∈m.rd∨x∈m.wr)→n0≤x→ ¬(a.lo≤x∧x<a.hi))∧(∀x,¬(x∈a.wr∧(x∈m.rd∨x∈m.wr))∧ ¬(x∈m.wr∧x∈a.rd)):=by
 unfold apartM at h
 rw[Bool.and_eq_true,Bool.or_eq_true]at h
 have hat:(l.take (0+j))[i]?=some a:=by rw[Nat.zero_add,List.getElem?_take,if_pos hij];exact ha
 refine⟨freshL_spec h.1 j m b hm hb i a hat hbit, ?_⟩
 rcases h.2 with h2|h2
 ·have q: ∀{g:OpLog} {k:Nat},l[k]?=some g→g.wr=[]:=by
   intro g k hk
   have:=List.all_eq_true.1 h2 g (List.mem_of_getElem? hk)
   simpa using this
  intro x
  rw[q ha,q hm]
  exact⟨fun e=>(by cases e.1),fun e=>(by cases e.1)⟩
 ·rw[masksL_eq]at h2
  refine apart2_spec (apartL_spec h2 j (masks m) b (by rw[List.getElem?_map,hm];rfl) hb i (masks a) ?_ hbit)
  rw[←List.map_take,List.getElem?_map,hat]
  rfl
theorem edgesB_spec: ∀{ops:List Oper} {j:Nat},edgesB ops j=true→ ∀q o,ops[q]?=some o→ ∀e∈o.after,Region.binds .any e=true→e.on<j+q
 |[],j,_,q,o,hq=>by simp at hq
 |p::ops,j,h,q,o,hq=>by
  replace h:((p.after.toList.all fun e=> !Region.binds .any e||Nat.blt e.on j)&&edgesB ops (Nat.succ j))=true:=h
  rw[Bool.and_eq_true]at h
  cases q with
  |zero=>
   simp at hq
   subst hq
   intro e he hb
   have:=List.all_eq_true.1 h.1 e (by simpa using he)
   rw[hb]at this
   exact blt_lt (by simpa using this)
  |succ q=>
   intro e he hb
   have:=edgesB_spec h.2 q o (by simpa using hq) e he hb
   omega
theorem tmpsJ_spec {bef:List Nat}{j:Nat}{looks:List Nat}: ∀{l:List Oper} {i:Nat},tmpsJ bef j looks l i=true→ ∀q o d,l[q]?=some o→o.dst=some d→d∈looks→i+q≠j→ ∃b,bef[max (i+q) j]?=some b∧b.testBit (min (i+q) j)=true
 |[],i,_,q,o,d,hq,_,_,_=>by simp at hq
 |p::l,i,h,q,o,d,hq,hd,hl,hn=>by
  replace h:((match p.dst with
   |some d=>Nat.beq i j|| !(looks.any fun t=>Nat.beq t d)||(match bef[Nat.max i j]? with|some b=>b.testBit (Nat.min i j)|none=>false)
   |none=>true)&&tmpsJ bef j looks l (Nat.succ i))=true:=h
  rw[Bool.and_eq_true]at h
  cases q with
  |zero=>
    simp at hq
    subst hq
    rw[Nat.add_zero]at hn ⊢
    have h1:=h.1
    rw[hd]at h1
    simp only[Bool.or_eq_true]at h1
    rcases h1 with(h1|h1)|h1
    ·exact absurd (Nat.eq_of_beq_eq_true h1) hn
    ·rw[Bool.not_eq_true']at h1
     have:=List.any_eq_false.1 h1 d hl
     exact absurd (Nat.beq_refl d) this
    ·change (match bef[max i j]? with|some b=>b.testBit (min i j)|none=>false)=true at h1
     cases hb:bef[max i j]? with
     |none=>rw[hb]at h1;cases h1
     |some b=>rw[hb]at h1;exact⟨b,rfl,h1⟩
  |succ q=>
    have:=tmpsJ_spec h.2 q o d (by simpa using hq) hd hl (by omega)
    rw[show Nat.succ i+q=i+(q+1) by omega]at this
    exact this
theorem tmpsB_spec {all:List Oper}{bef:List Nat}: ∀{l:List Oper} {j:Nat},tmpsB all bef l j=true→ ∀q o,l[q]?=some o→tmpsJ bef (j+q) (looksL all o) all 0=true
 |[],j,_,q,o,hq=>by simp at hq
 |p::l,j,h,q,o,hq=>by
  replace h:(tmpsJ bef j (looksL all p) all 0&&tmpsB all bef l (Nat.succ j))=true:=h
  rw[Bool.and_eq_true]at h
  cases q with
  |zero=>simp at hq;subst hq;exact h.1
  |succ q=>
   have:=tmpsB_spec h.2 q o (by simpa using hq)
   rw[show Nat.succ j+q=j+(q+1) by omega]at this
   exact this
/-! ### What holds of the run by number -/
section
variable {E:Env}{glob N:Nat}{ops:Array Oper}{call round:CallT}{cops:List COp}{x:Tra}{m:Nat}
noncomputable def dsAt (ops:List Oper)(i:Nat):List Nat:=(ops.take i).foldl (fun ds o=>consD o.dst ds) []
theorem compOps_at: ∀(l:List Oper) (pre:List Oper) (cs:List COp),compOps E glob N ops.toList l (pre.foldl (fun ds o=>consD o.dst ds) [])=some cs→cs.length=l.length∧
  ∀i o,l[i]?=some o→ ∃g f,cs[i]?=some ⟨g,o.dst,keepD o.dst glob,f⟩∧compG ops.toList (dsAt (pre++l) (pre.length+i)) o.guard=some g∧newD o.dst N (dsAt (pre++l) (pre.length+i))=true∧compOp E (dsAt (pre++l) (pre.length+i)) o.op= .mk f
 |[],pre,cs,h=>by cases h;exact⟨rfl,fun i o hi=>by simp at hi⟩
 |o::l,pre,cs,h=>by
  obtain⟨g,f,r,rfl,h1,h2,h3,h4⟩:=compOps_cons h
  have hp:(pre++[o]).foldl (fun ds o=>consD o.dst ds) []=consD o.dst (pre.foldl (fun ds o=>consD o.dst ds) []):=by rw[List.foldl_append];rfl
  obtain⟨k1,k2⟩:=compOps_at l (pre++[o]) r (by rw[hp];exact h4)
  refine⟨by simp[k1],fun i x hi=> ?_⟩
  cases i with
  |zero=>
   simp at hi
   subst hi
   have e:dsAt (pre++o::l) (pre.length+0)=pre.foldl (fun ds o=>consD o.dst ds) []:=by unfold dsAt;simp
   rw[e]
   exact⟨g,f,rfl,h1,h2,h3⟩
  |succ i=>
   obtain⟨g',f',q1,q2,q3,q4⟩:=k2 i x (by simpa using hi)
   have e:dsAt (pre++[o]++l) ((pre++[o]).length+i)=dsAt (pre++o::l) (pre.length+(i+1)):=by
    rw[List.append_assoc]
    simp only[List.length_append,List.length_cons,List.length_nil,List.singleton_append]
    congr 1
    omega
   rw[e]at q2 q3 q4
   exact⟨g',f',by simpa using q1,q2,q3,q4⟩
theorem dsAt_succ {l:List Oper}{i:Nat}{o:Oper}(h:l[i]?=some o):dsAt l (i+1)=consD o.dst (dsAt l i):=by
 unfold dsAt
 rw[List.take_succ_eq_append_getElem (List.getElem?_eq_some_iff.1 h).1,List.foldl_append,(List.getElem?_eq_some_iff.1 h).2]
 rfl
/-- All that is known before an order is drawn. -/
structure Pre (E:Env)(glob N:Nat)(ops:Array Oper)(call round:CallT)(cops:List COp)(x:Tra)(m:Nat):Prop where
 comp: ∀i o,ops[i]?=some o→ ∃g f,cops[i]?=some ⟨g,o.dst,keepD o.dst glob,f⟩∧compG ops.toList (dsAt ops.toList i) o.guard=some g∧newD o.dst N (dsAt ops.toList i)=true∧compOp E (dsAt ops.toList i) o.op= .mk f
 len:m≤ops.size
 tra:TraOK call round (cops.take m) x
 rh0:x.Rh 0=[]
 draw:drawOk ops.toList (Region.before ops).toList=true
 apart:apartM (x.Nx 0) ((List.range m).map x.log) (Region.before ops).toList=true
variable (H:Pre E glob N ops call round cops x m)
include H
theorem Pre.op {i:Nat}(hi:i<m): ∃o g f,ops[i]?=some o∧compG ops.toList (dsAt ops.toList i) o.guard=some g∧newD o.dst N (dsAt ops.toList i)=true∧compOp E (dsAt ops.toList i) o.op= .mk f∧
  TrAt (wantG g (x.Rh i) (f call round (x.Rh i) (x.Tm i))) (x.Mm i) (x.Nx i) (x.V i) (x.Mm (i+1)) (x.Nx (i+1)) (x.Rd i) (x.Wr i) (x.lr i) (x.lw i)∧
  x.Rh (i+1)=pushV o.dst (x.V i) (x.Rh i)∧x.Tm (i+1)=keepT o.dst (keepD o.dst glob) (x.V i) (x.Tm i):=by
 have hi':i<ops.size:=Nat.lt_of_lt_of_le hi H.len
 obtain⟨g,f,h1,h2,h3,h4⟩:=H.comp i ops[i] (Array.getElem?_eq_getElem hi')
 obtain⟨k1,k2,k3⟩:=H.tra.at' i _ (by rw[List.getElem?_take,if_pos hi];exact h1)
 exact⟨ops[i],g,f,Array.getElem?_eq_getElem hi',h2,h3,h4,k1,k2,k3⟩
theorem Pre.nx1 {i:Nat}(hi:i<m):x.Nx i≤x.Nx (i+1):=let ⟨_,_,_,_,_,_,_,k,_⟩:=H.op hi;k.run.nxt
theorem Pre.nx {i:Nat}: ∀{j:Nat},i≤j→j≤m→x.Nx i≤x.Nx j
 |0,h,_=>by rw[Nat.le_zero.1 h];exact Nat.le_refl _
 |j+1,h,hj=>by
  rcases Nat.lt_or_ge j i with h1|h1
  ·rw[show i=j+1 by omega];exact Nat.le_refl _
  ·exact Nat.le_trans (Pre.nx (j:=j) h1 (by omega)) (H.nx1 (by omega))
theorem Pre.old {i:Nat}(hi:i<m){l:Nat}(h: ¬x.Wr i l):T.get (x.Mm (i+1)) l=T.get (x.Mm i) l:=let ⟨_,_,_,_,_,_,_,k,_⟩:=H.op hi;k.run.old l h
theorem Pre.sep {i j:Nat}(hij:i<j)(hj:j<m)(hb: ¬Bf ops j i):(∀l,¬(x.Wr i l∧(x.Rd j l∨x.Wr j l)))∧(∀l,¬(x.Wr j l∧x.Rd i l)):=by
 obtain⟨_,_,_,_,_,_,_,ki,_⟩:=H.op (i:=i) (by omega)
 obtain⟨_,_,_,_,_,_,_,kj,_⟩:=H.op hj
 have hbl:((Region.before ops).toList).length=ops.size:=befL_size ops
 have hb0:(Region.before ops).toList[j]?=some ((Region.before ops).toList[j]'(by rw[hbl];exact Nat.lt_of_lt_of_le hj H.len)):=List.getElem?_eq_getElem _
 have hbit:((Region.before ops).toList[j]'(by rw[hbl];exact Nat.lt_of_lt_of_le hj H.len)).testBit i=false:=by
  cases h:((Region.before ops).toList[j]'(by rw[hbl];exact Nat.lt_of_lt_of_le hj H.len)).testBit i with
  |false=>rfl
  |true=>exact absurd ⟨_,by rw[←Array.getElem?_toList];exact hb0,h⟩ hb
 have hli:((List.range m).map x.log)[i]?=some (x.log i):=by rw[List.getElem?_map,List.getElem?_range (by omega)];rfl
 have hlj:((List.range m).map x.log)[j]?=some (x.log j):=by rw[List.getElem?_map,List.getElem?_range (by omega)];rfl
 obtain⟨s1,s2⟩:=apartM_spec H.apart hij hli hlj hb0 hbit
 have n1:x.Nx (i+1)≤x.Nx j:=H.nx (by omega) (by omega)
 have n0:x.Nx 0≤x.Nx i:=H.nx (by omega) (by omega)
 constructor
 ·intro l ⟨h1,h2⟩
  have hl:l<x.Nx (i+1):=ki.run.wlt l h1
  have hlog:l∈x.lr j∨l∈x.lw j:=h2.elim (fun e=> .inl (kj.ird l e (by omega))) (fun e=> .inr (kj.iwr l e (by omega)))
  rcases Nat.lt_or_ge l (x.Nx i)with h3|h3
  ·exact(s2 l).1 ⟨ki.iwr l h1 h3,hlog⟩
  ·exact s1 l hlog (by omega) ⟨h3,hl⟩
 ·intro l ⟨h1,h2⟩
  have hl:l<x.Nx (i+1):=ki.run.rlt l h2
  have hlog:l∈x.lw j:=kj.iwr l h1 (by omega)
  rcases Nat.lt_or_ge l (x.Nx i)with h3|h3
  ·exact(s2 l).2 ⟨hlog,ki.ird l h2 h3⟩
  ·exact s1 l (.inr hlog) (by omega) ⟨h3,hl⟩
theorem Pre.edge {j:Nat}{o:Oper}(ho:ops[j]?=some o){e:Edge}(he:e∈o.after)(hb:Region.binds .any e=true):e.on<j:=by
 have h:=H.draw
 unfold drawOk at h
 rw[Bool.and_eq_true,Bool.and_eq_true]at h
 have:=edgesB_spec h.1.2 j o (by rw[Array.getElem?_toList];exact ho) e he hb
 omega
theorem Pre.looks {j i:Nat}{o p:Oper}{d:Nat}(ho:ops[j]?=some o)(hp:ops[i]?=some p)(hd:p.dst=some d)(hl:d∈looksL ops.toList o)(hne:i≠j):Bf ops (max i j) (min i j):=by
 have h:=H.draw
 unfold drawOk at h
 rw[Bool.and_eq_true,Bool.and_eq_true]at h
 have h1:=tmpsB_spec h.2 j o (by rw[Array.getElem?_toList];exact ho)
 rw[Nat.zero_add]at h1
 obtain⟨b,q1,q2⟩:=tmpsJ_spec h1 i p d (by rw[Array.getElem?_toList];exact hp) hd hl (by rw[Nat.zero_add];exact hne)
 rw[Nat.zero_add]at q1 q2
 exact⟨b,by rw[←Array.getElem?_toList];exact q1,q2⟩
theorem Pre.ds {j:Nat}(hj:j≤m):(x.Rh j).length=(dsAt ops.toList j).length∧
  (∀(p d:Nat),(dsAt ops.toList j)[p]?=some d→ ∃(q:Nat) (o:Oper),q<j∧ops[q]?=some o∧o.dst=some d∧(x.Rh j:List Value)[p]?=some (x.V q))∧(∀(q:Nat) o d,q<j→ops[q]?=some o→o.dst=some d→d∈dsAt ops.toList j):=by
 induction j with
 |zero=>exact⟨by rw[H.rh0];rfl,fun p d h=>by simp[dsAt]at h,fun q o d h=>absurd h (Nat.not_lt_zero _)⟩
 |succ j ih=>
  obtain⟨i1,i2,i3⟩:=ih (by omega)
  obtain⟨o,g,f,ho,_,_,_,_,k2,_⟩:=H.op (i:=j) (by omega)
  rw[dsAt_succ (o:=o) (by rw[Array.getElem?_toList];exact ho),k2]
  cases hd:o.dst with
  |none=>
   refine⟨i1,fun p d h=> ?_,fun q o' d hq ho' hd'=> ?_⟩
   ·obtain⟨q,o',a,b⟩:=i2 p d h
    exact⟨q,o',by omega,b⟩
   ·rcases Nat.lt_or_ge q j with h|h
    ·exact i3 q o' d h ho' hd'
    ·rw[show q=j by omega,ho]at ho'
     cases ho'
     rw[hd]at hd'
     cases hd'
  |some d0=>
   refine⟨by simp[pushV,consD,i1],fun p d h=> ?_,fun q o' d hq ho' hd'=> ?_⟩
   ·replace h:(d0::dsAt ops.toList j)[p]?=some d:=h
    cases p with
    |zero=>
     simp at h
     subst h
     exact⟨j,o,by omega,ho,hd,rfl⟩
    |succ p=>
     obtain⟨q,o',a,b1,b2,b3⟩:=i2 p d (by simpa using h)
     exact⟨q,o',by omega,b1,b2,by show(x.V j::x.Rh j)[p+1]?=_;simpa using b3⟩
   ·rcases Nat.lt_or_ge q j with h|h
    ·exact List.mem_cons_of_mem _ (i3 q o' d h ho' hd')
    ·rw[show q=j by omega,ho]at ho'
     cases ho'
     rw[hd]at hd'
     cases hd'
     exact List.mem_cons_self
omit H in
theorem dsAt_mem {l:List Oper}{d:Nat}: ∀{j q:Nat} {o:Oper},j≤l.length→q<j→l[q]?=some o→o.dst=some d→d∈dsAt l j
 |0,q,o,_,hq,_,_=>absurd hq (Nat.not_lt_zero _)
 |j+1,q,o,hj,hq,ho,hd=>by
  have hl:l[j]?=some (l[j]'(by omega)):=List.getElem?_eq_getElem _
  rw[dsAt_succ hl]
  rcases Nat.lt_or_ge q j with h|h
  ·have:=dsAt_mem (j:=j) (by omega) h ho hd
   cases(l[j]'(by omega)).dst with
   |none=>exact this
   |some x=>exact List.mem_cons_of_mem _ this
  ·rw[show q=j by omega,hl]at ho
   cases ho
   rw[hd]
   exact List.mem_cons_self
theorem Pre.dst_ne {q j:Nat}{o p:Oper}{d e:Nat}(hq:q<j)(ho:ops[q]?=some o)(hp:ops[j]?=some p)(hd:o.dst=some d)(he:p.dst=some e):d≠e:=by
 have hj:j<ops.size:=(Array.getElem?_eq_some_iff.1 hp).1
 obtain⟨g,f,_,_,h3,_⟩:=H.comp j p hp
 rw[he]at h3
 intro hx
 subst hx
 exact(newD_some h3).2 (dsAt_mem (by rw[Array.length_toList];omega) hq (by rw[Array.getElem?_toList];exact ho) hd)
theorem Pre.dst_inj {q j:Nat}{o p:Oper}{d:Nat}(ho:ops[q]?=some o)(hp:ops[j]?=some p)(hd:o.dst=some d)(he:p.dst=some d):q=j:=by
 rcases Nat.lt_trichotomy q j with h|h|h
 ·exact absurd rfl (H.dst_ne h ho hp hd he)
 ·exact h
 ·exact absurd rfl (H.dst_ne h hp ho he hd)
theorem Pre.dst_lt {j:Nat}{p:Oper}{d:Nat}(hp:ops[j]?=some p)(hd:p.dst=some d):d<N:=by
 obtain⟨g,f,_,_,h3,_⟩:=H.comp j p hp
 rw[hd]at h3
 exact(newD_some h3).1
theorem Pre.tm {j:Nat}(hj:j≤m){y:Nat}{v:Value}(h:T.get (x.Tm j) y=some v):
  (∃q o,q<j∧ops[q]?=some o∧o.dst=some y∧Nat.testBit glob y=true∧v=x.V q)∨(T.get (x.Tm 0) y=some v∧ ∀q o,q<j→ops[q]?=some o→o.dst=some y→Nat.testBit glob y=false):=by
 induction j with
 |zero=>exact .inr ⟨h,fun q o h=>absurd h (Nat.not_lt_zero _)⟩
 |succ j ih=>
  obtain⟨o,g,f,ho,_,_,_,_,_,k3⟩:=H.op (i:=j) (by omega)
  rw[k3]at h
  have rest:T.get (x.Tm j) y=some v→(o.dst=some y→Nat.testBit glob y=false)→(∃q o,q<j+1∧ops[q]?=some o∧o.dst=some y∧Nat.testBit glob y=true∧v=x.V q)∨(T.get (x.Tm 0) y=some v∧ ∀q o,q<j+1→ops[q]?=some o→o.dst=some y→Nat.testBit glob y=false):=by
   intro h1 h2
   rcases ih (by omega) h1 with⟨q,o',a,b⟩|⟨a,b⟩
   ·exact .inl ⟨q,o',by omega,b⟩
   ·refine .inr ⟨a,fun q o' hq ho' hd'=> ?_⟩
    rcases Nat.lt_or_ge q j with h|h
    ·exact b q o' h ho' hd'
    ·rw[show q=j by omega,ho]at ho'
     cases ho'
     exact h2 hd'
  cases hd:o.dst with
  |none=>
   rw[hd]at h rest
   exact rest h (fun e=>by cases e)
  |some d=>
   rw[hd]at h rest
   unfold keepT at h
   cases hk:keepD (some d) glob with
   |false=>
    rw[hk]at h
    exact rest h (fun e=>by cases e;exact hk)
   |true=>
    rw[hk]at h
    simp only[T.get_set]at h
    split at h
    ·rename_i hy
     cases h
     subst hy
     exact .inl ⟨j,o,by omega,ho,hd,hk,rfl⟩
    ·rename_i hy
     exact rest h (fun e=>by cases e;exact absurd rfl hy)
end
/-! ### Memory behind some of them -/
open Classical in
noncomputable def memD (x:Tra)(D:Nat→Bool):Nat→Nat→Option Cell
 |0,l=>T.get (x.Mm 0) l
 |k+1,l=>if D k=true∧x.Wr k l then T.get (x.Mm (k+1)) l else memD x D k l
theorem memD_yes {x:Tra}{D:Nat→Bool}{k l:Nat}(h:D k=true)(h':x.Wr k l):memD x D (k+1) l=T.get (x.Mm (k+1)) l:=if_pos ⟨h,h'⟩
theorem memD_no {x:Tra}{D:Nat→Bool}{k l:Nat}(h: ¬(D k=true∧x.Wr k l)):memD x D (k+1) l=memD x D k l:=if_neg h
section
variable {E:Env}{glob N:Nat}{ops:Array Oper}{call round:CallT}{cops:List COp}{x:Tra}{m:Nat}(H:Pre E glob N ops call round cops x m)
include H
theorem memD_low {D:Nat→Bool}{l:Nat}: ∀{j:Nat},j≤m→(∀i,i<j→x.Wr i l→D i=true)→memD x D j l=T.get (x.Mm j) l
 |0,_,_=>rfl
 |j+1,hj,h=>by
  by_cases hw:x.Wr j l
  ·exact memD_yes (h j (by omega) hw) hw
  ·rw[memD_no (fun e=>hw e.2),H.old (by omega) hw]
   exact memD_low (by omega) fun i hi=>h i (by omega)
omit H in
theorem memD_high {D:Nat→Bool}{l j:Nat}: ∀{m:Nat},j≤m→(∀i,j≤i→i<m→D i=true→ ¬x.Wr i l)→memD x D m l=memD x D j l
 |0,hm,_=>by rw[Nat.le_zero.1 hm]
 |m+1,hm,h=>by
  rcases Nat.lt_or_ge m j with h1|h1
  ·rw[show j=m+1 by omega]
  ·rw[memD_no (fun e=>h m h1 (by omega) e.1 e.2)]
   exact memD_high h1 fun i a b=>h i a (by omega)
omit H in
theorem memD_add {D D':Nat→Bool}{j l:Nat}(hD:D j=false)(hD':D' j=true)(hne: ∀i,i≠j→D' i=D i): ∀{m:Nat},j<m→(∀i,j<i→i<m→D i=true→ ¬(x.Wr i l∧x.Wr j l))→
  (x.Wr j l→memD x D' m l=T.get (x.Mm (j+1)) l)∧(¬x.Wr j l→memD x D' m l=memD x D m l)
 |0,hm,_=>absurd hm (Nat.not_lt_zero _)
 |m+1,hm,h=>by
  have low: ∀{k:Nat},k≤j→memD x D' k l=memD x D k l:=by
   intro k
   induction k with
   |zero=>exact fun _=>rfl
   |succ k ih=>
    intro hk
    have hk':D' k=D k:=hne k (by omega)
    by_cases hw:D k=true∧x.Wr k l
    ·rw[memD_yes hw.1 hw.2,memD_yes (by rw[hk'];exact hw.1) hw.2]
    ·rw[memD_no hw,memD_no (by rw[hk'];exact hw),ih (by omega)]
  by_cases e:m=j
  ·subst e
   constructor
   ·intro hw;exact memD_yes hD' hw
   ·intro hw
    rw[memD_no (fun e=>hw e.2),memD_no (fun e=>hw e.2),low (Nat.le_refl _)]
  ·obtain⟨i1,i2⟩:=memD_add hD hD' hne (m:=m) (by omega) fun i a b=>h i a (by omega)
   have hm':D' m=D m:=hne m e
   constructor
   ·intro hw
    rw[memD_no (fun q=>h m (by omega) (by omega) (by rw[←hm'];exact q.1) ⟨q.2,hw⟩)]
    exact i1 hw
   ·intro hw
    by_cases q:D m=true∧x.Wr m l
    ·rw[memD_yes q.1 q.2,memD_yes (by rw[hm'];exact q.1) q.2]
    ·rw[memD_no q,memD_no (by rw[hm'];exact q)]
     exact i2 hw
end
end Go.Proofs.YtapojfiplajfaaaGreatDoor.Am
