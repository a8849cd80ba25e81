import Derived.Test.YtofanlcjeohcjaaIMg03
import Derived.Recover
namespace Go.Proofs.Ytofanlcjeohcjaa.Am
open Go.RowKit
section
variable {E:Env}{ds:List Nat}{o:Oper}
theorem AiF_ {x:Operand}(ho:o.op= .move x):OpV E o (E2 ds x) ds:=Nb_ (by simp[ho,Op.operands]) λa=>by simp only[execOp,ho]
theorem Sf_ {x:Operand}(ho:o.op= .assign x):OpV E o (E2 ds x) ds:=Nb_ (by simp[ho,Op.operands]) λa=>by simp only[execOp,ho]
theorem Abe_ {e:Nat}(ho:o.op= .alloc e)(he:EnvTy E):OpV E o (.mk λ_ _ _ _=>AI E e) ds:=by
 refine⟨_,rfl,λ_ _ _ _=>Adx_ _ _, ?_⟩
 intro call round w0 w r U rho tm a s v s' hs hu hr h hf
 exact(ST_ he h hr hf).val (by simp only[execOp,ho];rfl)
theorem Ach_ {e:Nat}{x:Operand}(ho:o.op= .box e x):OpV E o (Bd ds x kBox) ds:=
 D0 (m:=Instr.box e) (by simp[ho,Op.operands]) (λa=>by simp only[execOp,ho];rfl) AbM_ λh hr hf hx=>QJ_ h hr hf hx
theorem AfV_ {t:Nat}{ps:Array (Nat×Operand)}(ho:o.op= .build t ps)(he:EnvTy E):OpV E o (Fg ds ps.toList (Bj E t)) ds:=
 GF_ (m:=λl=>Instr.build t l.toArray) (by simp[ho,Op.operands]) (λa=>by simp only[execOp,ho];rw[<-List.map_toArray];rfl) (UM_ _ _) λh hr hf hx=>Agy_ he h hr (by simpa using hx)
theorem Ajx_ {t n:Nat}{ps:Array (Nat×Operand)}(ho:o.op= .buildSlice t n ps)(he:EnvTy E):OpV E o (Fg ds ps.toList (AU E t n)) ds:=
 GF_ (m:=λl=>Instr.buildSlice t n l.toArray) (by simp[ho,Op.operands]) (λa=>by simp only[execOp,ho];rw[<-List.map_toArray];rfl) (AiT_ _ _ _) λh hr hf hx=>NN_ he h hr hf (by simpa using hx)
theorem Tx_ {t:Nat}{x:Operand}(ho:o.op= .load t x)(he:EnvTy E):OpV E o (Bd ds x (A5 E t)) ds:=
 D0 (m:=Instr.loadAt t) (by simp[ho,Op.operands]) (λa=>by simp only[execOp,ho];rfl) (AdI_ _ _) λh hr hf hx=>OJ_ he h hr hx
theorem Px_ {t:Nat}{x y:Operand}(ho:o.op= .store t x y)(he:EnvTy E):OpV E o (CE ds x y (Ao E t)) ds:=by
 obtain⟨g,h1,h2⟩:=Bh ds x
 obtain⟨g',h3,h4⟩:=Bh ds y
 refine⟨_,by unfold CE;rw[h1,h3],λ_ _ rho tm=>Dp (g:=g rho tm) (f:=λa s=>Option.rec (motive:=λ_=>R Value) .none (λb=>Ao E t a b s) (g' rho tm)) λa=>Dp (Ahw_ _ _ a), ?_⟩
 intro call round w0 w r U rho tm a s v s' hs hu hr h hf
 obtain⟨y,e1,e2⟩:=Dw (f:=λa s=>Option.rec (motive:=λ_=>R Value) .none (λb=>Ao E t a b s) (g' rho tm)) h
 obtain⟨z,e3,e4⟩:=Dw e2
 obtain⟨rfl,w',k1,k2,k3,k4,k5⟩:=AaU_ he e4 hr (h2 _ _ _ _ _ _ hs (λt q=>hu t (by simp[ho,Op.operands]at q ⊢;simp[q])) e1) (h4 _ _ _ _ _ _ hs (λt q=>hu t (by simp[ho,Op.operands]at q ⊢;simp[q])) e3)
 refine⟨undef,w',r, .inr ⟨?_,rfl⟩, .of_rel k3 k2, .tuple rfl (λi v v' e=>by simp at e),k4,k5⟩
 simp[execOp,ho,k1]
theorem AhZ_ {x:Operand}(ho:o.op= .nilCheck x):OpV E o (Bd ds x kNil) ds:=by
 obtain⟨g,h1,h2⟩:=Bh ds x
 refine⟨_,by unfold Bd;rw[h1],λ_ _ rho tm=>Dp (g:=g rho tm) Alh_, ?_⟩
 intro call round w0 w r U rho tm a s v s' hs hu hr h hf
 obtain⟨y,e1,e2⟩:=Dw h
 have hx:=h2 _ _ _ _ _ _ hs (λt q=>hu t (by simp[ho,Op.operands]at q ⊢;simp[q])) e1
 obtain⟨rfl,rfl,e3⟩:=TS_ (P:=E.P) (w:=w) (a:=a) ho rfl e2 hx
 exact⟨_,w,r, .inl e3, .of_rel rfl hr,hx,rfl,rfl⟩
theorem Amr_ {op:BinOp}{t yt:Nat}{x y:Operand}(ho:o.op= .binOp op t x y yt)(he:EnvTy E):OpV E o (Cl.rec (motive:=λ_=>Cl OpT) (λf=>CE ds x y f) (aBin E op t x y)) ds:=by
 generalize hc:aBin E op t x y=c
 obtain⟨f⟩:=c
 refine Kg (m:=λy' z'=>do eqGuard op t x y y' z';binOp op t y' z') (by simp[ho,Op.operands]) (λa=>by simp only[execOp,ho];rfl) (λy' z'=> ?_) λh hr hf hx hy=>Ags_ hc he h hr hx hy
 have slow: ∀op,NoPan (AD E op t x y y' z'):=λop=>Agf_ _ _ _ _ _ _ _
 have fast3: ∀(k:Co) op,NoPan (int3 k (AD E op t x y) y' z'):=λk op=>⟨λs c s' e=>by
  unfold int3 Cy at e
  cases y'<;>simp only at e
  case int k1 a=>
   cases z'<;>simp only at e
   case int k2 b=>
    cases a with
    |negSucc m=>exact(slow op).no _ _ _ e
    |ofNat m=>
     cases b with
     |negSucc m=>exact(slow op).no _ _ _ e
     |ofNat n=>
      simp only at e
      cases e1:k k1 k2 m n with
      |none=>rw[e1]at e;exact(slow op).no _ _ _ e
      |some u=>rw[e1]at e;cases e
   all_goals exact(slow op).no _ _ _ e
  all_goals exact(slow op).no _ _ _ e⟩
 have fast2: ∀(k:Int->Int->St->R Value) (k3:Co) op,(∀a b,NoPan (k a b))->NoPan (int2 k (int3 k3 (AD E op t x y)) y' z'):=λk k3 op hk=>⟨λs c s' e=>by
  have f3:=fast3 k3 op
  unfold int2 Cy at e
  cases y'<;>simp only at e
  case int k1 a=>
   cases z'<;>simp only at e
   case int k2 b=>
    cases e1:DP k1 with
    |false=>rw[e1]at e;exact f3.no _ _ _ e
    |true=>
     cases e2:DP k2 with
     |false=>rw[e1,e2]at e;exact f3.no _ _ _ e
     |true=>rw[e1,e2]at e;exact(hk a b).no _ _ _ e
   all_goals exact f3.no _ _ _ e
  all_goals exact f3.no _ _ _ e⟩
 have rI': ∀n,NoPan (rI n):=λn=>⟨λs c s' e=>by unfold rI at e;rw[EI]at e;cases e⟩
 have rB': ∀b,NoPan (rB b):=λb=>⟨λs c s' e=>by cases b<;>cases e⟩
 cases op<;>cases hc<;>first|exact slow _|exact fast3 _ _|exact fast2 _ _ _ λa b=>rI' _|exact fast2 _ _ _ λa b=>rB' _
theorem PP_ {op:UnOp}{t:Nat}{x:Operand}(ho:o.op= .unOp op t x):OpV E o (Bd ds x (kUn E.P op)) ds:=
 D0 (m:=Op.unary op) (by simp[ho,Op.operands]) (λa=>by simp only[execOp,ho];rfl) (Acc_ _ _) λh hr hf hx=>Aey_ h hr hx
theorem Adp_ {s d:Nat}{x:Operand}(ho:o.op= .convert s d x)(he:EnvTy E):OpV E o (Bd ds x (BZ E s d)) ds:=
 D0 (m:=convert s d) (by simp[ho,Op.operands]) (λa=>by simp only[execOp,ho];rfl) (TQ_ _ _ _) λh hr hf hx=>AbH_ he h hr hf hx
theorem Vs_ {t:Nat}{x:Operand}(ho:o.op= .sliceToArrayPointer t x)(he:EnvTy E):OpV E o (Bd ds x (Dd E t)) ds:=
 D0 (m:=Instr.arrayAt t) (by simp[ho,Op.operands]) (λa=>by simp only[execOp,ho];rfl) (Yh_ _ _) λh hr hf hx=>AiR_ he h hr hx
theorem Vk_ {t:Nat}{x:Operand}(ho:o.op= .makeInterface t x)(he:EnvTy E):OpV E o (Bd ds x (FK E t)) ds:=
 D0 (m:=Instr.makeInterface t) (by simp[ho,Op.operands]) (λa=>by simp only[execOp,ho];rfl) (XF_ _ _) λh hr hf hx=>Ahl_ he h hr hx
theorem AiL_ {t:Nat}{x y:Operand}(ho:o.op= .makeSlice t x y)(he:EnvTy E):OpV E o (CE ds x y (Ee E t)) ds:=
 Kg (m:=Instr.makeSlice t) (by simp[ho,Op.operands]) (λa=>by simp only[execOp,ho];rfl) (Tb_ _ _) λh hr hf hx hy=>AhA_ he h hr hf hx hy
theorem Abu_ {t f:Nat}{x:Operand}(ho:o.op= .fieldAddr t x f)(he:EnvTy E):OpV E o (Bd ds x λa=>kFld E t a f) ds:=
 D0 (m:=λx=>Instr.fieldAt t x f) (by simp[ho,Op.operands]) (λa=>by simp only[execOp,ho];rfl) (λy=>OB_ _ _ y _) λh hr hf hx=>AiJ_ he h hr hx
theorem Aih_ {t f:Nat}{x:Operand}(ho:o.op= .field t x f)(he:EnvTy E):OpV E o (Bd ds x λa=>FQ E t a f) ds:=
 D0 (m:=λx=>Instr.field t x f) (by simp[ho,Op.operands]) (λa=>by simp only[execOp,ho];rfl) (λy=>Alf_ _ _ y _) λh hr hf hx=>QK_ he h hr hx
theorem Zm_ {t:Nat}{x y:Operand}(ho:o.op= .indexAddr t x y)(he:EnvTy E):OpV E o (CE ds x y (BE E t)) ds:=
 Kg (m:=Instr.indexAt t) (by simp[ho,Op.operands]) (λa=>by simp only[execOp,ho];rfl) (Ahm_ _ _) λh hr hf hx hy=>AkV_ he h hr hx hy
theorem AbJ_ {t:Nat}{x y:Operand}(ho:o.op= .index t x y)(he:EnvTy E):OpV E o (CE ds x y (kIdx E t)) ds:=
 Kg (m:=Instr.index t) (by simp[ho,Op.operands]) (λa=>by simp only[execOp,ho];rfl) (AkG_ _ _) λh hr hf hx hy=>SX_ he h hr hx hy
theorem AhR_ {k:Nat}{x:Operand}(ho:o.op= .extract x k):OpV E o (Bd ds x (kExt k)) ds:=
 D0 (m:=λx=>Instr.extract x k) (by simp[ho,Op.operands]) (λa=>by simp only[execOp,ho];rfl) (Aeb_ _) λh hr hf hx=>Abt_ h hr hx
theorem AfE_ {xt t:Nat}{c:Bool}{x:Operand}(ho:o.op= .typeAssert x xt t c)(he:EnvTy E):OpV E o (Bd ds x (F9 E t c)) ds:=
 D0 (m:=λx=>Instr.typeAssert x xt t c) (by simp[ho,Op.operands]) (λa=>by simp only[execOp,ho];rfl) (AfT_ _ _ _) λh hr hf hx=>AdE_ he h hr hx
end
section
variable {E:Env}{ds:List Nat}{o:Oper}
theorem Ajy_ {x y z:Operand}(ho:o.op= .pick x y z):OpV E o (HZ ds x y z A3) ds:=by
 obtain⟨g,h1,h2⟩:=Bh ds x
 obtain⟨g',h3,h4⟩:=Bh ds y
 obtain⟨g2,h5,h6⟩:=Bh ds z
 refine⟨_,by unfold HZ;rw[h1,h3,h5],λ_ _ rho tm=>BK _ λa=>BK _ λb=>BK _ λc=>AjY_ _ _ _, ?_⟩
 intro call round w0 w r U rho tm a s v s' hs hu hr h hf
 obtain⟨x',e1,h⟩:=B2 h
 obtain⟨y',e2,h⟩:=B2 h
 obtain⟨z',e3,h⟩:=B2 h
 obtain⟨rfl,t,k1,k2⟩:=Qz_ h (h2 _ _ _ _ _ _ hs (λt q=>hu t (by simp[ho,Op.operands]at q ⊢;simp[q])) e1) (h4 _ _ _ _ _ _ hs (λt q=>hu t (by simp[ho,Op.operands]at q ⊢;simp[q])) e2) (h6 _ _ _ _ _ _ hs (λt q=>hu t (by simp[ho,Op.operands]at q ⊢;simp[q])) e3)
 refine⟨_,w,r, .inl ?_, .of_rel rfl hr,k2,rfl,rfl⟩
 simp only[execOp,ho,k1]
 cases t<;>simp[asBool]
theorem WB_ {t:Nat}{x:Operand}{lo hi mx:Option Operand}(ho:o.op= .slice t x lo hi mx)(he:EnvTy E):OpV E o (H0 E ds t x lo hi mx) ds:=by
 cases mx with
 |some m=>
  exact⟨_,rfl,λ_ _ _ _=>AB,λcall round w0 w r U rho tm a s v s' hs hu hr h hf=>by cases h⟩
 |none=>
  obtain⟨g,h1,h2⟩:=Bh ds x
  obtain⟨g',h3,h4⟩:=Ku ds lo
  obtain⟨g2,h5,h6⟩:=Ku ds hi
  refine⟨λ_ _ rho tm=>M.on (g rho tm) λa=>M.on (g' rho tm) λb=>M.on (g2 rho tm) λc=>AW E t a b c,by unfold H0 MR;simp only[h1,h3,h5],λ_ _ rho tm=>BK _ λa=>BK _ λb=>BK _ λc=>Rp_ _ _ _ _ _, ?_⟩
  intro call round w0 w r U rho tm a s v s' hs hu hr h hf
  obtain⟨x',e1,h⟩:=B2 h
  obtain⟨y',e2,h⟩:=B2 h
  obtain⟨z',e3,h⟩:=B2 h
  exact(YD_ he h hr (h2 _ _ _ _ _ _ hs (λt q=>hu t (by simp[ho,Op.operands]at q ⊢;simp[q])) e1) (h4 _ _ _ _ _ _ hs (λt q=>hu t (by simp[ho,Op.operands]at q ⊢;simp[q])) e2) (h6 _ _ _ _ _ _ hs (λt q=>hu t (by simp[ho,Op.operands]at q ⊢;simp[q])) e3)).val (by simp only[execOp,ho];rfl)
theorem LC_ {α β:Type}(f:α->β)(a:Array α):a.map f=(a.toList.map f).toArray:=by rw[<-List.map_toArray]
theorem VRs.func {r:Inj}{f:Nat}{a a' c c':List Value}(h:VRs r a a')(k:VRs r c c'):VR r (.func (.func f) a.toArray c.toArray) (.func (.func f) a'.toArray c'.toArray):=
 .func rfl (by simpa using h.1) (λi v v' e e'=>h.2 i v v' (by simpa using e) (by simpa using e')) (by simpa using k.1) (λi v v' e e'=>k.2 i v v' (by simpa using e) (by simpa using e'))
theorem Afv_ {f:Nat}{first cap:Array Operand}(ho:o.op= .makeFunc (.func f) first cap):OpV E o (HQ ds first.toList cap.toList λx c=>M.pure (.func (.func f) x.toArray c.toArray)) ds:=by
 obtain⟨g,h1,h2⟩:=EJ ds first.toList
 obtain⟨g',h3,h4⟩:=EJ ds cap.toList
 refine⟨_,by unfold HQ;rw[h1,h3],λ_ _ rho tm=>Dp (g:=g rho tm) (f:=λ(a:List Value) s=>Option.rec (motive:=λ_=>R Value) .none (λ(b:List Value)=>M.pure (Value.func (.func f) a.toArray b.toArray) s) (g' rho tm)) λa=>Dp (f:=λ(b:List Value)=>M.pure (Value.func (.func f) a.toArray b.toArray)) λb=>Aq _, ?_⟩
 intro call round w0 w r U rho tm a s v s' hs hu hr h hf
 obtain⟨x',e1,h⟩:=Dw (f:=λ(a:List Value) s=>Option.rec (motive:=λ_=>R Value) .none (λ(b:List Value)=>M.pure (Value.func (.func f) a.toArray b.toArray) s) (g' rho tm)) h
 obtain⟨y',e2,h⟩:=Dw (f:=λ(b:List Value)=>M.pure (Value.func (.func f) x'.toArray b.toArray)) h
 obtain⟨rfl,rfl⟩:=Ae h
 refine⟨_,w,r, .inl ?_, .of_rel rfl hr,(h2 _ _ _ _ _ _ hs (λt q=>hu t (by simp[ho,Op.operands]at q ⊢;simp[q])) e1).func (h4 _ _ _ _ _ _ hs (λt q=>hu t (by simp[ho,Op.operands]at q ⊢;simp[q])) e2),rfl,rfl⟩
 simp[execOp,ho,Instr.makeFunc]
 exact⟨LC_ _ _,LC_ _ _⟩
theorem Xn_ {b:Builtin}{c:Call}(ho:o.op= .call c)(hb:c.callee= .builtin b)(hn:b≠ .recover)(he:EnvTy E):OpV E o (G8 ds c.args.toList (AS E b c.argTypes.toList)) ds:=by
 obtain⟨g,h1,h2⟩:=EJ ds c.args.toList
 refine⟨_,by unfold G8;rw[h1],λ_ _ rho tm=>Dp (g:=g rho tm) (QS_ _ _ _), ?_⟩
 intro call round w0 w r U rho tm a s v s' hs hu hr h hf
 obtain⟨l,e1,h⟩:=Dw h
 have hl:VRs r l (c.args.toList.map a.eval):=h2 _ _ _ _ _ _ hs (λt q=>hu t (by simp[ho,Op.operands,Call.operands]at q ⊢;simp[q])) e1
 have key: ∀{m:Sem Value},Yields E w0 r s s' v w m->(∀(cs:Array Bool) w,(builtin b c.argTypes o.type cs (c.args.map a.eval)).run E.P w=(CX m).run E.P w)->
   ∃v' w' r',((execOp a.eval o).run E.P w= .ok (.value v') w'\/((execOp a.eval o).run E.P w= .ok .skip w'/\v'=undef))/\Goes w0 r s s' r' w'/\VR r' v v'/\s'.lim=s.lim/\s'.cx=s.cx:=by
  intro m hy hm
  obtain⟨v',w',r',k1,k2,k3,k4,k5⟩:=hy
  refine⟨v',w',r', .inl ?_,k2,k3,k4,k5⟩
  simp only[execOp,ho,resolve,hb,invoke,Sem.run_bind,Sem.run_pure,Result.andThen_ok,hm,CX,k1]
 generalize hts:c.argTypes.toList=ts at h
 have hmap:c.args.map a.eval=(c.args.toList.map a.eval).toArray:=by rw[<-List.map_toArray]
 have ht0: ∀{t:Nat} {l:List Nat},c.argTypes.toList=t::l->c.argTypes[0]?=some t:=by
  intro t l e;rw[<-Array.getElem?_toList,e];rfl
 have ht1: ∀{t t2:Nat} {l:List Nat},c.argTypes.toList=t::t2::l->c.argTypes[1]?=some t2:=by
  intro t t2 l e;rw[<-Array.getElem?_toList,e];rfl
 unfold AS at h
 split at h
 ·rename_i t ts' x
  obtain⟨x',l',q1,q2,q3⟩:=hl.inv
  have:=q3.inv_nil
  subst this
  refine key (WF_ (ty:=o.type) (ht0 hts) he h hr q2) λcs w=> ?_
  rw[hmap,q1];simp[builtin,CX]
 ·rename_i t ts' x
  obtain⟨x',l',q1,q2,q3⟩:=hl.inv
  have:=q3.inv_nil
  subst this
  refine key (Aib_ (ty:=o.type) (ht0 hts) he h hr q2) λcs w=> ?_
  rw[hmap,q1];simp[builtin,CX]
 ·obtain⟨y',l1,q1,q2,q3⟩:=hl.inv
  obtain⟨x',l',q4,q5,q6⟩:=q3.inv
  have:=q6.inv_nil
  subst this
  subst q4
  refine key (ZD_ (ty:=o.type) (ht0 hts) (ht1 hts) he h hr hf q2 q5) λcs w=> ?_
  rw[hmap,q1];simp[builtin,CX]
 ·obtain⟨y',l1,q1,q2,q3⟩:=hl.inv
  obtain⟨x',l',q4,q5,q6⟩:=q3.inv
  have:=q6.inv_nil
  subst this
  subst q4
  refine key (AfJ_ (ty:=o.type) (ht0 hts) he h hr q2 q5) λcs w=> ?_
  rw[hmap,q1];simp[builtin,CX]
 ·refine key (Alz_ (ts:=c.argTypes) (ty:=o.type) h hr hl) λcs w=> ?_
  rw[hmap];simp[builtin,CX]
 ·refine key (Yz_ (ts:=c.argTypes) (ty:=o.type) h hr hl) λcs w=> ?_
  rw[hmap];simp[builtin,CX]
 ·cases h
end
abbrev Out (α:Type):Type:=Sum α (List PanicEntry)
def rOf {α:Type}(o:Out α)(s:St):R α:=
 match o with
 | .inl a=> .some a s
 | .inr c=> .pan c s
def Bnd (s:St):Prop:=s.lim<=s.next
structure LocG {α:Type}(m:M α)(s:St)(o:Out α)(s':St)(Rd Wr:Nat->Prop)(dr dw:List Nat):Prop where
 rd:s'.rd=dr++s.rd
 wr:s'.wr=dw++s.wr
 nxt:s.next<=s'.next
 lim:s'.lim=s.lim
 bnd:Bnd s'
 rlt: ∀l,Rd l->l<s'.next
 wlt: ∀l,Wr l->l<s'.next
 old: ∀l,¬Wr l->T.get s'.mem l=T.get s.mem l
 any: ∀t:St,t.next=s.next->t.lim=s.lim->t.cx=s.cx->(∀l,Rd l\/Wr l->T.get t.mem l=T.get s.mem l)->
  ∃t',m t=rOf o t'/\t'.next=s'.next/\t'.lim=s'.lim/\t'.cx=s'.cx/\t'.rd=dr++t.rd/\t'.wr=dw++t.wr/\
   (∀l,Wr l->T.get t'.mem l=T.get s'.mem l)/\(∀l,¬Wr l->T.get t'.mem l=T.get t.mem l)
def CR {α:Type}(m:M α)(s:St)(o:Out α)(s':St):Prop:=
 ∃Rd Wr dr dw,LocG m s o s' Rd Wr dr dw/\(∀l,Rd l->l<s.lim->l∈dr)/\(∀l,Wr l->l<s.lim->l∈dw)
structure Loc {α:Type}(m:M α):Prop where
 at': ∀s o s',m s=rOf o s'->Bnd s->CR m s o s'
theorem LocG.seq {α β:Type}{m:M α}{n C:M β}{s s1 s':St}{o1:Out α}{o:Out β}{R1 W1 R2 W2:Nat->Prop}{r1 w1 r2 w2:List Nat}
  (h:LocG m s o1 s1 R1 W1 r1 w1) (k:LocG n s1 o s' R2 W2 r2 w2) (hC: ∀t t1,m t=rOf o1 t1->C t=n t1):LocG C s o s' (λl=>R1 l\/R2 l) (λl=>W1 l\/W2 l) (r2++r1) (w2++w1) where
 rd:=by rw[k.rd,h.rd,List.append_assoc]
 wr:=by rw[k.wr,h.wr,List.append_assoc]
 nxt:=Nat.le_trans h.nxt k.nxt
 lim:=k.lim.trans h.lim
 bnd:=k.bnd
 rlt:=λl e=>e.elim (λe=>Nat.lt_of_lt_of_le (h.rlt l e) k.nxt) (k.rlt l)
 wlt:=λl e=>e.elim (λe=>Nat.lt_of_lt_of_le (h.wlt l e) k.nxt) (k.wlt l)
 old:=λl e=>(k.old l λx=>e (.inr x)).trans (h.old l λx=>e (.inl x))
 any:=λt e1 e2 e3 e4=>by
  obtain⟨t1,q1,q2,q3,q4,q5,q6,q7,q8⟩:=h.any t e1 e2 e3 λl e=>e4 l (e.elim (λe=> .inl (.inl e)) (λe=> .inr (.inl e)))
  obtain⟨t2,p1,p2,p3,p4,p5,p6,p7,p8⟩:=k.any t1 q2 q3 q4 (λl e=>by
   by_cases hw:W1 l
   ·exact q7 l hw
   ·rw[q8 l hw,h.old l hw]
    exact e4 l (e.elim (λe=> .inl (.inr e)) (λe=> .inr (.inr e))))
  refine⟨t2,(hC t t1 q1).trans p1,p2,p3,p4,by rw[p5,q5,List.append_assoc],by rw[p6,q6,List.append_assoc],λl e=> ?_,λl e=>(p8 l λx=>e (.inr x)).trans (q8 l λx=>e (.inl x))⟩
  by_cases hw:W2 l
  ·exact p7 l hw
  ·rw[p8 l hw,k.old l hw]
   exact e.elim (q7 l) (λx=>absurd x hw)
theorem CR.bnd {α:Type}{m:M α}{s s':St}{o:Out α}(h:CR m s o s'):Bnd s':=let ⟨_,_,_,_,e,_⟩:=h;e.bnd
theorem CR.lim {α:Type}{m:M α}{s s':St}{o:Out α}(h:CR m s o s'):s'.lim=s.lim:=let ⟨_,_,_,_,e,_⟩:=h;e.lim
theorem CR.next {α:Type}{m:M α}{s s':St}{o:Out α}(h:CR m s o s'):s.next<=s'.next:=let ⟨_,_,_,_,e,_⟩:=h;e.nxt
theorem CR.seq {α β:Type}{m:M α}{n C:M β}{s s1 s':St}{o1:Out α}{o:Out β}(h:CR m s o1 s1)(k:CR n s1 o s')(hC: ∀t t1,m t=rOf o1 t1->C t=n t1):CR C s o s':=by
 obtain⟨R1,W1,r1,w1,h1,h2,h3⟩:=h
 obtain⟨R2,W2,r2,w2,k1,k2,k3⟩:=k
 refine⟨_,_,_,_,h1.seq k1 hC,λl e x=> ?_,λl e x=> ?_⟩
 ·exact e.elim (λe=>List.mem_append_right _ (h2 l e x)) (λe=>List.mem_append_left _ (k2 l e (by rw[h1.lim];exact x)))
 ·exact e.elim (λe=>List.mem_append_right _ (h3 l e x)) (λe=>List.mem_append_left _ (k3 l e (by rw[h1.lim];exact x)))
theorem A0 {α:Type}{o:Out α}{a:α}{s s':St}(h:R.some a s=rOf o s'):o= .inl a/\s'=s:=by cases o<;>cases h;exact⟨rfl,rfl⟩
theorem Ik {α:Type}{o:Out α}{c:List PanicEntry}{s s':St}(h:R.pan c s=rOf o s'):o= .inr c/\s'=s:=by cases o<;>cases h;exact⟨rfl,rfl⟩
theorem AA {α:Type}{o:Out α}{s':St}(h:R.none=rOf o s'):False:=by cases o<;>cases h
theorem CR.quiet {α:Type}{m:M α}{s:St}{o:Out α}(hb:Bnd s)(h: ∀t:St,t.cx=s.cx->m t=rOf o t):CR m s o s:=
 ⟨λ_=>False,λ_=>False,[],[],⟨rfl,rfl,Nat.le_refl _,rfl,hb,λ_ e=>e.elim,λ_ e=>e.elim,λ_ _=>rfl,
  λt e1 e2 e3 _=>⟨t,h t e3,e1,e2,e3,rfl,rfl,λ_ e=>e.elim,λ_ _=>rfl⟩⟩,λ_ e=>e.elim,λ_ e=>e.elim⟩
theorem Af {α:Type}(a:α):Loc (M.pure a):=⟨λs o s' h hb=>by
 obtain⟨rfl,rfl⟩:=A0 h
 exact .quiet hb λt _=>rfl⟩
theorem Ai {α:Type}:Loc (aA:M α):=⟨λs o s' h hb=>(AA h).elim⟩
theorem Fh {α:Type}(x:Option α):Loc (M.ofOpt x):=by
 cases x with
 |none=>exact Ai
 |some a=>exact Af a
theorem Hi {α β:Type}{m:M α}{f:α->M β}{g:List PanicEntry->M β}(h:Loc m)(kf: ∀a,Loc (f a))(kg: ∀c,Loc (g c)):
  Loc (λs=>R.rec (motive:=λ_=>R β) .none (λa s=>f a s) (λc s=>g c s) (m s)):=⟨λs o s' e hb=>by
 cases e1:m s with
 |none=>rw[e1]at e;exact(AA e).elim
 |some a s1=>
  rw[e1]at e
  have h1:=h.at' s (.inl a) s1 e1 hb
  exact h1.seq ((kf a).at' s1 o s' e h1.bnd) λt t1 q=>by rw[q];rfl
 |pan c s1=>
  rw[e1]at e
  have h1:=h.at' s (.inr c) s1 e1 hb
  exact h1.seq ((kg c).at' s1 o s' e h1.bnd) λt t1 q=>by rw[q];rfl⟩
theorem Pl {α:Type}(c:List PanicEntry):Loc (λs=>R.pan c s:M α):=⟨λs o s' h hb=>by
 obtain⟨rfl,rfl⟩:=Ik h
 exact .quiet hb λt _=>rfl⟩
theorem DM_ {α:Type}:Loc (λ_=>R.none:M α):=⟨λs o s' h hb=>(AA h).elim⟩
theorem Ad {α β:Type}{m:M α}{f:α->M β}(h:Loc m)(k: ∀a,Loc (f a)):Loc (M.bind m f):=Hi h k λc=>Pl c
theorem FP {α:Type}{m:M α}(h:Loc m):Loc (noP m):=Hi h (λa=>Af a) λ_=>DM_
theorem A1 {α:Type}(b:Bool){m:M α}(h:Loc m):Loc (M.chk b m):=by
 cases b with
 |false=>exact Ai
 |true=>exact h
theorem EG {α:Type}(b:Bool){m n:M α}(h:Loc m)(k:Loc n):Loc (aT b m n):=by cases b<;>assumption
theorem A8 {α β:Type}(x:Option α){f:α->M β}(k: ∀a,Loc (f a)):Loc (M.on x f):=by
 cases x with
 |none=>exact Ai
 |some a=>exact k a
theorem E5 {α:Type}(n:Nat){f:Nat->M α}(k: ∀a,Loc (f a)):Loc (fN n f):=by rw[Aj];exact k _
theorem UF {α:Type}(n:Int){f:Int->M α}(k: ∀a,Loc (f a)):Loc (fI n f):=by rw[EI];exact k _
theorem LX {α:Type}(n:Addr){f:Addr->M α}(k: ∀a,Loc (f a)):Loc (fA n f):=by rw[CH];exact k _
theorem Od_ {α:Type}(v:Value){f:IntKind->Int->M α}{d:M α}(h: ∀k n,Loc (f k n))(k:Loc d):Loc (Cy v f d):=by
 cases v<;>first|exact h _ _|exact k
theorem HU {α:Type}(b:Bool){m n:M α}(h:Loc m)(k:Loc n):Loc (Bool.rec (motive:=λ_=>M α) m n b):=by cases b<;>assumption
theorem GC {α β:Type}(x:Option α){m:M β}{f:α->M β}(h:Loc m)(k: ∀a,Loc (f a)):Loc (Option.rec (motive:=λ_=>M β) m (λa=>f a) x):=by
 cases x with
 |none=>exact h
 |some a=>exact k a
theorem LS (loc lim:Nat)(l:List Nat):notes loc lim l=if loc<lim then loc::l else l:=by
 unfold notes
 cases h:Nat.blt loc lim with
 |true=>rw[if_pos (Bo h)]
 |false=>rw[if_neg];intro h2;rw[show Nat.blt loc lim=true from Nat.ble_eq_true_of_le h2]at h;cases h
theorem EW (loc lim:Nat)(l:List Nat):notes loc lim l=notes loc lim []++l:=by
 rw[LS,LS]
 split<;>rfl
theorem NV {loc lim:Nat}(h:loc<lim):loc∈notes loc lim []:=by rw[LS,if_pos h];exact List.mem_cons_self
theorem KV_ (loc:Nat)(s:St):rdC loc s=if loc<s.next then match T.get s.mem loc with|none=> .none|some c=> .some c ⟨s.mem,s.next,s.lim,notes loc s.lim s.rd,s.wr,s.cx⟩else .none:=by
 obtain⟨mem,next,lim,rd,wr,cx⟩:=s
 unfold rdC
 simp only
 cases hb:Nat.blt loc next with
 |false=>rw[if_neg];intro h2;rw[show Nat.blt loc next=true from Nat.ble_eq_true_of_le h2]at hb;cases hb
 |true=>
  rw[if_pos (Bo hb)]
  cases T.get mem loc<;>rfl
theorem Zf (loc:Nat)(c:Cell)(s:St):wrC loc c s=if loc<s.next then .some () ⟨T.set s.mem loc c,s.next,s.lim,s.rd,notes loc s.lim s.wr,s.cx⟩else .none:=by
 obtain⟨mem,next,lim,rd,wr,cx⟩:=s
 unfold wrC
 obtain⟨v,l,r,e⟩:=a9 mem loc c
 simp only[e]
 cases hb:Nat.blt loc next with
 |false=>rw[if_neg];intro h2;rw[show Nat.blt loc next=true from Nat.ble_eq_true_of_le h2]at hb;cases hb
 |true=>rw[if_pos (Bo hb)]
theorem TM (loc:Nat)(s:St):delC loc s=if loc<s.next then .some () ⟨T.del s.mem loc,s.next,s.lim,s.rd,notes loc s.lim s.wr,s.cx⟩else .none:=by
 obtain⟨mem,next,lim,rd,wr,cx⟩:=s
 unfold delC
 simp only
 cases hb:Nat.blt loc next with
 |false=>rw[if_neg];intro h2;rw[show Nat.blt loc next=true from Nat.ble_eq_true_of_le h2]at hb;cases hb
 |true=>rw[if_pos (Bo hb)]
theorem Vw (vs:List Value)(s:St):newL vs s= .some s.next ⟨layL s.next vs s.next s.mem,s.next+vs.length+1,s.lim,s.rd,s.wr,s.cx⟩:=by
 obtain⟨mem,next,lim,rd,wr,cx⟩:=s
 have h0:newL vs ⟨mem,next,lim,rd,wr,cx⟩=fN next λb=>fN (Nat.succ (Nat.add b vs.length)) λn=>R.some b (St.mk (layL b vs b mem) n lim rd wr cx):=rfl
 rw[h0,Aj,Aj]
 rfl
theorem Ai_ (o:AObj)(s:St):newO o s= .some s.next ⟨T.set s.mem s.next (.O o),s.next+1,s.lim,s.rd,s.wr,s.cx⟩:=by
 obtain⟨mem,next,lim,rd,wr,cx⟩:=s
 have h0:newO o ⟨mem,next,lim,rd,wr,cx⟩=fN next λb=>fN (Nat.succ b) λn=>R.some b (St.mk (T.set mem b (.O o)) n lim rd wr cx):=rfl
 rw[h0,Aj,Aj]
theorem Dv (loc:Nat):Loc (rdC loc):=⟨λs o s' h hb=>by
 rw[KV_]at h
 split at h
 case isFalse=>exact(AA h).elim
 case isTrue hl=>
  cases e:T.get s.mem loc with
  |none=>rw[e]at h;exact(AA h).elim
  |some c=>
   rw[e]at h
   obtain⟨rfl,rfl⟩:=A0 h
   refine⟨λl=>l=loc,λ_=>False,notes loc s.lim [],[],⟨EW _ _ _,rfl,Nat.le_refl _,rfl,hb,λl e1=>by rw[e1];exact hl,λ_ e=>e.elim,λ_ _=>rfl,λt e1 e2 e3 e4=> ?_⟩,λl e1 e2=> ?_,λ_ e=>e.elim⟩
   ·refine⟨⟨t.mem,t.next,t.lim,notes loc t.lim t.rd,t.wr,t.cx⟩, ?_,e1,e2,e3, ?_,rfl,λ_ e=>e.elim,λ_ _=>rfl⟩
    ·rw[KV_,if_pos (by rw[e1];exact hl),e4 loc (.inl rfl),e];rfl
    ·rw[<-e2];exact EW _ _ _
   ·rw[e1];exact NV (by rw[<-e1];exact e2)⟩
theorem Dk (loc:Nat)(c:Cell):Loc (wrC loc c):=⟨λs o s' h hb=>by
 rw[Zf]at h
 split at h
 case isFalse=>exact(AA h).elim
 case isTrue hl=>
  obtain⟨rfl,rfl⟩:=A0 h
  refine⟨λ_=>False,λl=>l=loc,[],notes loc s.lim [],⟨rfl,EW _ _ _,Nat.le_refl _,rfl,hb,λ_ e=>e.elim,λl e1=>by rw[e1];exact hl,λl e=> ?_,λt e1 e2 e3 e4=> ?_⟩,λ_ e=>e.elim,λl e1 e2=> ?_⟩
  ·simp only[T.get_set,if_neg e]
  ·refine⟨⟨T.set t.mem loc c,t.next,t.lim,t.rd,notes loc t.lim t.wr,t.cx⟩, ?_,e1,e2,e3,rfl, ?_,λl e=> ?_,λl e=> ?_⟩
   ·rw[Zf,if_pos (by rw[e1];exact hl)];rfl
   ·rw[<-e2];exact EW _ _ _
   ·simp only[T.get_set,if_pos e]
   ·simp only[T.get_set,if_neg e]
  ·rw[e1];exact NV (by rw[<-e1];exact e2)⟩
theorem UB_ (loc:Nat):Loc (delC loc):=⟨λs o s' h hb=>by
 rw[TM]at h
 split at h
 case isFalse=>exact(AA h).elim
 case isTrue hl=>
  obtain⟨rfl,rfl⟩:=A0 h
  refine⟨λ_=>False,λl=>l=loc,[],notes loc s.lim [],⟨rfl,EW _ _ _,Nat.le_refl _,rfl,hb,λ_ e=>e.elim,λl e1=>by rw[e1];exact hl,λl e=> ?_,λt e1 e2 e3 e4=> ?_⟩,λ_ e=>e.elim,λl e1 e2=> ?_⟩
  ·simp only[aW,if_neg e]
  ·refine⟨⟨T.del t.mem loc,t.next,t.lim,t.rd,notes loc t.lim t.wr,t.cx⟩, ?_,e1,e2,e3,rfl, ?_,λl e=> ?_,λl e=> ?_⟩
   ·rw[TM,if_pos (by rw[e1];exact hl)];rfl
   ·rw[<-e2];exact EW _ _ _
   ·simp only[aW,if_pos e]
   ·simp only[aW,if_neg e]
  ·rw[e1];exact NV (by rw[<-e1];exact e2)⟩
theorem Jz (b:Nat): ∀(vs:List Value) (loc:Nat) (t:T Cell) (k:Nat),T.get (layL b vs loc t) k=if loc<=k/\k<loc+vs.length then(vs[k-loc]?).map (.C b)else T.get t k
 |[],loc,t,k=>by rw[if_neg (λe=>by have:=e.2;simp at this;omega)];rfl
 |v::vs,loc,t,k=>by
  have h0:layL b (v::vs) loc t=fN loc λloc=>layL b vs (Nat.succ loc) (T.set t loc (.C b v)):=rfl
  rw[h0,Aj,Jz b vs]
  by_cases h1:loc=k
  ·subst h1
   rw[if_neg (by omega),if_pos (by simp),T.get_set,if_pos rfl]
   simp
  ·by_cases h2:loc<=k/\k<loc+(v::vs).length
   ·have h3:k-loc=(k-Nat.succ loc)+1:=by omega
    rw[if_pos h2,if_pos (by simp at h2 ⊢;omega),h3,List.getElem?_cons_succ]
   ·rw[if_neg h2,if_neg (by simp at h2 ⊢;omega),T.get_set,if_neg (λe=>h1 e.symm)]
theorem Gj (vs:List Value):Loc (newL vs):=⟨λs o s' h hb=>by
 rw[Vw]at h
 obtain⟨rfl,rfl⟩:=A0 h
 refine⟨λ_=>False,λl=>s.next<=l/\l<s.next+vs.length,[],[],⟨rfl,rfl,by show s.next<=s.next+vs.length+1;omega,rfl, ?_,λ_ e=>e.elim,λl e=> ?_,λl e=> ?_,λt e1 e2 e3 e4=> ?_⟩,λ_ e=>e.elim,λl e1 e2=> ?_⟩
 ·show s.lim<=s.next+vs.length+1
  unfold Bnd at hb;omega
 ·show l<s.next+vs.length+1
  omega
 ·simp only[Jz,if_neg e]
 ·refine⟨⟨layL t.next vs t.next t.mem,t.next+vs.length+1,t.lim,t.rd,t.wr,t.cx⟩, ?_,by rw[e1],e2,e3,rfl,rfl,λl e=> ?_,λl e=> ?_⟩
  ·rw[Vw,e1];rfl
  ·simp only[Jz,e1,if_pos e]
  ·simp only[Jz,e1,if_neg e]
 ·unfold Bnd at hb;omega⟩
theorem LB (x:AObj):Loc (newO x):=⟨λs o s' h hb=>by
 rw[Ai_]at h
 obtain⟨rfl,rfl⟩:=A0 h
 refine⟨λ_=>False,λl=>l=s.next,[],[],⟨rfl,rfl,by show s.next<=s.next+1;omega,rfl, ?_,λ_ e=>e.elim,λl e=> ?_,λl e=> ?_,λt e1 e2 e3 e4=> ?_⟩,λ_ e=>e.elim,λl e1 e2=> ?_⟩
 ·show s.lim<=s.next+1
  unfold Bnd at hb;omega
 ·show l<s.next+1
  omega
 ·simp only[T.get_set,if_neg e]
 ·refine⟨⟨T.set t.mem t.next (.O x),t.next+1,t.lim,t.rd,t.wr,t.cx⟩, ?_,by rw[e1],e2,e3,rfl,rfl,λl e=> ?_,λl e=> ?_⟩
  ·rw[Ai_,e1];rfl
  ·simp only[T.get_set,e1,if_pos e]
  ·simp only[T.get_set,e1,if_neg e]
 ·unfold Bnd at hb;omega⟩
theorem H9:Loc getCx:=⟨λs o s' h hb=>by
 obtain⟨rfl,rfl⟩:=A0 (show R.some s.cx s=rOf o s' from h)
 exact .quiet hb λt e=>by rw[<-e];rfl⟩
theorem KV (x:Ctx):Loc (putCx x):=⟨λs o s' h hb=>by
 obtain⟨rfl,rfl⟩:=A0 (show R.some () (St.mk s.mem s.next s.lim s.rd s.wr x)=rOf o s' from h)
 exact⟨λ_=>False,λ_=>False,[],[],⟨rfl,rfl,Nat.le_refl _,rfl,hb,λ_ e=>e.elim,λ_ e=>e.elim,λ_ _=>rfl,
  λt e1 e2 e3 _=>⟨St.mk t.mem t.next t.lim t.rd t.wr x,rfl,e1,e2,rfl,rfl,rfl,λ_ e=>e.elim,λ_ _=>rfl⟩⟩,λ_ e=>e.elim,λ_ e=>e.elim⟩⟩
theorem ZM (a:Addr):Loc (rdV a):=by
 obtain⟨b,o,s⟩:=a
 cases s with
 |some x=>exact Ai
 |none=>exact Ad (Dv _) λc=>Fh _
theorem AaL_ (a:Addr)(v:Value):Loc (wrV a v):=by
 obtain⟨b,o,s⟩:=a
 cases s with
 |some x=>exact Ai
 |none=>exact Ad (Dv _) λc=>A1 _ (Dk _ _)
theorem Fe: ∀(n:Nat) (a:Addr),Loc (rdL n a)
 |0,_=>Af _
 |n+1,a=>by
  have h0:rdL (n+1) a=fA a λa=>M.bind (rdV a) λv=>M.bind (rdL n ⟨a.block,Nat.succ a.off,a.spot⟩) λl=>M.pure (v::l):=rfl
  rw[h0]
  exact LX _ λa=>Ad (ZM a) λv=>Ad (Fe n _) λl=>Af _
theorem Hj: ∀(vs:List Value) (a:Addr),Loc (wrL vs a)
 |[],_=>Af _
 |v::vs,a=>by
  have h0:wrL (v::vs) a=fA a λa=>M.bind (wrV a v) λ_=>wrL vs ⟨a.block,Nat.succ a.off,a.spot⟩:=rfl
  rw[h0]
  exact LX _ λa=>Ad (AaL_ a v) λv=>Hj vs _
theorem Oy: ∀(n l:Nat),Loc (CL n l)
 |0,_=>Af _
 |n+1,l=>by
  have h0:CL (n+1) l=M.bind (delC l) λ_=>CL n (l+1):=rfl
  rw[h0]
  exact Ad (UB_ l) λ_=>Oy n _
theorem Bb (x0:_)(x1:_):Loc (ti x0 x1):=by
 unfold ti
 repeat' (first|exact Fh _|intro _|split)
theorem IH (x0:_):Loc (pV x0):=by
 unfold pV
 repeat' (first|exact Af _|apply A1|apply UF|apply Od_|intro _|split)
theorem ZP_ (x0:_)(x1:_)(x2:_)(x3:_)(x4:_):Loc (Eg x0 x1 x2 x3 x4):=by
 unfold Eg
 repeat' (first|exact Af _|exact Ai|exact Bb _ _|apply Ad|apply A8|intro _|split)
theorem YF_ (x0:_)(x1:_):Loc (GD x0 x1):=by
 unfold GD
 repeat' (first|exact Af _|exact Ai|intro _|split)
theorem Ajg_ (x0:_)(x1:_)(x2:_):Loc (GQ x0 x1 x2):=by
 unfold GQ
 repeat' (first|exact YF_ _ _|apply A1|apply A8|intro _|split)
theorem AhK_ (x0:_)(x1:_)(x2:_)(x3:_)(x4:_)(x5:_)(x6:_):Loc (AD x0 x1 x2 x3 x4 x5 x6):=by
 unfold AD
 repeat' (first|exact Ajg_ _ _ _|exact ZP_ _ _ _ _ _|exact IH _|apply EG|apply A8|intro _|split)
theorem Akj_ (x0:_):Loc (lenOf x0):=by
 unfold lenOf
 repeat' (first|exact Af _|exact Ai|intro _|split)
theorem Xj (x0:_)(x1:_)(x2:_):Loc (Ek x0 x1 x2):=by
 unfold Ek
 repeat' (first|exact Af _|exact Bb _ _|exact Fe _ _|exact ZM _|apply Ad|apply EG|intro _|split)
theorem Acg_ (x0:_)(x1:_)(x2:_)(x3:_):Loc (Gw x0 x1 x2 x3):=by
 unfold Gw
 repeat' (first|exact Bb _ _|exact Hj _ _|apply Ad|apply A1|intro _|split)
theorem Jq (x0:_):Loc (asA x0):=by
 unfold asA
 repeat' (first|exact Af _|exact Ai|intro _|split)
theorem I7 (x0:_)(x1:_)(x2:_):Loc (bnd x0 x1 x2):=by
 unfold bnd
 repeat' (first|exact Af _|exact Ai|apply A1|intro _|split)
theorem Mt_ (x0:_):Loc (ptrA x0):=by
 unfold ptrA
 repeat' (first|exact Af _|apply LX|intro _|split)
theorem IL (x0:_)(x1:_)(x2:_):Loc (pSl x0 x1 x2):=by
 unfold pSl
 repeat' (first|exact Af _|apply E5|apply LX|intro _|split)
theorem Km (x0:_):Loc (pN x0):=by
 unfold pN
 repeat' (first|exact Af _|apply E5|intro _|split)
theorem Acx_ (x0:_)(x1:_)(x2:_)(x3:_)(x4:_):Loc (Fm x0 x1 x2 x3 x4):=by
 unfold Fm
 repeat' (first|exact IL _ _ _|exact I7 _ _ _|apply Ad|apply A1|apply HU|intro _|split)
theorem Tm_ (x0:_)(x1:_)(x2:_)(x3:_)(x4:_)(x5:_):Loc (slSl x0 x1 x2 x3 x4 x5):=by
 unfold slSl
 repeat' (first|exact IL _ _ _|exact I7 _ _ _|apply Ad|apply A1|apply HU|intro _|split)
theorem ZC_ (x0:_)(x1:_)(x2:_):Loc (Gi x0 x1 x2):=by
 unfold Gi
 repeat' (first|exact Af _|exact I7 _ _ _|apply Ad|intro _|split)
theorem ZW_ (x0:_)(x1:_)(x2:_)(x3:_)(x4:_):Loc (AW x0 x1 x2 x3 x4):=by
 unfold AW
 repeat' (first|exact Af _|exact Ai|exact ZC_ _ _ _|exact Tm_ _ _ _ _ _ _|exact Acx_ _ _ _ _ _|exact I7 _ _ _|exact Bb _ _|apply Ad|intro _|split)
theorem Da_ (x0:_)(x1:_)(x2:_):Loc (srcL x0 x1 x2):=by
 unfold srcL
 repeat' (first|exact Af _|exact Ai|exact Fe _ _|intro _|split)
theorem SN_ (x0:_)(x1:_)(x2:_):Loc (appN x0 x1 x2):=by
 unfold appN
 repeat' (first|exact Af _|exact Ai|apply A1|intro _|split)
theorem PE_ (x0:_)(x1:_)(x2:_)(x3:_):Loc (appL x0 x1 x2 x3):=by
 unfold appL
 repeat' (first|exact Af _|exact Da_ _ _ _|apply EG|intro _|split)
theorem YN_ (x0:_)(x1:_)(x2:_):Loc (oldL x0 x1 x2):=by
 unfold oldL
 repeat' (first|exact Af _|exact Fe _ _|intro _|split)
theorem Tg_ (x0:_)(x1:_)(x2:_):Loc (Fs x0 x1 x2):=by
 unfold Fs
 repeat' (first|exact Af _|exact Oy _ _|intro _|split)
theorem Ot_ (x0:_)(x1:_)(x2:_)(x3:_):Loc (C3 x0 x1 x2 x3):=by
 unfold C3
 repeat' (first|exact Af _|exact Ai|exact Tg_ _ _ _|exact Dk _ _|exact Dv _|apply Ad|apply A1|apply EG|apply E5|intro _|split)
theorem PM_ (x0:_)(x1:_)(x2:_)(x3:_)(x4:_)(x5:_)(x6:_)(x7:_):Loc (grow x0 x1 x2 x3 x4 x5 x6 x7):=by
 unfold grow
 repeat' (first|exact Ot_ _ _ _ _|exact YN_ _ _ _|exact IL _ _ _|exact Gj _|exact Dk _ _|apply Ad|apply A1|apply E5|apply HU|intro _|split)
theorem Ala_ (x0:_)(x1:_)(x2:_)(x3:_)(x4:_)(x5:_):Loc (FH x0 x1 x2 x3 x4 x5):=by
 unfold FH
 repeat' (first|exact Af _|exact IL _ _ _|exact Hj _ _|apply Ad|intro _|split)
theorem Akc_ (x0:_)(x1:_)(x2:_)(x3:_)(x4:_):Loc (CB x0 x1 x2 x3 x4):=by
 unfold CB
 repeat' (first|exact Ai|exact Ala_ _ _ _ _ _ _|exact PM_ _ _ _ _ _ _ _ _|exact PE_ _ _ _ _|exact SN_ _ _ _|exact Bb _ _|apply Ad|apply EG|intro _|split)
theorem Adq_ (x0:_)(x1:_)(x2:_):Loc (Bj x0 x1 x2):=by
 unfold Bj
 repeat' (first|exact Af _|exact Ai|exact Fh _|exact Bb _ _|apply Ad|intro _|split)
theorem We_ (x0:_)(x1:_)(x2:_)(x3:_):Loc (AU x0 x1 x2 x3):=by
 unfold AU
 repeat' (first|exact Af _|exact Ai|exact Fh _|exact Bb _ _|exact Gj _|exact Dk _ _|apply Ad|apply A1|intro _|split)
theorem Z0 (x0:_)(x1:_)(x2:_)(x3:_):Loc (Ea x0 x1 x2 x3):=by
 unfold Ea
 repeat' (first|exact Af _|exact Fh _|exact Bb _ _|apply Ad|apply EG|intro _|split)
theorem AgW_ (x0:_)(x1:_)(x2:_)(x3:_)(x4:_):Loc (Fv x0 x1 x2 x3 x4):=by
 unfold Fv
 repeat' (first|exact Ai|exact Da_ _ _ _|exact Km _|exact Akj_ _|exact Bb _ _|exact Hj _ _|apply Ad|apply E5|intro _|split)
theorem Ee_ (x0:_):Loc (EU x0):=by
 unfold EU
 repeat' (first|exact Af _|exact Ai|exact Dv _|apply Ad|intro _|split)
theorem Ago_ (x0:_):Loc (Gf x0):=by
 unfold Gf
 repeat' (first|exact Ai|exact Ee_ _|exact Km _|apply Ad|intro _|split)
theorem Amo_ (x0:_)(x1:_)(x2:_):Loc (aLen x0 x1 x2):=by
 unfold aLen
 repeat' (first|exact Af _|exact Ai|exact Ago_ _|exact Km _|exact Bb _ _|apply Ad|intro _|split)
theorem Sp_ (x0:_)(x1:_)(x2:_):Loc (aCap x0 x1 x2):=by
 unfold aCap
 repeat' (first|exact Ai|exact Km _|exact Bb _ _|apply Ad|apply A1|intro _|split)
theorem Amt_ (x0:_)(x1:_)(x2:_):Loc (Kz x0 x1 x2):=by
 unfold Kz
 repeat' (first|exact Af _|exact Ai|exact Bb _ _|exact Hj _ _|apply Ad|apply A1|intro _|split)
theorem Adu_ (x0:_):Loc (zeroV x0):=by
 unfold zeroV
 repeat' (first|exact Af _|exact Fh _|apply EG|intro _|split)
theorem CN_ (E:_)(e:_)(t:_)(k:_)(es:_):Loc (LR E e t k es):=A1 _ (A8 _ λ_=>Af _)
theorem Ack_ (x0:_)(x1:_):Loc (mapT x0 x1):=by
 unfold mapT
 repeat' (first|exact Af _|exact Ai|exact Bb _ _|apply Ad|intro _|split)
theorem Amy_ (E:_)(t:_)(m:_)(k:_):Loc (kDel E t m k):=Ad (Ack_ _ _) λke=>by
 cases m with
 |map m=>
  cases m with
  |none=>exact Ad (CN_ _ _ _ _ _) λ_=>Af _
  |some l=>exact Ad (Ee_ _) λp=>Ad (CN_ _ _ _ _ _) λr=>by cases r<;>exact Ad (Dk _ _) λ_=>Af _
 |_=>exact Ai
theorem Air_ (x0:_)(x1:_)(x2:_)(x3:_):Loc (AS x0 x1 x2 x3):=by
 unfold AS
 repeat' (first|exact Ai|exact Sp_ _ _ _|exact Amo_ _ _ _|exact AgW_ _ _ _ _ _|exact Akc_ _ _ _ _ _|exact IH _|apply A1|apply A8|intro _|split)
theorem Xz_ (x0:_)(x1:_)(x2:_)(x3:_):Loc (idxN x0 x1 x2 x3):=by
 unfold idxN
 repeat' (first|exact Ai|exact Mt_ _|exact Bb _ _|apply Ad|apply A1|intro _|split)
theorem NJ (x0:_):Loc (asN x0):=by
 unfold asN
 repeat' (first|exact Af _|exact Ai|intro _|split)
theorem AdU_ (x0:_)(x1:_)(x2:_):Loc (A3 x0 x1 x2):=by
 unfold A3
 repeat' (first|exact Af _|exact Ai|apply HU|intro _|split)
theorem GJ_ (x0:_):Loc (ptrN x0):=by
 unfold ptrN
 repeat' (first|exact Af _|intro _|split)
theorem PI_ (x0:_)(x1:_):Loc (AI x0 x1):=by
 unfold AI
 repeat' (first|exact GJ_ _|exact Bb _ _|exact Gj _|apply Ad|intro _|split)
theorem AeV_ (x0:_):Loc (kBox x0):=by
 unfold kBox
 repeat' (first|exact GJ_ _|exact Gj _|apply Ad|intro _|split)
theorem Vu_ (x0:_)(x1:_)(x2:_):Loc (A5 x0 x1 x2):=by
 unfold A5
 repeat' (first|exact Jq _|exact Xj _ _ _|apply Ad|intro _|split)
theorem Zs_ (x0:_)(x1:_)(x2:_)(x3:_):Loc (Ao x0 x1 x2 x3):=by
 unfold Ao
 repeat' (first|exact Af _|exact Jq _|exact Acg_ _ _ _ _|apply Ad|intro _|split)
theorem AbR_ (x0:_):Loc (kNil x0):=by
 unfold kNil
 repeat' (first|exact Af _|exact Ai|intro _|split)
theorem AgX_ (b:Bool):Loc (pB b):=by cases b<;>exact Af _
theorem JC (x0:_)(x1:_)(x2:_):Loc (CD x0 x1 x2):=by
 unfold CD
 repeat' (first|exact IH _|apply A1|apply A8|intro _|split)
theorem VO_ (P:Program)(v:Value):Loc (xorU P v):=by
 have h:=JC P .xor v
 cases v with
 |int k n=>
  cases n with
  |negSucc m=>exact JC P .xor (.int k (.negSucc m))
  |ofNat m=>
   show Loc (Option.rec (motive:=λ_=>M Value) (CD P .xor (.int k (.ofNat m))) (λx=>M.pure x) (notK k m))
   exact GC _ (JC _ _ _) λ_=>Af _
 |_=>exact h
theorem AcQ_ (x0:_)(x1:_)(x2:_):Loc (kUn x0 x1 x2):=by
 unfold kUn
 repeat' (first|exact Af _|exact VO_ _ _|exact JC _ _ _|exact AgX_ _|intro _|split)
theorem Aam_ (x0:_)(x1:_):Loc (strOf x0 x1):=by
 unfold strOf
 repeat' (first|exact Af _|exact Fe _ _|apply Ad|apply A8|intro _|split)
theorem Yb_ (x0:_)(x1:_)(x2:_)(x3:_)(x4:_):Loc (Fo x0 x1 x2 x3 x4):=by
 unfold Fo
 repeat' (first|exact Ai|exact Aam_ _ _|exact Bb _ _|apply Ad|intro _|split)
theorem SI_ (x0:_)(x1:_)(x2:_)(x3:_)(x4:_):Loc (FA x0 x1 x2 x3 x4):=by
 unfold FA
 repeat' (first|exact Af _|exact IH _|exact Bb _ _|apply Ad|apply A8|apply UF|intro _|split)
theorem PI (x0:_)(x1:_)(x2:_)(x3:_):Loc (D7 x0 x1 x2 x3):=by
 unfold D7
 repeat' (first|exact SI_ _ _ _ _ _|exact Yb_ _ _ _ _ _|exact IH _|apply A1|apply A8|intro _|split)
theorem RM_ (x0:_)(x1:_):Loc (rowN x0 x1):=by
 unfold rowN
 repeat' (first|exact IL _ _ _|exact Gj _|exact Dk _ _|apply Ad|apply A1|intro _|split)
theorem Ug_ (l:List UInt8):Loc (F5 l):=by
 unfold F5
 rw[LE]
 exact E5 _ λn=>RM_ _ _
theorem Aex_ (x0:_)(x1:_)(x2:_)(x3:_):Loc (G9 x0 x1 x2 x3):=by
 unfold G9
 repeat' (first|exact Ai|exact Ug_ _|exact PI _ _ _ _|exact Bb _ _|apply Ad|intro _|split)
theorem TX_ (x0:_)(x1:_)(x2:_)(x3:_)(x4:_)(x5:_):Loc (Ev x0 x1 x2 x3 x4 x5):=by
 unfold Ev
 repeat' (first|exact Ai|exact PI _ _ _ _|exact Bb _ _|apply Ad|intro _|split)
theorem Aci_ (x0:_)(x1:_)(x2:_)(x3:_):Loc (BZ x0 x1 x2 x3):=by
 unfold BZ
 repeat' (first|exact TX_ _ _ _ _ _ _|exact Aex_ _ _ _ _|exact PI _ _ _ _|intro _|split)
theorem Acd_ (x0:_)(x1:_):Loc (Gp x0 x1):=by
 unfold Gp
 repeat' (first|exact Af _|exact Ai|apply A1|intro _|split)
theorem Xv_ (x0:_)(x1:_)(x2:_):Loc (Dd x0 x1 x2):=by
 unfold Dd
 repeat' (first|exact Acd_ _ _|exact Bb _ _|apply Ad|intro _|split)
theorem Wp_ (x0:_)(x1:_)(x2:_):Loc (FK x0 x1 x2):=by
 unfold FK
 repeat' (first|exact Af _|exact Ai|exact Bb _ _|apply Ad|intro _|split)
theorem Aei_ (x0:_)(x1:_)(x2:_)(x3:_):Loc (mkSl x0 x1 x2 x3):=by
 unfold mkSl
 repeat' (first|exact Af _|exact Ai|exact Bb _ _|exact Gj _|apply Ad|apply A1|intro _|split)
theorem VT_ (x0:_)(x1:_)(x2:_)(x3:_):Loc (Ee x0 x1 x2 x3):=by
 unfold Ee
 repeat' (first|exact Aei_ _ _ _ _|exact NJ _|exact Bb _ _|apply Ad|intro _|split)
theorem IZ_ (x0:_)(x1:_)(x2:_):Loc (Ed x0 x1 x2):=by
 unfold Ed
 repeat' (first|exact Af _|exact Ai|exact Bb _ _|apply Ad|intro _|split)
theorem ZQ_ (x0:_)(x1:_)(x2:_)(x3:_):Loc (kFld x0 x1 x2 x3):=by
 unfold kFld
 repeat' (first|exact IZ_ _ _ _|exact Mt_ _|exact Jq _|exact Bb _ _|apply Ad|apply A1|intro _|split)
theorem AeR_ (x0:_):Loc (asCs x0):=by
 unfold asCs
 repeat' (first|exact Af _|exact Ai|intro _|split)
theorem Vw_ (x0:_)(x1:_)(x2:_)(x3:_):Loc (FQ x0 x1 x2 x3):=by
 unfold FQ
 repeat' (first|exact AeR_ _|exact IZ_ _ _ _|exact Z0 _ _ _ _|exact Bb _ _|apply Ad|intro _|split)
theorem AeW_ (x0:_)(x1:_)(x2:_)(x3:_):Loc (BE x0 x1 x2 x3):=by
 unfold BE
 repeat' (first|exact NJ _|exact Xz_ _ _ _ _|exact Bb _ _|apply Ad|intro _|split)
theorem Uu_ (x0:_)(x1:_)(x2:_)(x3:_):Loc (idxV x0 x1 x2 x3):=by
 unfold idxV
 repeat' (first|exact Af _|exact Ai|exact Z0 _ _ _ _|exact Bb _ _|apply Ad|apply A1|apply A8|intro _|split)
theorem Yw_ (x0:_)(x1:_)(x2:_)(x3:_):Loc (kIdx x0 x1 x2 x3):=by
 unfold kIdx
 repeat' (first|exact Uu_ _ _ _ _|exact NJ _|exact Bb _ _|apply Ad|intro _|split)
theorem AkY_ (x0:_)(x1:_):Loc (kExt x0 x1):=by
 unfold kExt
 repeat' (first|exact Ai|exact Fh _|intro _|split)
theorem RC_ (x0:_)(x1:_)(x2:_):Loc (okV x0 x1 x2):=by
 unfold okV
 repeat' (first|exact Af _|exact Ai|apply HU|intro _|split)
theorem Xw_ (x0:_)(x1:_)(x2:_)(x3:_):Loc (F9 x0 x1 x2 x3):=by
 unfold F9
 repeat' (first|exact Ai|exact RC_ _ _ _|exact Adu_ _|exact Bb _ _|apply Ad|apply EG|apply A8|intro _|split)
theorem YB_:Loc (Ii):=by
 unfold Ii
 repeat' (first|exact Af _|exact Ai|exact KV _|exact H9|apply Ad|apply GC|intro _|split)
theorem Adz_ (x0:_)(x1:_):Loc (Il x0 x1):=by
 unfold Il
 repeat' (first|exact Af _|exact Ai|exact KV _|exact H9|apply Ad|intro _|split)
inductive ChR (r:Inj):List PanicEntry->List PanicEntry->Prop
 |nil:ChR r [] []
 |cons {e e':PanicEntry} {l l':List PanicEntry}:VR r e.v e'.v->e'.recovered=e.recovered->e'.goexit=e.goexit->ChR r l l'->ChR r (e::l) (e'::l')
theorem ChR.mono {r r':Inj}(h:r.le r'){l l':List PanicEntry}(k:ChR r l l'):ChR r' l l':=by
 induction k with
 |nil=>exact .nil
 |cons a b c _ ih=>exact .cons (a.mono h) b c ih
theorem ChR.append {r:Inj}{a a' b b':List PanicEntry}(h:ChR r a a')(k:ChR r b b'):ChR r (a++b) (a'++b'):=by
 induction h with
 |nil=>exact k
 |cons x y z _ ih=>exact .cons x y z ih
inductive MoR (r:Inj):FrameMode->FrameMode->Prop
 |run:MoR r .run .run
 |ret:MoR r .returning .returning
 |pan {c c':List PanicEntry}:ChR r c c'->MoR r (.panicking c) (.panicking c')
theorem MoR.mono {r r':Inj}(h:r.le r'){m m':FrameMode}(k:MoR r m m'):MoR r' m m':=by
 cases k with
 |run=>exact .run
 |ret=>exact .ret
 |pan c=>exact .pan (c.mono h)
inductive DfR (r:Inj):Deferred->Deferred->Prop
 |fn {f f':Fn} {c c' a a':Array Value}:FnR r f f'->VRs r c.toList c'.toList->VRs r a.toList a'.toList->DfR r ⟨.fn f c,a⟩ ⟨.fn f' c',a'⟩
 |coll {b b' d:Nat}:r.blk b=some (b',d)->DfR r ⟨.collected b, #[]⟩ ⟨.collected b', #[]⟩
theorem DfR.mono {r r':Inj}(h:r.le r'){m m':Deferred}(k:DfR r m m'):DfR r' m m':=by
 cases k with
 |fn a b c=>exact .fn (a.mono h) (b.mono h) (c.mono h)
 |coll a=>exact .coll (h.1 _ _ a)
inductive DfsR (r:Inj):List Deferred->List Deferred->Prop
 |nil:DfsR r [] []
 |cons {e e':Deferred} {l l':List Deferred}:DfR r e e'->DfsR r l l'->DfsR r (e::l) (e'::l')
theorem DfsR.mono {r r':Inj}(h:r.le r'){l l':List Deferred}(k:DfsR r l l'):DfsR r' l l':=by
 induction k with
 |nil=>exact .nil
 |cons a _ ih=>exact .cons (a.mono h) ih
def CxR (r:Inj)(base:List Deferred×List Frame)(cx:Ctx)(b:Frame)(dfs:List Deferred)(cs:List Frame):Prop:=
 match cx with
 | .no=>dfs=base.1/\cs=base.2
 | .cx up d=>
  (match up with
   |none=>b.kind= .normal/\cs=base.2
   |some m=>b.kind= .deferred/\ ∃c rest m',base.2=c::rest/\cs={c with mode:=m'}::rest/\MoR r m m')/\
  (match d with
   |none=>b.roundOf≠none/\dfs=[]
   |some l=>b.roundOf=none/\DfsR r l dfs)
theorem CxR.mono {r r':Inj}(h:r.le r'){base:List Deferred×List Frame}{cx:Ctx}{b:Frame}{dfs:List Deferred}{cs:List Frame}(k:CxR r base cx b dfs cs):CxR r' base cx b dfs cs:=by
 unfold CxR at *
 cases cx with
 |no=>exact k
 |cx up d=>
  obtain⟨k1,k2⟩:=k
  constructor
  ·cases up with
   |none=>exact k1
   |some m=>obtain⟨q1,c,rest,m',q2,q3,q4⟩:=k1;exact⟨q1,c,rest,m',q2,q3,q4.mono h⟩
  ·cases d with
   |none=>exact k2
   |some l=>exact⟨k2.1,k2.2.mono h⟩
def frm (b:Frame)(t:Array Value)(d:List Deferred)(todo:List Item):Frame:={fn:=b.fn,tmps:=t,todo,defers:=d,mode:= .run,kind:=b.kind,roundOf:=b.roundOf}
def putT (t:Array Value)(dst:Option Nat)(v:Value):Array Value:=
 match dst with
 |some d=>t.setIfInBounds d v
 |none=>t
theorem QS (b:Frame)(t:Array Value)(d:List Deferred)(todo:List Item):(frm b t d todo).eval=Act.eval ⟨t,d⟩:=funext λx=>by cases x<;>rfl
theorem FE (b:Frame)(t:Array Value)(d:List Deferred){ops:Array Oper}{i:Nat}{o:Oper}(ho:ops[i]?=some o)(rest:List Nat)(k:List Item)(v:Value):
  (frm b t d (.inRegion ops (i::rest)::k)).finish v=frm b (putT t o.dst v) d (.inRegion ops rest::k):=by
 cases h:o.dst<;>simp[Frame.finish,frm,putT,ho,h]
section
variable {P:Program}{b:Frame}{t:Array Value}{d:List Deferred}{k:List Item}{cs:List Frame}{w:World}{ops:Array Oper}
theorem FW {i:Nat}{rest:List Nat}{o:Oper}(ho:ops[i]?=some o)(hw:Region.wanted o (yielded ops t)=true)(hd:b.roundOf=none\/ ∀c,o.op≠ .defer c):
  stepG P true {frame:=frm b t d (.inRegion ops (i::rest)::k),callers:=cs,status:= .running,dying:=none} w=
   stepG.apply P true (frm b t d (.inRegion ops (i::rest)::k)) cs none (execOp (Act.eval ⟨t,d⟩) o) w:=by
 have he:=QS b t d (.inRegion ops (i::rest)::k)
 have e1:stepG P true {frame:=frm b t d (.inRegion ops (i::rest)::k),callers:=cs,status:= .running,dying:=none} w=
   stepG.oper P true (frm b t d (.inRegion ops (i::rest)::k)) cs none w:=by
  simp[stepG,stepG.exec,frm,ho,hw]
 rw[e1]
 have e2:(frm b t d (.inRegion ops (i::rest)::k)).oper?=some o:=ho
 unfold stepG.oper
 simp only[e2,he]
 split
 ·rename_i l c h1 h2
  rcases hd with hd|hd
  ·rw[show(frm b t d (.inRegion ops (i::rest)::k)).roundOf=b.roundOf from rfl,hd]at h1
   cases h1
  ·exact absurd h2 (hd c)
 ·rfl
theorem AgJ_ {id:Nat}:step P (lone (frm b t d (.code (.region id ops false)::k)) cs w)= .next (lone (frm b t d (.inRegion ops (List.range ops.size)::k)) cs w):=
 step_lone_go (by simp[stepG,stepG.exec,frm])
theorem Aby_ {id:Nat}:
  step P (lone (frm b t d (.code (.region id ops true)::k)) cs w)=
   .next (lone (frm b t d (.inRegion ops (Region.schedule (P.follows .mixedOrders) ops (w.tape w.drawn (.order b.fn id)))::k)) cs {w with drawn:=w.drawn+1}):=
 step_lone_go (by simp[stepG,stepG.exec,frm,choose,Sem.run,Question.forced,Question.cut])
theorem Agn_:step P (lone (frm b t d (.inRegion ops []::k)) cs w)= .next (lone (frm b t d k) cs w):=
 step_lone_go (by simp[stepG,stepG.exec,frm])
theorem Zy_ {i:Nat}{o:Oper}{rest:List Nat}(ho:ops[i]?=some o)(h:Region.wanted o (yielded ops t)=false):
  step P (lone (frm b t d (.inRegion ops (i::rest)::k)) cs w)= .next (lone (frm b (putT t o.dst undef) d (.inRegion ops rest::k)) cs w):=by
 rw[<-FE b t d ho]
 exact step_lone_go (by simp[stepG,stepG.exec,frm,ho,h])
end
def Ends (P:Program)(r:Inj)(out:Out Value)(m:Machine)(c:Frame)(cs:List Frame)(w':World):Prop:=
 match out with
 | .inl v=> ∃v',VR r v v'/\Steps P m (lone (c.finish v') cs w')
 | .inr ch=> ∃ch',ChR r ch ch'/\Steps P m (lone (c.raise ch') cs w')
def PS (P:Program)(w0 w:World)(r:Inj)(s:St)(f:Nat)(args':List Value)(out:Out Value)(s':St):Prop:=
 ∃v v' w' r',out= .inl v/\VR r' v v'/\Goes w0 r s s' r' w'/\s'.lim=s.lim/\s'.cx=s.cx/\(callFunc f args'.toArray).run P w= .ok (.value v') w'
structure CallOK (E:Env)(call:Ac):Prop where
 loc: ∀f args,Loc (call f args)
 ok: ∀{w0 w:World} {r:Inj} {f:Nat} {args args':List Value} {s:St} {out:Out Value} {s':St},call f args s=rOf out s'->Rel w0 r s.mem w->Bnd s->AO r s.next s'.next->VRs r args args'->
  ((∀w,(callFunc f args'.toArray).run E.P w= .ok (.enter f args'.toArray) w)/\
  ∀c cs,∃w' r',Goes w0 r s s' r' w'/\s'.lim=s.lim/\s'.cx=s.cx/\Ends E.P r' out (lone (Frame.enter E.P f args'.toArray .normal) (c::cs) w) c cs w')\/
  (E.ext.get f≠none/\PS E.P w0 w r s f args' out s')
structure RoundOK (E:Env)(round:Ac):Prop where
 loc: ∀l args,Loc (round l args)
 ok: ∀{w0 w:World} {r:Inj} {l l' d:Nat} {args args':List Value} {s:St} {out:Out Value} {s':St},round l args s=rOf out s'->Rel w0 r s.mem w->Bnd s->AO r s.next s'.next->VRs r args args'->r.blk l=some (l',d)->
  ∃f tm as bd,(Instr.yield l' args'.toArray).run E.P w= .ok (.round l' f tm as bd) w/\
  ∀c cs,∃w' r',Goes w0 r s s' r' w'/\s'.lim=s.lim/\s'.cx=s.cx/\Ends E.P r' out (lone (Frame.round l' f tm as bd .normal) (c::cs) w) c cs w'
def Ny (P:Program)(r:Inj)(out:Out Value)(m:Machine)(b:Frame)(t:Array Value)(dfs:List Deferred)(ops:Array Oper)(o:Oper)(rest:List Nat)(k:List Item)(cs:List Frame)(w':World):Prop:=
 match out with
 | .inl v=> ∃v',VR r v v'/\Steps P m (lone (frm b (putT t o.dst v') dfs (.inRegion ops rest::k)) cs w')
 | .inr ch=> ∃ch' td,ChR r ch ch'/\Steps P m (lone {frm b t dfs td with mode:= .panicking ch'} cs w')
def OpS (E:Env)(o:Oper)(c:Cl OpT)(ds:List Nat):Prop:=
 ∃f,c= .mk f/\(∀call round,CallOK E call->RoundOK E round-> ∀rho tm,Loc (f call round rho tm))/\
  ∀call round,CallOK E call->RoundOK E round-> ∀(w0 w:World) (r:Inj) (U:Nat->Prop) rho tm (b:Frame) (t:Array Value) (dfs:List Deferred) (cs:List Frame) (base:List Deferred×List Frame) (s:St) (out:Out Value) (s':St),
   SlR r U ds rho tm t->(∀t,Operand.tmp t∈o.op.operands.toList->U t)->Rel w0 r s.mem w->CxR r base s.cx b dfs cs->Bnd s->AO r s.next s'.next->f call round rho tm s=rOf out s'->
   ∀(ops:Array Oper) i rest k,ops[i]?=some o->Region.wanted o (yielded ops t)=true->
    ∃w' r' dfs' cs',Goes w0 r s s' r' w'/\CxR r' base s'.cx b dfs' cs'/\s'.lim=s.lim/\
     Ny E.P r' out (lone (frm b t dfs (.inRegion ops (i::rest)::k)) cs w) b t dfs' ops o rest k cs' w'
theorem OpS.ofV {E:Env}{o:Oper}{c:Cl OpT}{ds:List Nat}(h:OpV E o c ds)(hd: ∀c,o.op≠ .defer c)(hl: ∀f,c= .mk f-> ∀call round rho tm,Loc (f call round rho tm)):OpS E o c ds:=by
 obtain⟨f,h1,h2,h3⟩:=h
 refine⟨f,h1,λcall round _ _=>hl f h1 call round, ?_⟩
 intro call round hc hro w0 w r U rho tm b t dfs cs base s out s' hs hu hr hx hb hf e ops i rest k ho hw
 cases out with
 |inr ch=>exact((h2 call round rho tm).no _ _ _ e).elim
 |inl v=>
  obtain⟨v',w',r',k1,k2,k3,k4,k5⟩:=h3 call round w0 w r U rho tm ⟨t,dfs⟩ s v s' hs hu hr e hf
  refine⟨w',r',dfs,cs,k2,by rw[k5];exact hx.mono k2.le,k4,v',k3, .one (step_lone_go ?_)⟩
  rw[FW ho hw (.inr hd),<-FE b t dfs ho]
  rcases k1 with k1|⟨k1,rfl⟩<;>simp[stepG.apply,k1]
theorem Aip_ (b:Frame)(t:Array Value)(d:List Deferred)(td:List Item)(ch:List PanicEntry):(frm b t d td).raise ch={frm b t d td with mode:= .panicking ch}:=rfl
section
variable {E:Env}{ds:List Nat}{o:Oper}
theorem VR.func_inv {r:Inj}{f:Fn}{a c:Array Value}{v':Value}(h:VR r (.func f a c) v'): ∃f' a' c',v'= .func f' a' c'/\FnR r f f'/\VRs r a.toList a'.toList/\VRs r c.toList c'.toList:=by
 cases h with
 |func h1 h2 h3 h4 h5=>exact⟨_,_,_,rfl,h1,bC h2 h3,bC h4 h5⟩
theorem Iy (ρ:Operand->Value){c:Call}{ty:TypeId}{x:Operand}{f:Fn}{a cap:Array Value}(hc:c.callee= .value x)(hx:ρ x= .func f a cap):
  resolve ρ c ty=pure {target:= .fn f cap,args:=a++c.args.map ρ}:=by
 unfold resolve
 simp only[hc,hx,Deferred.ofValue]
theorem Zi_ {x:Operand}{c:Call}(ho:o.op= .call c)(hc:c.callee= .value x):OpS E o (Qf ds x c.args.toList) ds:=by
 obtain⟨g,h1,h2⟩:=Bh ds x
 obtain⟨g',h3,h4⟩:=EJ ds c.args.toList
 refine⟨λcall round rho tm=>M.on (g rho tm) λf=>M.on (g' rho tm) λl=>Bk call round f l,by unfold Qf;simp only[h1,h3], ?_, ?_⟩
 ·intro call round hc1 hc2 rho tm
  refine A8 _ λf=>A8 _ λl=> ?_
  unfold Bk
  split
  ·exact hc1.loc _ _
  ·exact A1 _ (hc2.loc _ _)
  ·exact Ai
 ·intro call round hc1 hc2 w0 w r U rho tm b t dfs cs base s out s' hs hu hr hx hb hf e ops i rest k hoi hw
  have on': ∀{α β:Type} {y:Option α} {f:α->M β} {o:Out β} {s s':St},M.on y f s=rOf o s'-> ∃a,y=some a/\f a s=rOf o s':=by
   intro α β y f o s s' h
   cases y with
   |none=>exact(AA h).elim
   |some a=>exact⟨a,rfl,h⟩
  obtain⟨fv,e1,e⟩:=on' e
  obtain⟨l,e2,e⟩:=on' e
  have hfv:=h2 _ _ _ _ ⟨t,dfs⟩ _ hs (λt q=>hu t (by simp[ho,Op.operands,Call.operands,hc]at q ⊢;simp[q])) e1
  have hl:VRs r l (c.args.toList.map (Act.eval ⟨t,dfs⟩)):=h4 _ _ _ _ ⟨t,dfs⟩ _ hs (λt q=>hu t (by simp[ho,Op.operands,Call.operands]at q ⊢;simp[q])) e2
  have hmap:c.args.map (Act.eval ⟨t,dfs⟩)=(c.args.toList.map (Act.eval ⟨t,dfs⟩)).toArray:=by rw[<-List.map_toArray]
  have hd: ∀c,o.op≠ .defer c:=by rw[ho];intro c h;cases h
  unfold Bk at e
  split at e
  ·rename_i f first cap _
   obtain⟨f',a',c',q1,q2,q3,q4⟩:=hfv.func_inv
   cases f' with
   |func f'=>
    simp only[FnR]at q2
    subst q2
    have e1:(a'++c.args.map (Act.eval ⟨t,dfs⟩)++c')=(a'.toList++(c.args.toList.map (Act.eval ⟨t,dfs⟩)++c'.toList)).toArray:=by
     rw[hmap];simp
    rcases hc1.ok e hr hb hf (args':=a'.toList++(c.args.toList.map (Act.eval ⟨t,dfs⟩)++c'.toList)) (q3.append (hl.append q4))with⟨k1,k2⟩|⟨_,v,v',w',r',rfl,g1,g2,g3,g4,g5⟩
    case inr=>
     have hrun:(execOp (Act.eval ⟨t,dfs⟩) o).run E.P w= .ok (.value v') w':=by
      simp only[execOp,ho,Iy _ hc q1]
      simp only[invoke,Sem.run_bind,Sem.run_pure,Result.andThen_ok,e1,g5]
     refine⟨w',r',dfs,cs,g2,by rw[g4];exact hx.mono g2.le,g3,v',g1, .one (step_lone_go ?_)⟩
     rw[FW hoi hw (.inr hd),<-FE b t dfs hoi]
     simp[stepG.apply,hrun]
    obtain⟨w',r',g1,g2,g3,g4⟩:=k2 (frm b t dfs (.inRegion ops (i::rest)::k)) cs
    have henter:step E.P (lone (frm b t dfs (.inRegion ops (i::rest)::k)) cs w)=
      .next (lone (Frame.enter E.P f (a'.toList++(c.args.toList.map (Act.eval ⟨t,dfs⟩)++c'.toList)).toArray .normal) (frm b t dfs (.inRegion ops (i::rest)::k)::cs) w):=by
     refine step_lone_go ?_
     rw[FW hoi hw (.inr hd)]
     have hrun:(execOp (Act.eval ⟨t,dfs⟩) o).run E.P w= .ok (.enter f (a'.toList++(c.args.toList.map (Act.eval ⟨t,dfs⟩)++c'.toList)).toArray) w:=by
      simp only[execOp,ho,Iy _ hc q1]
      simp only[invoke,Sem.run_bind,Sem.run_pure,Result.andThen_ok,e1,k1]
     simp[stepG.apply,hrun,frm]
    refine⟨w',r',dfs,cs,g1,by rw[g3];exact hx.mono g1.le,g2, ?_⟩
    unfold Ends at g4
    cases out with
    |inl v=>
     obtain⟨v',p1,p2⟩:=g4
     rw[FE b t dfs hoi]at p2
     exact⟨v',p1, .head henter p2⟩
    |inr ch=>
     obtain⟨ch',p1,p2⟩:=g4
     exact⟨ch',_,p1, .head henter p2⟩
   |_=>simp only[FnR]at q2
  ·rename_i lp first cap _
   obtain⟨f',a',c',q1,q2,q3,q4⟩:=hfv.func_inv
   cases f' with
   |yield lp'=>
    obtain⟨dd,q2⟩:=q2
    cases hemp:first.isEmpty with
    |false=>rw[hemp]at e;exact(AA e).elim
    |true=>
     rw[hemp]at e
     have e':round lp l s=rOf out s':=e
     have hfe:first= #[]:=by simpa using hemp
     subst hfe
     have ha':a'= #[]:=by have:=q3.1;simp at this;simpa using this.symm
     subst ha'
     obtain⟨fn,tmn,as,bd,k1,k2⟩:=hc2.ok e' hr hb hf hl q2
     obtain⟨w',r',g1,g2,g3,g4⟩:=k2 (frm b t dfs (.inRegion ops (i::rest)::k)) cs
     have henter:step E.P (lone (frm b t dfs (.inRegion ops (i::rest)::k)) cs w)=
       .next (lone (Frame.round lp' fn tmn as bd .normal) (frm b t dfs (.inRegion ops (i::rest)::k)::cs) w):=by
      refine step_lone_go ?_
      rw[FW hoi hw (.inr hd)]
      have hrun:(execOp (Act.eval ⟨t,dfs⟩) o).run E.P w= .ok (.round lp' fn tmn as bd) w:=by
       simp only[execOp,ho,Iy _ hc q1]
       have e1:(#[]++c.args.map (Act.eval ⟨t,dfs⟩))=(c.args.toList.map (Act.eval ⟨t,dfs⟩)).toArray:=by
        rw[hmap];simp
       simp only[invoke,Sem.run_bind,Sem.run_pure,Result.andThen_ok,e1,k1]
      simp[stepG.apply,hrun,frm]
     refine⟨w',r',dfs,cs,g1,by rw[g3];exact hx.mono g1.le,g2, ?_⟩
     unfold Ends at g4
     cases out with
     |inl v=>
      obtain⟨v',p1,p2⟩:=g4
      rw[FE b t dfs hoi]at p2
      exact⟨v',p1, .head henter p2⟩
     |inr ch=>
      obtain⟨ch',p1,p2⟩:=g4
      exact⟨ch',_,p1, .head henter p2⟩
   |_=>simp only[FnR]at q2
  ·exact(AA e).elim
end
section
variable {E:Env}{ds:List Nat}{o:Oper}
theorem Eo {α:Type}{g:Option α}{f:α->M Value}(h: ∀a,Loc (f a)):Loc (λs=>Option.rec (motive:=λ_=>R Value) .none (λa=>f a s) g):=by
 cases g with
 |none=>exact DM_
 |some a=>exact h a
theorem Sn_ {α:Type}{x:Option α}{f:α->St->R Value}{s s':St}{out:Out Value}(h:Option.rec (motive:=λ_=>R Value) .none (λa=>f a s) x=rOf out s'): ∃a,x=some a/\f a s=rOf out s':=by
 cases x with
 |none=>exact(AA h).elim
 |some a=>exact⟨a,rfl,h⟩
theorem AfL_ {α:Type}{b:Bool}{m:M α}{o:Out α}{s s':St}(h:M.chk b m s=rOf o s'):b=true/\m s=rOf o s':=by
 cases b with
 |false=>exact(AA h).elim
 |true=>exact⟨rfl,h⟩
theorem Gl {α β:Type}{y:Option α}{f:α->M β}{o:Out β}{s s':St}(h:M.on y f s=rOf o s'): ∃a,y=some a/\f a s=rOf o s':=by
 cases y with
 |none=>exact(AA h).elim
 |some a=>exact⟨a,rfl,h⟩
theorem Cz {α β:Type}{m:M α}{f:α->M β}{o:Out β}{s s':St}(h:M.bind m f s=rOf o s'):(∃a s1,m s= .some a s1/\f a s1=rOf o s')\/ ∃c,m s= .pan c s'/\o= .inr c:=by
 unfold M.bind at h
 cases e:m s with
 |none=>rw[e]at h;exact(AA h).elim
 |some a s1=>rw[e]at h;exact .inl ⟨a,s1,rfl,h⟩
 |pan c s1=>
  rw[e]at h
  obtain⟨rfl,rfl⟩:=Ik h
  exact .inr ⟨c,rfl,rfl⟩
theorem PG {β:Type}{f:Ctx->M β}{s:St}:M.bind getCx f s=f s.cx s:=rfl
theorem RR_ {β:Type}{x:Ctx}{f:Unit->M β}{s:St}:M.bind (putCx x) f s=f () ⟨s.mem,s.next,s.lim,s.rd,s.wr,x⟩:=rfl
theorem AaR_ {x:Operand}(ho:o.op= .panic x):OpS E o (Bd ds x EJ_) ds:=by
 obtain⟨g,h1,h2⟩:=Bh ds x
 refine⟨_,by unfold Bd;rw[h1],λcall round _ _ rho tm=>Eo λa=> ?_, ?_⟩
 ·cases a<;>first|exact Pl _|exact Ai
 ·intro call round hc1 hc2 w0 w r U rho tm b t dfs cs base s out s' hs hu hr hx hb hf e ops i rest k hoi hw
  obtain⟨v,e1,e⟩:=Sn_ e
  have hv:VR r v (Act.eval ⟨t,dfs⟩ x):=h2 _ _ _ _ ⟨t,dfs⟩ _ hs (λt q=>hu t (by simp[ho,Op.operands]at q ⊢;simp[q])) e1
  have hd: ∀c,o.op≠ .defer c:=by rw[ho];intro c h;cases h
  cases v with
  |iface ty y=>
   obtain⟨rfl,rfl⟩:=Ik (show R.pan [{v:= .iface ty y,recovered:=false}] s=rOf out s' from e)
   cases hv':Act.eval ⟨t,dfs⟩ x with
   |iface ty' y'=>
    rw[hv']at hv
    refine⟨w,r,dfs,cs, .of_rel rfl hr,hx,rfl,[{v:= .iface ty' y',recovered:=false}], .inRegion ops (i::rest)::k, .cons hv rfl rfl .nil, .one (step_lone_go ?_)⟩
    rw[FW hoi hw (.inr hd)]
    simp only[execOp,ho,hv']
    rw[<-Aip_]
    simp[stepG.apply,Instr.panic,goPanic,Sem.run]
   |_=>rw[hv']at hv;cases hv
  |_=>exact(AA e).elim
theorem Pu_ {c:Call}(ho:o.op= .call c)(hc:c.callee= .builtin .recover):OpS E o (.mk λ_ _ _ _=>Ii) ds:=by
 refine⟨_,rfl,λ_ _ _ _ _ _=>YB_, ?_⟩
 intro call round hc1 hc2 w0 w r U rho tm b t dfs cs base s out s' hs hu hr hx hb hf e ops i rest k hoi hw
 have hd: ∀c,o.op≠ .defer c:=by rw[ho];intro c h;cases h
 have hrun:(execOp (Act.eval ⟨t,dfs⟩) o).run E.P w= .ok .recover w:=by
  simp[execOp,ho,resolve,hc,invoke,builtin]
 have key: ∀{v v':Value} {cs':List Frame},b.roundOf=none->((tryRecover (frm b t dfs (.inRegion ops (i::rest)::k)) cs=some (v',cs'))\/(tryRecover (frm b t dfs (.inRegion ops (i::rest)::k)) cs=none/\v'= .nilIface/\cs'=cs))->
   step E.P (lone (frm b t dfs (.inRegion ops (i::rest)::k)) cs w)= .next (lone (frm b (putT t o.dst v') dfs (.inRegion ops rest::k)) cs' w):=by
  intro v v' cs' hro htr
  refine step_lone_go ?_
  rw[FW hoi hw (.inr hd),<-FE b t dfs hoi]
  have hro':(frm b t dfs (.inRegion ops (i::rest)::k)).roundOf=none:=hro
  rcases htr with htr|⟨htr,rfl,rfl⟩<;>simp[stepG.apply,hrun,hro',htr]
 unfold Ii at e
 rw[PG]at e
 have fin:(∃m d,s.cx= .cx (some m) (some d))\/(∃d,s.cx= .cx none (some d)):=by
  cases hcx:s.cx with
  |no=>rw[hcx]at e;exact(AA e).elim
  |cx up d=>
   cases d with
   |none=>rw[hcx]at e;cases up<;>exact(AA e).elim
   |some d=>cases up with
    |none=>exact .inr ⟨d,rfl⟩
    |some m=>exact .inl ⟨m,d,rfl⟩
 rcases fin with⟨m,d,hcx⟩|⟨d,hcx⟩
 ·rw[hcx]at hx e
  unfold CxR at hx
  obtain⟨⟨q1,c0,rest0,m',q2,q3,q4⟩,q5,q6⟩:=hx
  have htry:=tryRecover_deferred (fr:=frm b t dfs (.inRegion ops (i::rest)::k)) q1 cs
  cases hrm:recM m with
  |none=>
   replace e:Option.rec (motive:=λ_=>M Value) (M.pure .nilIface) (λp=>M.bind (putCx (.cx (some p.2) (some d))) λ_=>M.pure p.1) (recM m) s=rOf out s':=e
   rw[hrm]at e
   obtain⟨rfl,rfl⟩:=A0 (show R.some .nilIface s=rOf out s' from e)
   refine⟨w,r,dfs,cs, .of_rel rfl hr, ?_,rfl, .nilIface, .nilIface, .one (key (v:= .nilIface) q5 (.inr ⟨?_,rfl,rfl⟩))⟩
   ·rw[hcx];exact⟨⟨q1,c0,rest0,m',q2,q3,q4⟩,q5,q6⟩
   ·rw[htry,q3]
    cases q4 with
    |run=>rfl
    |ret=>rfl
    |pan hch=>
     cases hch with
     |nil=>rfl
     | @cons e0 e1 l0 l1 p1 p2 p3 p4=>
      obtain⟨ev,er,eg⟩:=e0
      obtain⟨ev',er',eg'⟩:=e1
      simp only at p1 p2 p3
      subst p2
      subst p3
      cases er'<;>cases eg'<;>first|rfl|(simp[recM]at hrm)
  |some p=>
   replace e:Option.rec (motive:=λ_=>M Value) (M.pure .nilIface) (λp=>M.bind (putCx (.cx (some p.2) (some d))) λ_=>M.pure p.1) (recM m) s=rOf out s':=e
   rw[hrm]at e
   obtain⟨pv,pm⟩:=p
   obtain⟨rfl,rfl⟩:=A0 (show R.some pv ⟨s.mem,s.next,s.lim,s.rd,s.wr, .cx (some pm) (some d)⟩=rOf out s' from e)
   unfold recM at hrm
   split at hrm
   ·rename_i v older
    simp only[Option.some.injEq,Prod.mk.injEq]at hrm
    obtain⟨rfl,rfl⟩:=hrm
    cases q4 with
    |pan hch=>
     cases hch with
     | @cons _ e1 _ l1 p1 p2 p3 p4=>
      obtain⟨ev,er,eg⟩:=e1
      simp only at p1 p2 p3
      subst p2
      subst p3
      refine⟨w,r,dfs,{c0 with mode:= .panicking ({v:=ev,recovered:=true}::l1)}::rest0, .of_rel rfl hr, ?_,rfl,ev,p1, .one (key (v:=v) q5 (.inl ?_))⟩
      ·exact⟨⟨q1,c0,rest0,_,q2,rfl, .pan (.cons p1 rfl rfl p4)⟩,q5,q6⟩
      ·rw[htry,q3];rfl
   ·cases hrm
 ·rw[hcx]at hx e
  unfold CxR at hx
  obtain⟨⟨q1,q2⟩,q5,q6⟩:=hx
  obtain⟨rfl,rfl⟩:=A0 (show R.some .nilIface s=rOf out s' from e)
  refine⟨w,r,dfs,cs, .of_rel rfl hr, ?_,rfl, .nilIface, .nilIface, .one (key (v:= .nilIface) q5 (.inr ⟨?_,rfl,rfl⟩))⟩
  ·rw[hcx];exact⟨⟨q1,q2⟩,q5,q6⟩
  ·have hk:(frm b t dfs (.inRegion ops (i::rest)::k)).kind= .normal:=q1
   unfold tryRecover
   rw[hk]
theorem Adt_ {x:Operand}{c:Call}(ho:o.op= .defer c)(hc:c.callee= .value x):OpS E o (JB ds c) ds:=by
 obtain⟨g,h1,h2⟩:=Bh ds x
 obtain⟨g',h3,h4⟩:=EJ ds c.args.toList
 refine⟨λcall round rho tm=>M.on (g rho tm) λf=>M.on (g' rho tm) λl=>Il f l,by unfold JB;simp only[hc,h1,h3], ?_, ?_⟩
 ·intro call round _ _ rho tm
  exact A8 _ λf=>A8 _ λl=>Adz_ _ _
 ·intro call round hc1 hc2 w0 w r U rho tm b t dfs cs base s out s' hs hu hr hx hb hf e ops i rest k hoi hw
  obtain⟨fv,e1,e⟩:=Gl e
  obtain⟨l,e2,e⟩:=Gl e
  have hfv:=h2 _ _ _ _ ⟨t,dfs⟩ _ hs (λt q=>hu t (by simp[ho,Op.operands,Call.operands,hc]at q ⊢;simp[q])) e1
  have hl:VRs r l (c.args.toList.map (Act.eval ⟨t,dfs⟩)):=h4 _ _ _ _ ⟨t,dfs⟩ _ hs (λt q=>hu t (by simp[ho,Op.operands,Call.operands]at q ⊢;simp[q])) e2
  have hmap:c.args.map (Act.eval ⟨t,dfs⟩)=(c.args.toList.map (Act.eval ⟨t,dfs⟩)).toArray:=by rw[<-List.map_toArray]
  unfold Il at e
  rw[PG]at e
  have fin: ∃up d fn first cap,s.cx= .cx up (some d)/\fv= .func fn first cap:=by
   cases hcx:s.cx with
   |no=>rw[hcx]at e;cases fv<;>exact(AA e).elim
   |cx up d=>
    cases d with
    |none=>rw[hcx]at e;cases fv<;>exact(AA e).elim
    |some d=>cases fv with
     |func fn first cap=>exact⟨up,d,fn,first,cap,rfl,rfl⟩
     |_=>rw[hcx]at e;exact(AA e).elim
  obtain⟨up,d,fn,first,cap,hcx,rfl⟩:=fin
  ·rw[hcx]at e
   obtain⟨f',a',c',q1,q2,q3,q4⟩:=hfv.func_inv
   obtain⟨rfl,rfl⟩:=A0 (show R.some undef ⟨s.mem,s.next,s.lim,s.rd,s.wr, .cx up (some ({target:= .fn fn cap,args:=first++l.toArray}::d))⟩=rOf out s' from e)
   rw[hcx]at hx
   unfold CxR at hx
   obtain⟨p1,p2,p3⟩:=hx
   refine⟨w,r,{target:= .fn f' c',args:=a'++c.args.map (Act.eval ⟨t,dfs⟩)}::dfs,cs, .of_rel rfl hr,⟨p1,p2, .cons (.fn q2 q4 ?_) p3⟩,rfl,undef, .undef, .one (step_lone_go ?_)⟩
   ·rw[hmap];simpa using q3.append hl
   ·rw[FW hoi hw (.inl p2)]
    simp only[execOp,ho,Iy _ hc q1]
    rw[<-FE b t _ hoi]
    simp[stepG.apply,frm]
theorem Tk {k:Int->Int->St->R Value}{slow:Value->Value->M Value}(hk: ∀a b,Loc (k a b))(hs: ∀x y,Loc (slow x y))(x y:Value):Loc (int2 k slow x y):=by
 unfold int2 Cy
 cases x
 case int k1 a=>
  cases y
  case int k2 b=>
   cases h1:DP k1 with
   |false=>simp only[h1];exact hs _ _
   |true=>
    cases h2:DP k2 with
    |false=>simp only[h1,h2];exact hs _ _
    |true=>simp only[h1,h2];exact hk a b
  all_goals exact hs _ _
 all_goals exact hs _ _
theorem RD {k:Co}{slow:Value->Value->M Value}(hs: ∀x y,Loc (slow x y))(x y:Value):Loc (int3 k slow x y):=by
 unfold int3 Cy
 cases x
 case int k1 a=>
  cases y
  case int k2 b=>
   cases a with
   |negSucc m=>exact hs _ _
   |ofNat m=>
    cases b with
    |negSucc n=>exact hs _ _
    |ofNat n=>
     simp only
     cases k k1 k2 m n with
     |none=>exact hs _ _
     |some u=>exact Af _
  all_goals exact hs _ _
 all_goals exact hs _ _
theorem AlK_ {op:BinOp}{t:Nat}{x y:Operand}{f:Value->Value->M Value}(h:aBin E op t x y= .mk f): ∀a b,Loc (f a b):=by
 have slow: ∀op a b,Loc (AD E op t x y a b):=λop a b=>AhK_ _ _ _ _ _ _ _
 have rI': ∀n,Loc (rI n):=λn=>by
  have:rI n=(M.pure (.int .i64 (wrap64 n)):M Value):=by funext s;unfold rI;rw[EI];rfl
  rw[this];exact Af _
 have rB': ∀b,Loc (rB b):=λb=>by cases b<;>exact Af _
 intro a b
 cases op<;>cases h<;>first|exact slow _ _ _|exact RD (slow _) _ _|exact Tk (λa b=>rI' _) (RD (slow _)) _ _|exact Tk (λa b=>rB' _) (RD (slow _)) _ _
theorem EX_ {x:Operand}: ∀f,E2 ds x= .mk f-> ∀call round rho tm,Loc (f call round rho tm):=by
 obtain⟨g,h1,_⟩:=Bh ds x
 intro f h
 unfold E2 at h
 rw[h1]at h
 cases h
 exact λ_ _ _ _=>Eo (f:=λa=>M.pure a) λa=>Af a
theorem DA {x:Operand}{k:Value->M Value}(hk: ∀a,Loc (k a)): ∀f,Bd ds x k= .mk f-> ∀call round rho tm,Loc (f call round rho tm):=by
 obtain⟨g,h1,_⟩:=Bh ds x
 intro f h
 unfold Bd at h
 rw[h1]at h
 cases h
 exact λ_ _ _ _=>Eo hk
theorem IG {x y:Operand}{k:Value->Value->M Value}(hk: ∀a b,Loc (k a b)): ∀f,CE ds x y k= .mk f-> ∀call round rho tm,Loc (f call round rho tm):=by
 obtain⟨g,h1,_⟩:=Bh ds x
 obtain⟨g',h2,_⟩:=Bh ds y
 intro f h
 unfold CE at h
 rw[h1,h2]at h
 cases h
 exact λ_ _ rho tm=>Eo (f:=λa s=>Option.rec (motive:=λ_=>R Value) .none (λb=>k a b s) (g' rho tm)) λa=>Eo (hk a)
theorem AcD_ {l:List Operand}{k:List Value->M Value}(hk: ∀a,Loc (k a)): ∀f,G8 ds l k= .mk f-> ∀call round rho tm,Loc (f call round rho tm):=by
 obtain⟨g,h1,_⟩:=EJ ds l
 intro f h
 unfold G8 at h
 rw[h1]at h
 cases h
 exact λ_ _ _ _=>Eo hk
theorem Un_ {l l':List Operand}{k:List Value->List Value->M Value}(hk: ∀a b,Loc (k a b)): ∀f,HQ ds l l' k= .mk f-> ∀call round rho tm,Loc (f call round rho tm):=by
 obtain⟨g,h1,_⟩:=EJ ds l
 obtain⟨g',h2,_⟩:=EJ ds l'
 intro f h
 unfold HQ at h
 rw[h1,h2]at h
 cases h
 exact λ_ _ rho tm=>Eo (f:=λa s=>Option.rec (motive:=λ_=>R Value) .none (λb=>k a b s) (g' rho tm)) λa=>Eo (hk a)
theorem Cl_ {l:List (Nat×Operand)}{k:List (Nat×Value)->M Value}(hk: ∀a,Loc (k a)): ∀f,Fg ds l k= .mk f-> ∀call round rho tm,Loc (f call round rho tm):=by
 obtain⟨g,h1,_⟩:=NR ds l
 intro f h
 unfold Fg at h
 rw[h1]at h
 cases h
 exact λ_ _ _ _=>Eo hk
theorem QX_ {x y z:Operand}{k:Value->Value->Value->M Value}(hk: ∀a b c,Loc (k a b c)): ∀f,HZ ds x y z k= .mk f-> ∀call round rho tm,Loc (f call round rho tm):=by
 obtain⟨g,h1,_⟩:=Bh ds x
 obtain⟨g',h2,_⟩:=Bh ds y
 obtain⟨g2,h3,_⟩:=Bh ds z
 intro f h
 unfold HZ at h
 rw[h1,h2,h3]at h
 cases h
 exact λ_ _ rho tm=>A8 _ λa=>A8 _ λb=>A8 _ λc=>hk a b c
theorem Zl_ {t:Nat}{x:Operand}{lo hi mx:Option Operand}: ∀f,H0 E ds t x lo hi mx= .mk f-> ∀call round rho tm,Loc (f call round rho tm):=by
 cases mx with
 |some m=>intro f h;cases h;exact λ_ _ _ _=>Ai
 |none=>
  obtain⟨g,h1,_⟩:=Bh ds x
  obtain⟨g',h2,_⟩:=Ku ds lo
  obtain⟨g2,h3,_⟩:=Ku ds hi
  intro f h
  unfold H0 MR at h
  simp only[h1,h2,h3]at h
  cases h
  exact λ_ _ rho tm=>A8 _ λa=>A8 _ λb=>A8 _ λc=>ZW_ _ _ _ _ _
theorem M3:OpS E o Ht ds:=⟨_,rfl,λ_ _ _ _ _ _=>Ai,λ_call _round _ _ _w0 _w _r _U _rho _tm _b _t _dfs _cs _base _s _out _s' _hs _hu _hr _hx _hb _hf e=>(AA e).elim⟩
theorem Aii_ (he:EnvTy E)(o:Oper)(ds:List Nat):OpS E o (DM E ds o.op) ds:=by
 have nd: ∀{p:Op},o.op=p->(∀c,p≠ .defer c)-> ∀c,o.op≠ .defer c:=λh k c=>by rw[h];exact k c
 generalize hop:o.op=op
 unfold DM
 split
 ·exact .ofV (AiF_ hop) (nd hop (by intro c h;cases h)) EX_
 ·exact .ofV (Sf_ hop) (nd hop (by intro c h;cases h)) EX_
 ·exact .ofV (Ajy_ hop) (nd hop (by intro c h;cases h)) (QX_ AdU_)
 ·exact .ofV (Abe_ hop he) (nd hop (by intro c h;cases h)) (by intro f h;cases h;exact λ_ _ _ _=>PI_ _ _)
 ·exact .ofV (Ach_ hop) (nd hop (by intro c h;cases h)) (DA AeV_)
 ·exact .ofV (AfV_ hop he) (nd hop (by intro c h;cases h)) (Cl_ λa=>Adq_ _ _ _)
 ·exact .ofV (Ajx_ hop he) (nd hop (by intro c h;cases h)) (Cl_ λa=>We_ _ _ _ _)
 ·exact .ofV (Tx_ hop he) (nd hop (by intro c h;cases h)) (DA λa=>Vu_ _ _ _)
 ·exact .ofV (Px_ hop he) (nd hop (by intro c h;cases h)) (IG λa b=>Zs_ _ _ _ _)
 ·exact .ofV (AhZ_ hop) (nd hop (by intro c h;cases h)) (DA AbR_)
 ·refine .ofV (Amr_ hop he) (nd hop (by intro c h;cases h)) ?_
  rename_i op t x y yt
  generalize hc:aBin E op t x y=c
  obtain⟨f⟩:=c
  exact IG (AlK_ hc)
 ·exact .ofV (PP_ hop) (nd hop (by intro c h;cases h)) (DA λa=>AcQ_ _ _ _)
 ·exact .ofV (Adp_ hop he) (nd hop (by intro c h;cases h)) (DA λa=>Aci_ _ _ _ _)
 ·exact .ofV (Vs_ hop he) (nd hop (by intro c h;cases h)) (DA λa=>Xv_ _ _ _)
 ·exact .ofV (Vk_ hop he) (nd hop (by intro c h;cases h)) (DA λa=>Wp_ _ _ _)
 ·exact .ofV (Afv_ hop) (nd hop (by intro c h;cases h)) (Un_ λa b=>Af _)
 ·exact .ofV (AiL_ hop he) (nd hop (by intro c h;cases h)) (IG λa b=>VT_ _ _ _ _)
 ·exact .ofV (WB_ hop he) (nd hop (by intro c h;cases h)) Zl_
 ·exact .ofV (Abu_ hop he) (nd hop (by intro c h;cases h)) (DA λa=>ZQ_ _ _ _ _)
 ·exact .ofV (Aih_ hop he) (nd hop (by intro c h;cases h)) (DA λa=>Vw_ _ _ _ _)
 ·exact .ofV (Zm_ hop he) (nd hop (by intro c h;cases h)) (IG λa b=>AeW_ _ _ _ _)
 ·exact .ofV (AbJ_ hop he) (nd hop (by intro c h;cases h)) (IG λa b=>Yw_ _ _ _ _)
 ·exact .ofV (AhR_ hop) (nd hop (by intro c h;cases h)) (DA λa=>AkY_ _ _)
 ·rename_i c
  cases hc:c.callee with
  |value f=>unfold Gz;simp only[hc];exact Zi_ hop hc
  |invoke a b=>unfold Gz;simp only[hc];exact M3
  |builtin bi=>
   by_cases hbr:bi= .recover
   ·subst hbr;unfold Gz;simp only[hc];exact Pu_ hop hc
   ·have:Gz E ds c=G8 ds c.args.toList (AS E bi c.argTypes.toList):=by
     unfold Gz
     rw[hc]
     cases bi<;>first|rfl|exact absurd rfl hbr
    rw[this]
    exact .ofV (Xn_ hop hc hbr he) (nd hop (by intro c h;cases h)) (AcD_ λa=>Air_ _ _ _ _)
 ·exact AaR_ hop
 ·rename_i c
  cases hc:c.callee with
  |value f=>exact Adt_ hop hc
  |_=>unfold JB;simp only[hc];exact M3
 ·exact .ofV (AfE_ hop he) (nd hop (by intro c h;cases h)) (DA λa=>Xw_ _ _ _ _)
 ·exact M3
