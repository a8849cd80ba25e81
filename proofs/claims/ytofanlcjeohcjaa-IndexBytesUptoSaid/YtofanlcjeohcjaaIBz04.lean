import Derived.Test.YtofanlcjeohcjaaIBz03
import Derived.Recover
namespace Go.Proofs.Ytofanlcjeohcjaa.Am
open Go.RowKit
section
variable {E:Env}{ds:List Nat}{o:Oper}
theorem AiP_ {x:Operand}(ho:o.op= .move x):OpV E o (Fj ds x) ds:=Th (by simp[ho,Op.operands]) λa=>by simp only[execOp,ho]
theorem AqK_ {x:Operand}(ho:o.op= .assign x):OpV E o (Fj ds x) ds:=Th (by simp[ho,Op.operands]) λa=>by simp only[execOp,ho]
theorem AbR_ {e:Nat}(ho:o.op= .alloc e)(he:EnvTy E):OpV E o (.mk λ_ _ _ _=>A6 E e) ds:=by
 refine⟨_,rfl,λ_ _ _ _=>AoP_ _ _, ?_⟩
 intro call round w0 w r U rho tm a s v s' hs hu hr h hf
 exact(Apb_ he h hr hf).val (by simp only[execOp,ho];rfl)
theorem Akj_ {e:Nat}{x:Operand}(ho:o.op= .box e x):OpV E o (Bp ds x kBox) ds:=
 El (m:=Instr.box e) (by simp[ho,Op.operands]) (λa=>by simp only[execOp,ho];rfl) Atc_ λh hr hf hx=>AhJ_ h hr hf hx
theorem AcZ_ {t:Nat}{ps:Array (Nat×Operand)}(ho:o.op= .build t ps)(he:EnvTy E):OpV E o (Fz ds ps.toList (Br E t)) ds:=
 WM (m:=λl=>Instr.build t l.toArray) (by simp[ho,Op.operands]) (λa=>by simp only[execOp,ho];rw[<-List.map_toArray];rfl) (AcR_ _ _) λh hr hf hx=>Xn_ he h hr (by simpa using hx)
theorem AtI_ {t n:Nat}{ps:Array (Nat×Operand)}(ho:o.op= .buildSlice t n ps)(he:EnvTy E):OpV E o (Fz ds ps.toList (BS E t n)) ds:=
 WM (m:=λl=>Instr.buildSlice t n l.toArray) (by simp[ho,Op.operands]) (λa=>by simp only[execOp,ho];rw[<-List.map_toArray];rfl) (Acj_ _ _ _) λh hr hf hx=>Agj_ he h hr hf (by simpa using hx)
theorem AlE_ {t:Nat}{x:Operand}(ho:o.op= .load t x)(he:EnvTy E):OpV E o (Bp ds x (AE E t)) ds:=
 El (m:=Instr.loadAt t) (by simp[ho,Op.operands]) (λa=>by simp only[execOp,ho];rfl) (Aha_ _ _) λh hr hf hx=>ZU_ he h hr hx
theorem AwG_ {t:Nat}{x y:Operand}(ho:o.op= .store t x y)(he:EnvTy E):OpV E o (CW ds x y (Ax E t)) ds:=by
 obtain⟨g,h1,h2⟩:=BD ds x
 obtain⟨g',h3,h4⟩:=BD ds y
 refine⟨_,by unfold CW;rw[h1,h3],λ_ _ rho tm=>DH (g:=g rho tm) (f:=λa s=>Option.rec (motive:=λ_=>R Value) .none (λb=>Ax E t a b s) (g' rho tm)) λa=>DH (Xu_ _ _ a), ?_⟩
 intro call round w0 w r U rho tm a s v s' hs hu hr h hf
 obtain⟨y,e1,e2⟩:=DQ (f:=λa s=>Option.rec (motive:=λ_=>R Value) .none (λb=>Ax E t a b s) (g' rho tm)) h
 obtain⟨z,e3,e4⟩:=DQ e2
 obtain⟨rfl,w',k1,k2,k3,k4,k5⟩:=AhD_ he e4 hr (h2 _ _ _ _ _ _ hs (λt q=>hu t (by simp[ho,Op.operands]at q ⊢;simp[q])) e1) (h4 _ _ _ _ _ _ hs (λt q=>hu t (by simp[ho,Op.operands]at q ⊢;simp[q])) e3)
 refine⟨undef,w',r, .inr ⟨?_,rfl⟩, .of_rel k3 k2, .tuple rfl (λi v v' e=>by simp at e),k4,k5⟩
 simp[execOp,ho,k1]
theorem Zt_ {x:Operand}(ho:o.op= .nilCheck x):OpV E o (Bp ds x kNil) ds:=by
 obtain⟨g,h1,h2⟩:=BD ds x
 refine⟨_,by unfold Bp;rw[h1],λ_ _ rho tm=>DH (g:=g rho tm) AeC_, ?_⟩
 intro call round w0 w r U rho tm a s v s' hs hu hr h hf
 obtain⟨y,e1,e2⟩:=DQ h
 have hx:=h2 _ _ _ _ _ _ hs (λt q=>hu t (by simp[ho,Op.operands]at q ⊢;simp[q])) e1
 obtain⟨rfl,rfl,e3⟩:=AwI_ (P:=E.P) (w:=w) (a:=a) ho rfl e2 hx
 exact⟨_,w,r, .inl e3, .of_rel rfl hr,hx,rfl,rfl⟩
theorem Ara_ {op:BinOp}{t yt:Nat}{x y:Operand}(ho:o.op= .binOp op t x y yt)(he:EnvTy E):OpV E o (Cl.rec (motive:=λ_=>Cl OpT) (λf=>CW ds x y f) (aBin E op t x y)) ds:=by
 generalize hc:aBin E op t x y=c
 obtain⟨f⟩:=c
 refine JQ (m:=λy' z'=>do eqGuard op t x y y' z';binOp op t y' z') (by simp[ho,Op.operands]) (λa=>by simp only[execOp,ho];rfl) (λy' z'=> ?_) λh hr hf hx hy=>Abd_ hc he h hr hx hy
 have slow: ∀op,NoPan (AP E op t x y y' z'):=λop=>AdI_ _ _ _ _ _ _ _
 have fast3: ∀(k:Cz) op,NoPan (int3 k (AP E op t x y) y' z'):=λk op=>⟨λs c s' e=>by
  unfold int3 CJ at e
  cases y'<;>simp only at e
  case int k1 a=>
   cases z'<;>simp only at e
   case int k2 b=>
    cases a with
    |negSucc m=>exact(slow op).no _ _ _ e
    |ofNat m=>
     cases b with
     |negSucc m=>exact(slow op).no _ _ _ e
     |ofNat n=>
      simp only at e
      cases e1:k k1 k2 m n with
      |none=>rw[e1]at e;exact(slow op).no _ _ _ e
      |some u=>rw[e1]at e;cases e
   all_goals exact(slow op).no _ _ _ e
  all_goals exact(slow op).no _ _ _ e⟩
 have fast2: ∀(k:Int->Int->St->R Value) (k3:Cz) op,(∀a b,NoPan (k a b))->NoPan (int2 k (int3 k3 (AP E op t x y)) y' z'):=λk k3 op hk=>⟨λs c s' e=>by
  have f3:=fast3 k3 op
  unfold int2 CJ at e
  cases y'<;>simp only at e
  case int k1 a=>
   cases z'<;>simp only at e
   case int k2 b=>
    cases e1:Ec k1 with
    |false=>rw[e1]at e;exact f3.no _ _ _ e
    |true=>
     cases e2:Ec k2 with
     |false=>rw[e1,e2]at e;exact f3.no _ _ _ e
     |true=>rw[e1,e2]at e;exact(hk a b).no _ _ _ e
   all_goals exact f3.no _ _ _ e
  all_goals exact f3.no _ _ _ e⟩
 have rI': ∀n,NoPan (rI n):=λn=>⟨λs c s' e=>by unfold rI at e;rw[EB]at e;cases e⟩
 have rB': ∀b,NoPan (rB b):=λb=>⟨λs c s' e=>by cases b<;>cases e⟩
 cases op<;>cases hc<;>first|exact slow _|exact fast3 _ _|exact fast2 _ _ _ λa b=>rI' _|exact fast2 _ _ _ λa b=>rB' _
theorem Ana_ {op:UnOp}{t:Nat}{x:Operand}(ho:o.op= .unOp op t x):OpV E o (Bp ds x (kUn E.P op)) ds:=
 El (m:=Op.unary op) (by simp[ho,Op.operands]) (λa=>by simp only[execOp,ho];rfl) (Afc_ _ _) λh hr hf hx=>AfD_ h hr hx
theorem AhG_ {s d:Nat}{x:Operand}(ho:o.op= .convert s d x)(he:EnvTy E):OpV E o (Bp ds x (Cy E s d)) ds:=
 El (m:=convert s d) (by simp[ho,Op.operands]) (λa=>by simp only[execOp,ho];rfl) (Axz_ _ _ _) λh hr hf hx=>Yq_ he h hr hf hx
theorem Anm_ {t:Nat}{x:Operand}(ho:o.op= .sliceToArrayPointer t x)(he:EnvTy E):OpV E o (Bp ds x (F9 E t)) ds:=
 El (m:=Instr.arrayAt t) (by simp[ho,Op.operands]) (λa=>by simp only[execOp,ho];rfl) (ArK_ _ _) λh hr hf hx=>AiS_ he h hr hx
theorem AwQ_ {t:Nat}{x:Operand}(ho:o.op= .makeInterface t x)(he:EnvTy E):OpV E o (Bp ds x (EP E t)) ds:=
 El (m:=Instr.makeInterface t) (by simp[ho,Op.operands]) (λa=>by simp only[execOp,ho];rfl) (AxB_ _ _) λh hr hf hx=>Aim_ he h hr hx
theorem Arn_ {t:Nat}{x y:Operand}(ho:o.op= .makeSlice t x y)(he:EnvTy E):OpV E o (CW ds x y (EY E t)) ds:=
 JQ (m:=Instr.makeSlice t) (by simp[ho,Op.operands]) (λa=>by simp only[execOp,ho];rfl) (AnA_ _ _) λh hr hf hx hy=>Aru_ he h hr hf hx hy
theorem Akt_ {t f:Nat}{x:Operand}(ho:o.op= .fieldAddr t x f)(he:EnvTy E):OpV E o (Bp ds x λa=>kFld E t a f) ds:=
 El (m:=λx=>Instr.fieldAt t x f) (by simp[ho,Op.operands]) (λa=>by simp only[execOp,ho];rfl) (λy=>ApY_ _ _ y _) λh hr hf hx=>Ail_ he h hr hx
theorem Ati_ {t f:Nat}{x:Operand}(ho:o.op= .field t x f)(he:EnvTy E):OpV E o (Bp ds x λa=>Dv E t a f) ds:=
 El (m:=λx=>Instr.field t x f) (by simp[ho,Op.operands]) (λa=>by simp only[execOp,ho];rfl) (λy=>AjT_ _ _ y _) λh hr hf hx=>Aaa_ he h hr hx
theorem Aqm_ {t:Nat}{x y:Operand}(ho:o.op= .indexAddr t x y)(he:EnvTy E):OpV E o (CW ds x y (BJ E t)) ds:=
 JQ (m:=Instr.indexAt t) (by simp[ho,Op.operands]) (λa=>by simp only[execOp,ho];rfl) (Anl_ _ _) λh hr hf hx hy=>AwZ_ he h hr hx hy
theorem Alu_ {t:Nat}{x y:Operand}(ho:o.op= .index t x y)(he:EnvTy E):OpV E o (CW ds x y (kIdx E t)) ds:=
 JQ (m:=Instr.index t) (by simp[ho,Op.operands]) (λa=>by simp only[execOp,ho];rfl) (ArX_ _ _) λh hr hf hx hy=>Axc_ he h hr hx hy
theorem Xf_ {k:Nat}{x:Operand}(ho:o.op= .extract x k):OpV E o (Bp ds x (kExt k)) ds:=
 El (m:=λx=>Instr.extract x k) (by simp[ho,Op.operands]) (λa=>by simp only[execOp,ho];rfl) (AhY_ _) λh hr hf hx=>ZE_ h hr hx
theorem ApT_ {xt t:Nat}{c:Bool}{x:Operand}(ho:o.op= .typeAssert x xt t c)(he:EnvTy E):OpV E o (Bp ds x (ET E t c)) ds:=
 El (m:=λx=>Instr.typeAssert x xt t c) (by simp[ho,Op.operands]) (λa=>by simp only[execOp,ho];rfl) (AnY_ _ _ _) λh hr hf hx=>Aal_ he h hr hx
end
section
variable {E:Env}{ds:List Nat}{o:Oper}
theorem Agu_ {x y z:Operand}(ho:o.op= .pick x y z):OpV E o (It ds x y z Ay) ds:=by
 obtain⟨g,h1,h2⟩:=BD ds x
 obtain⟨g',h3,h4⟩:=BD ds y
 obtain⟨g2,h5,h6⟩:=BD ds z
 refine⟨_,by unfold It;rw[h1,h3,h5],λ_ _ rho tm=>B2 _ λa=>B2 _ λb=>B2 _ λc=>Adi_ _ _ _, ?_⟩
 intro call round w0 w r U rho tm a s v s' hs hu hr h hf
 obtain⟨x',e1,h⟩:=Cw h
 obtain⟨y',e2,h⟩:=Cw h
 obtain⟨z',e3,h⟩:=Cw h
 obtain⟨rfl,t,k1,k2⟩:=Ahb_ h (h2 _ _ _ _ _ _ hs (λt q=>hu t (by simp[ho,Op.operands]at q ⊢;simp[q])) e1) (h4 _ _ _ _ _ _ hs (λt q=>hu t (by simp[ho,Op.operands]at q ⊢;simp[q])) e2) (h6 _ _ _ _ _ _ hs (λt q=>hu t (by simp[ho,Op.operands]at q ⊢;simp[q])) e3)
 refine⟨_,w,r, .inl ?_, .of_rel rfl hr,k2,rfl,rfl⟩
 simp only[execOp,ho,k1]
 cases t<;>simp[asBool]
theorem AiJ_ {t:Nat}{x:Operand}{lo hi mx:Option Operand}(ho:o.op= .slice t x lo hi mx)(he:EnvTy E):OpV E o (Ix E ds t x lo hi mx) ds:=by
 cases mx with
 |some m=>
  exact⟨_,rfl,λ_ _ _ _=>AT,λcall round w0 w r U rho tm a s v s' hs hu hr h hf=>by cases h⟩
 |none=>
  obtain⟨g,h1,h2⟩:=BD ds x
  obtain⟨g',h3,h4⟩:=LJ ds lo
  obtain⟨g2,h5,h6⟩:=LJ ds hi
  refine⟨λ_ _ rho tm=>M.on (g rho tm) λa=>M.on (g' rho tm) λb=>M.on (g2 rho tm) λc=>Be E t a b c,by unfold Ix PY;simp only[h1,h3,h5],λ_ _ rho tm=>B2 _ λa=>B2 _ λb=>B2 _ λc=>ArJ_ _ _ _ _ _, ?_⟩
  intro call round w0 w r U rho tm a s v s' hs hu hr h hf
  obtain⟨x',e1,h⟩:=Cw h
  obtain⟨y',e2,h⟩:=Cw h
  obtain⟨z',e3,h⟩:=Cw h
  exact(AoK_ he h hr (h2 _ _ _ _ _ _ hs (λt q=>hu t (by simp[ho,Op.operands]at q ⊢;simp[q])) e1) (h4 _ _ _ _ _ _ hs (λt q=>hu t (by simp[ho,Op.operands]at q ⊢;simp[q])) e2) (h6 _ _ _ _ _ _ hs (λt q=>hu t (by simp[ho,Op.operands]at q ⊢;simp[q])) e3)).val (by simp only[execOp,ho];rfl)
theorem ZU {α β:Type}(f:α->β)(a:Array α):a.map f=(a.toList.map f).toArray:=by rw[<-List.map_toArray]
theorem VRs.func {r:Inj}{f:Nat}{a a' c c':List Value}(h:VRs r a a')(k:VRs r c c'):VR r (.func (.func f) a.toArray c.toArray) (.func (.func f) a'.toArray c'.toArray):=
 .func rfl (by simpa using h.1) (λi v v' e e'=>h.2 i v v' (by simpa using e) (by simpa using e')) (by simpa using k.1) (λi v v' e e'=>k.2 i v v' (by simpa using e) (by simpa using e'))
theorem AsX_ {f:Nat}{first cap:Array Operand}(ho:o.op= .makeFunc (.func f) first cap):OpV E o (H5 ds first.toList cap.toList λx c=>M.pure (.func (.func f) x.toArray c.toArray)) ds:=by
 obtain⟨g,h1,h2⟩:=Er ds first.toList
 obtain⟨g',h3,h4⟩:=Er ds cap.toList
 refine⟨_,by unfold H5;rw[h1,h3],λ_ _ rho tm=>DH (g:=g rho tm) (f:=λ(a:List Value) s=>Option.rec (motive:=λ_=>R Value) .none (λ(b:List Value)=>M.pure (Value.func (.func f) a.toArray b.toArray) s) (g' rho tm)) λa=>DH (f:=λ(b:List Value)=>M.pure (Value.func (.func f) a.toArray b.toArray)) λb=>AG _, ?_⟩
 intro call round w0 w r U rho tm a s v s' hs hu hr h hf
 obtain⟨x',e1,h⟩:=DQ (f:=λ(a:List Value) s=>Option.rec (motive:=λ_=>R Value) .none (λ(b:List Value)=>M.pure (Value.func (.func f) a.toArray b.toArray) s) (g' rho tm)) h
 obtain⟨y',e2,h⟩:=DQ (f:=λ(b:List Value)=>M.pure (Value.func (.func f) x'.toArray b.toArray)) h
 obtain⟨rfl,rfl⟩:=Aq h
 refine⟨_,w,r, .inl ?_, .of_rel rfl hr,(h2 _ _ _ _ _ _ hs (λt q=>hu t (by simp[ho,Op.operands]at q ⊢;simp[q])) e1).func (h4 _ _ _ _ _ _ hs (λt q=>hu t (by simp[ho,Op.operands]at q ⊢;simp[q])) e2),rfl,rfl⟩
 simp[execOp,ho,Instr.makeFunc]
 exact⟨ZU _ _,ZU _ _⟩
theorem AbP_ {b:Builtin}{c:Call}(ho:o.op= .call c)(hb:c.callee= .builtin b)(hn:b≠ .recover)(he:EnvTy E):OpV E o (GI ds c.args.toList (Bg E b c.argTypes.toList)) ds:=by
 obtain⟨g,h1,h2⟩:=Er ds c.args.toList
 refine⟨_,by unfold GI;rw[h1],λ_ _ rho tm=>DH (g:=g rho tm) (AfY_ _ _ _), ?_⟩
 intro call round w0 w r U rho tm a s v s' hs hu hr h hf
 obtain⟨l,e1,h⟩:=DQ h
 have hl:VRs r l (c.args.toList.map a.eval):=h2 _ _ _ _ _ _ hs (λt q=>hu t (by simp[ho,Op.operands,Call.operands]at q ⊢;simp[q])) e1
 have key: ∀{m:Sem Value},Yields E w0 r s s' v w m->(∀(cs:Array Bool) w,(builtin b c.argTypes o.type cs (c.args.map a.eval)).run E.P w=(Do m).run E.P w)->
   ∃v' w' r',((execOp a.eval o).run E.P w= .ok (.value v') w'\/((execOp a.eval o).run E.P w= .ok .skip w'/\v'=undef))/\Goes w0 r s s' r' w'/\VR r' v v'/\s'.lim=s.lim/\s'.cx=s.cx:=by
  intro m hy hm
  obtain⟨v',w',r',k1,k2,k3,k4,k5⟩:=hy
  refine⟨v',w',r', .inl ?_,k2,k3,k4,k5⟩
  simp only[execOp,ho,resolve,hb,invoke,Sem.run_bind,Sem.run_pure,Result.andThen_ok,hm,Do,k1]
 generalize hts:c.argTypes.toList=ts at h
 have hmap:c.args.map a.eval=(c.args.toList.map a.eval).toArray:=by rw[<-List.map_toArray]
 have ht0: ∀{t:Nat} {l:List Nat},c.argTypes.toList=t::l->c.argTypes[0]?=some t:=by
  intro t l e;rw[<-Array.getElem?_toList,e];rfl
 have ht1: ∀{t t2:Nat} {l:List Nat},c.argTypes.toList=t::t2::l->c.argTypes[1]?=some t2:=by
  intro t t2 l e;rw[<-Array.getElem?_toList,e];rfl
 unfold Bg at h
 split at h
 ·rename_i t ts' x
  obtain⟨x',l',q1,q2,q3⟩:=hl.inv
  have:=q3.inv_nil
  subst this
  refine key (AdU_ (ty:=o.type) (ht0 hts) he h hr q2) λcs w=> ?_
  rw[hmap,q1];simp[builtin,Do]
 ·rename_i t ts' x
  obtain⟨x',l',q1,q2,q3⟩:=hl.inv
  have:=q3.inv_nil
  subst this
  refine key (Asq_ (ty:=o.type) (ht0 hts) he h hr q2) λcs w=> ?_
  rw[hmap,q1];simp[builtin,Do]
 ·obtain⟨y',l1,q1,q2,q3⟩:=hl.inv
  obtain⟨x',l',q4,q5,q6⟩:=q3.inv
  have:=q6.inv_nil
  subst this
  subst q4
  refine key (Aju_ (ty:=o.type) (ht0 hts) (ht1 hts) he h hr hf q2 q5) λcs w=> ?_
  rw[hmap,q1];simp[builtin,Do]
 ·obtain⟨y',l1,q1,q2,q3⟩:=hl.inv
  obtain⟨x',l',q4,q5,q6⟩:=q3.inv
  have:=q6.inv_nil
  subst this
  subst q4
  refine key (Alp_ (ty:=o.type) (ht0 hts) he h hr q2 q5) λcs w=> ?_
  rw[hmap,q1];simp[builtin,Do]
 ·refine key (Amo_ (ts:=c.argTypes) (ty:=o.type) h hr hl) λcs w=> ?_
  rw[hmap];simp[builtin,Do]
 ·refine key (Aaw_ (ts:=c.argTypes) (ty:=o.type) h hr hl) λcs w=> ?_
  rw[hmap];simp[builtin,Do]
 ·cases h
end
abbrev Out (α:Type):Type:=Sum α (List PanicEntry)
def rOf {α:Type}(o:Out α)(s:St):R α:=
 match o with
 | .inl a=> .some a s
 | .inr c=> .pan c s
def Bnd (s:St):Prop:=s.lim<=s.next
structure LocG {α:Type}(m:M α)(s:St)(o:Out α)(s':St)(Rd Wr:Nat->Prop)(dr dw:List Nat):Prop where
 rd:s'.rd=dr++s.rd
 wr:s'.wr=dw++s.wr
 nxt:s.next<=s'.next
 lim:s'.lim=s.lim
 bnd:Bnd s'
 rlt: ∀l,Rd l->l<s'.next
 wlt: ∀l,Wr l->l<s'.next
 old: ∀l,¬Wr l->T.get s'.mem l=T.get s.mem l
 any: ∀t:St,t.next=s.next->t.lim=s.lim->t.cx=s.cx->(∀l,Rd l\/Wr l->T.get t.mem l=T.get s.mem l)->
  ∃t',m t=rOf o t'/\t'.next=s'.next/\t'.lim=s'.lim/\t'.cx=s'.cx/\t'.rd=dr++t.rd/\t'.wr=dw++t.wr/\
   (∀l,Wr l->T.get t'.mem l=T.get s'.mem l)/\(∀l,¬Wr l->T.get t'.mem l=T.get t.mem l)
def Db {α:Type}(m:M α)(s:St)(o:Out α)(s':St):Prop:=
 ∃Rd Wr dr dw,LocG m s o s' Rd Wr dr dw/\(∀l,Rd l->l<s.lim->l∈dr)/\(∀l,Wr l->l<s.lim->l∈dw)
structure Loc {α:Type}(m:M α):Prop where
 at': ∀s o s',m s=rOf o s'->Bnd s->Db m s o s'
theorem LocG.seq {α β:Type}{m:M α}{n C:M β}{s s1 s':St}{o1:Out α}{o:Out β}{R1 W1 R2 W2:Nat->Prop}{r1 w1 r2 w2:List Nat}
  (h:LocG m s o1 s1 R1 W1 r1 w1) (k:LocG n s1 o s' R2 W2 r2 w2) (hC: ∀t t1,m t=rOf o1 t1->C t=n t1):LocG C s o s' (λl=>R1 l\/R2 l) (λl=>W1 l\/W2 l) (r2++r1) (w2++w1) where
 rd:=by rw[k.rd,h.rd,List.append_assoc]
 wr:=by rw[k.wr,h.wr,List.append_assoc]
 nxt:=Nat.le_trans h.nxt k.nxt
 lim:=k.lim.trans h.lim
 bnd:=k.bnd
 rlt:=λl e=>e.elim (λe=>Nat.lt_of_lt_of_le (h.rlt l e) k.nxt) (k.rlt l)
 wlt:=λl e=>e.elim (λe=>Nat.lt_of_lt_of_le (h.wlt l e) k.nxt) (k.wlt l)
 old:=λl e=>(k.old l λx=>e (.inr x)).trans (h.old l λx=>e (.inl x))
 any:=λt e1 e2 e3 e4=>by
  obtain⟨t1,q1,q2,q3,q4,q5,q6,q7,q8⟩:=h.any t e1 e2 e3 λl e=>e4 l (e.elim (λe=> .inl (.inl e)) (λe=> .inr (.inl e)))
  obtain⟨t2,p1,p2,p3,p4,p5,p6,p7,p8⟩:=k.any t1 q2 q3 q4 (λl e=>by
   by_cases hw:W1 l
   ·exact q7 l hw
   ·rw[q8 l hw,h.old l hw]
    exact e4 l (e.elim (λe=> .inl (.inr e)) (λe=> .inr (.inr e))))
  refine⟨t2,(hC t t1 q1).trans p1,p2,p3,p4,by rw[p5,q5,List.append_assoc],by rw[p6,q6,List.append_assoc],λl e=> ?_,λl e=>(p8 l λx=>e (.inr x)).trans (q8 l λx=>e (.inl x))⟩
  by_cases hw:W2 l
  ·exact p7 l hw
  ·rw[p8 l hw,k.old l hw]
   exact e.elim (q7 l) (λx=>absurd x hw)
theorem Db.bnd {α:Type}{m:M α}{s s':St}{o:Out α}(h:Db m s o s'):Bnd s':=let ⟨_,_,_,_,e,_⟩:=h;e.bnd
theorem Db.lim {α:Type}{m:M α}{s s':St}{o:Out α}(h:Db m s o s'):s'.lim=s.lim:=let ⟨_,_,_,_,e,_⟩:=h;e.lim
theorem Db.next {α:Type}{m:M α}{s s':St}{o:Out α}(h:Db m s o s'):s.next<=s'.next:=let ⟨_,_,_,_,e,_⟩:=h;e.nxt
theorem Db.seq {α β:Type}{m:M α}{n C:M β}{s s1 s':St}{o1:Out α}{o:Out β}(h:Db m s o1 s1)(k:Db n s1 o s')(hC: ∀t t1,m t=rOf o1 t1->C t=n t1):Db C s o s':=by
 obtain⟨R1,W1,r1,w1,h1,h2,h3⟩:=h
 obtain⟨R2,W2,r2,w2,k1,k2,k3⟩:=k
 refine⟨_,_,_,_,h1.seq k1 hC,λl e x=> ?_,λl e x=> ?_⟩
 ·exact e.elim (λe=>List.mem_append_right _ (h2 l e x)) (λe=>List.mem_append_left _ (k2 l e (by rw[h1.lim];exact x)))
 ·exact e.elim (λe=>List.mem_append_right _ (h3 l e x)) (λe=>List.mem_append_left _ (k3 l e (by rw[h1.lim];exact x)))
theorem Bh {α:Type}{o:Out α}{a:α}{s s':St}(h:R.some a s=rOf o s'):o= .inl a/\s'=s:=by cases o<;>cases h;exact⟨rfl,rfl⟩
theorem HU {α:Type}{o:Out α}{c:List PanicEntry}{s s':St}(h:R.pan c s=rOf o s'):o= .inr c/\s'=s:=by cases o<;>cases h;exact⟨rfl,rfl⟩
theorem AL {α:Type}{o:Out α}{s':St}(h:R.none=rOf o s'):False:=by cases o<;>cases h
theorem Db.quiet {α:Type}{m:M α}{s:St}{o:Out α}(hb:Bnd s)(h: ∀t:St,t.cx=s.cx->m t=rOf o t):Db m s o s:=
 ⟨λ_=>False,λ_=>False,[],[],⟨rfl,rfl,Nat.le_refl _,rfl,hb,λ_ e=>e.elim,λ_ e=>e.elim,λ_ _=>rfl,
  λt e1 e2 e3 _=>⟨t,h t e3,e1,e2,e3,rfl,rfl,λ_ e=>e.elim,λ_ _=>rfl⟩⟩,λ_ e=>e.elim,λ_ e=>e.elim⟩
theorem As {α:Type}(a:α):Loc (M.pure a):=⟨λs o s' h hb=>by
 obtain⟨rfl,rfl⟩:=Bh h
 exact .quiet hb λt _=>rfl⟩
theorem Az {α:Type}:Loc (aC:M α):=⟨λs o s' h hb=>(AL h).elim⟩
theorem Fg {α:Type}(x:Option α):Loc (M.ofOpt x):=by
 cases x with
 |none=>exact Az
 |some a=>exact As a
theorem H3 {α β:Type}{m:M α}{f:α->M β}{g:List PanicEntry->M β}(h:Loc m)(kf: ∀a,Loc (f a))(kg: ∀c,Loc (g c)):
  Loc (λs=>R.rec (motive:=λ_=>R β) .none (λa s=>f a s) (λc s=>g c s) (m s)):=⟨λs o s' e hb=>by
 cases e1:m s with
 |none=>rw[e1]at e;exact(AL e).elim
 |some a s1=>
  rw[e1]at e
  have h1:=h.at' s (.inl a) s1 e1 hb
  exact h1.seq ((kf a).at' s1 o s' e h1.bnd) λt t1 q=>by rw[q];rfl
 |pan c s1=>
  rw[e1]at e
  have h1:=h.at' s (.inr c) s1 e1 hb
  exact h1.seq ((kg c).at' s1 o s' e h1.bnd) λt t1 q=>by rw[q];rfl⟩
theorem QN {α:Type}(c:List PanicEntry):Loc (λs=>R.pan c s:M α):=⟨λs o s' h hb=>by
 obtain⟨rfl,rfl⟩:=HU h
 exact .quiet hb λt _=>rfl⟩
theorem T4 {α:Type}:Loc (λ_=>R.none:M α):=⟨λs o s' h hb=>(AL h).elim⟩
theorem Au {α β:Type}{m:M α}{f:α->M β}(h:Loc m)(k: ∀a,Loc (f a)):Loc (M.bind m f):=H3 h k λc=>QN c
theorem Id_ {α:Type}{m:M α}(h:Loc m):Loc (noP m):=H3 h (λa=>As a) λ_=>T4
theorem Bk {α:Type}(b:Bool){m:M α}(h:Loc m):Loc (M.chk b m):=by
 cases b with
 |false=>exact Az
 |true=>exact h
theorem EC {α:Type}(b:Bool){m n:M α}(h:Loc m)(k:Loc n):Loc (aO b m n):=by cases b<;>assumption
theorem BA {α β:Type}(x:Option α){f:α->M β}(k: ∀a,Loc (f a)):Loc (M.on x f):=by
 cases x with
 |none=>exact Az
 |some a=>exact k a
theorem E3 {α:Type}(n:Nat){f:Nat->M α}(k: ∀a,Loc (f a)):Loc (fN n f):=by rw[AB];exact k _
theorem ZT {α:Type}(n:Int){f:Int->M α}(k: ∀a,Loc (f a)):Loc (fI n f):=by rw[EB];exact k _
theorem K9 {α:Type}(n:Addr){f:Addr->M α}(k: ∀a,Loc (f a)):Loc (fA n f):=by rw[C1];exact k _
theorem Apm_ {α:Type}(v:Value){f:IntKind->Int->M α}{d:M α}(h: ∀k n,Loc (f k n))(k:Loc d):Loc (CJ v f d):=by
 cases v<;>first|exact h _ _|exact k
theorem HW {α:Type}(b:Bool){m n:M α}(h:Loc m)(k:Loc n):Loc (Bool.rec (motive:=λ_=>M α) m n b):=by cases b<;>assumption
theorem FP {α β:Type}(x:Option α){m:M β}{f:α->M β}(h:Loc m)(k: ∀a,Loc (f a)):Loc (Option.rec (motive:=λ_=>M β) m (λa=>f a) x):=by
 cases x with
 |none=>exact h
 |some a=>exact k a
theorem KJ (loc lim:Nat)(l:List Nat):notes loc lim l=if loc<lim then loc::l else l:=by
 unfold notes
 cases h:Nat.blt loc lim with
 |true=>rw[if_pos (BF h)]
 |false=>rw[if_neg];intro h2;rw[show Nat.blt loc lim=true from Nat.ble_eq_true_of_le h2]at h;cases h
theorem E7 (loc lim:Nat)(l:List Nat):notes loc lim l=notes loc lim []++l:=by
 rw[KJ,KJ]
 split<;>rfl
theorem Mo {loc lim:Nat}(h:loc<lim):loc∈notes loc lim []:=by rw[KJ,if_pos h];exact List.mem_cons_self
theorem S2 (loc:Nat)(s:St):rdC loc s=if loc<s.next then match T.get s.mem loc with|none=> .none|some c=> .some c ⟨s.mem,s.next,s.lim,notes loc s.lim s.rd,s.wr,s.cx⟩else .none:=by
 obtain⟨mem,next,lim,rd,wr,cx⟩:=s
 unfold rdC
 simp only
 cases hb:Nat.blt loc next with
 |false=>rw[if_neg];intro h2;rw[show Nat.blt loc next=true from Nat.ble_eq_true_of_le h2]at hb;cases hb
 |true=>
  rw[if_pos (BF hb)]
  cases T.get mem loc<;>rfl
theorem TC (loc:Nat)(c:Cell)(s:St):wrC loc c s=if loc<s.next then .some () ⟨T.set s.mem loc c,s.next,s.lim,s.rd,notes loc s.lim s.wr,s.cx⟩else .none:=by
 obtain⟨mem,next,lim,rd,wr,cx⟩:=s
 unfold wrC
 obtain⟨v,l,r,e⟩:=aS mem loc c
 simp only[e]
 cases hb:Nat.blt loc next with
 |false=>rw[if_neg];intro h2;rw[show Nat.blt loc next=true from Nat.ble_eq_true_of_le h2]at hb;cases hb
 |true=>rw[if_pos (BF hb)]
theorem Nu_ (loc:Nat)(s:St):delC loc s=if loc<s.next then .some () ⟨aW s.mem loc,s.next,s.lim,s.rd,notes loc s.lim s.wr,s.cx⟩else .none:=by
 obtain⟨mem,next,lim,rd,wr,cx⟩:=s
 unfold delC
 simp only
 cases hb:Nat.blt loc next with
 |false=>rw[if_neg];intro h2;rw[show Nat.blt loc next=true from Nat.ble_eq_true_of_le h2]at hb;cases hb
 |true=>rw[if_pos (BF hb)]
theorem UD (vs:List Value)(s:St):newL vs s= .some s.next ⟨layL s.next vs s.next s.mem,s.next+vs.length+1,s.lim,s.rd,s.wr,s.cx⟩:=by
 obtain⟨mem,next,lim,rd,wr,cx⟩:=s
 have h0:newL vs ⟨mem,next,lim,rd,wr,cx⟩=fN next λb=>fN (Nat.succ (Nat.add b vs.length)) λn=>R.some b (St.mk (layL b vs b mem) n lim rd wr cx):=rfl
 rw[h0,AB,AB]
 rfl
theorem FT (loc:Nat):Loc (rdC loc):=⟨λs o s' h hb=>by
 rw[S2]at h
 split at h
 case isFalse=>exact(AL h).elim
 case isTrue hl=>
  cases e:T.get s.mem loc with
  |none=>rw[e]at h;exact(AL h).elim
  |some c=>
   rw[e]at h
   obtain⟨rfl,rfl⟩:=Bh h
   refine⟨λl=>l=loc,λ_=>False,notes loc s.lim [],[],⟨E7 _ _ _,rfl,Nat.le_refl _,rfl,hb,λl e1=>by rw[e1];exact hl,λ_ e=>e.elim,λ_ _=>rfl,λt e1 e2 e3 e4=> ?_⟩,λl e1 e2=> ?_,λ_ e=>e.elim⟩
   ·refine⟨⟨t.mem,t.next,t.lim,notes loc t.lim t.rd,t.wr,t.cx⟩, ?_,e1,e2,e3, ?_,rfl,λ_ e=>e.elim,λ_ _=>rfl⟩
    ·rw[S2,if_pos (by rw[e1];exact hl),e4 loc (.inl rfl),e];rfl
    ·rw[<-e2];exact E7 _ _ _
   ·rw[e1];exact Mo (by rw[<-e1];exact e2)⟩
theorem EL (loc:Nat)(c:Cell):Loc (wrC loc c):=⟨λs o s' h hb=>by
 rw[TC]at h
 split at h
 case isFalse=>exact(AL h).elim
 case isTrue hl=>
  obtain⟨rfl,rfl⟩:=Bh h
  refine⟨λ_=>False,λl=>l=loc,[],notes loc s.lim [],⟨rfl,E7 _ _ _,Nat.le_refl _,rfl,hb,λ_ e=>e.elim,λl e1=>by rw[e1];exact hl,λl e=> ?_,λt e1 e2 e3 e4=> ?_⟩,λ_ e=>e.elim,λl e1 e2=> ?_⟩
  ·simp only[T.get_set,if_neg e]
  ·refine⟨⟨T.set t.mem loc c,t.next,t.lim,t.rd,notes loc t.lim t.wr,t.cx⟩, ?_,e1,e2,e3,rfl, ?_,λl e=> ?_,λl e=> ?_⟩
   ·rw[TC,if_pos (by rw[e1];exact hl)];rfl
   ·rw[<-e2];exact E7 _ _ _
   ·simp only[T.get_set,if_pos e]
   ·simp only[T.get_set,if_neg e]
  ·rw[e1];exact Mo (by rw[<-e1];exact e2)⟩
theorem AnJ_ (loc:Nat):Loc (delC loc):=⟨λs o s' h hb=>by
 rw[Nu_]at h
 split at h
 case isFalse=>exact(AL h).elim
 case isTrue hl=>
  obtain⟨rfl,rfl⟩:=Bh h
  refine⟨λ_=>False,λl=>l=loc,[],notes loc s.lim [],⟨rfl,E7 _ _ _,Nat.le_refl _,rfl,hb,λ_ e=>e.elim,λl e1=>by rw[e1];exact hl,λl e=> ?_,λt e1 e2 e3 e4=> ?_⟩,λ_ e=>e.elim,λl e1 e2=> ?_⟩
  ·simp only[aV,if_neg e]
  ·refine⟨⟨aW t.mem loc,t.next,t.lim,t.rd,notes loc t.lim t.wr,t.cx⟩, ?_,e1,e2,e3,rfl, ?_,λl e=> ?_,λl e=> ?_⟩
   ·rw[Nu_,if_pos (by rw[e1];exact hl)];rfl
   ·rw[<-e2];exact E7 _ _ _
   ·simp only[aV,if_pos e]
   ·simp only[aV,if_neg e]
  ·rw[e1];exact Mo (by rw[<-e1];exact e2)⟩
theorem KI (b:Nat): ∀(vs:List Value) (loc:Nat) (t:T Cell) (k:Nat),T.get (layL b vs loc t) k=if loc<=k/\k<loc+vs.length then(vs[k-loc]?).map (.C b)else T.get t k
 |[],loc,t,k=>by rw[if_neg (λe=>by have:=e.2;simp at this;omega)];rfl
 |v::vs,loc,t,k=>by
  have h0:layL b (v::vs) loc t=fN loc λloc=>layL b vs (Nat.succ loc) (T.set t loc (.C b v)):=rfl
  rw[h0,AB,KI b vs]
  by_cases h1:loc=k
  ·subst h1
   rw[if_neg J,if_pos am,T.get_set,if_pos rfl]
   simp
  ·by_cases h2:loc<=k/\k<loc+(v::vs).length
   ·have h3:k-loc=(k-Nat.succ loc)+1:=J
    rw[if_pos h2,if_pos (by simp at h2 ⊢;omega),h3,List.getElem?_cons_succ]
   ·rw[if_neg h2,if_neg (by simp at h2 ⊢;omega),T.get_set,if_neg (λe=>h1 e.symm)]
theorem Hg (vs:List Value):Loc (newL vs):=⟨λs o s' h hb=>by
 rw[UD]at h
 obtain⟨rfl,rfl⟩:=Bh h
 refine⟨λ_=>False,λl=>s.next<=l/\l<s.next+vs.length,[],[],⟨rfl,rfl,by show s.next<=s.next+vs.length+1;omega,rfl, ?_,λ_ e=>e.elim,λl e=> ?_,λl e=> ?_,λt e1 e2 e3 e4=> ?_⟩,λ_ e=>e.elim,λl e1 e2=> ?_⟩
 ·show s.lim<=s.next+vs.length+1
  unfold Bnd at hb;omega
 ·show l<s.next+vs.length+1
  omega
 ·simp only[KI,if_neg e]
 ·refine⟨⟨layL t.next vs t.next t.mem,t.next+vs.length+1,t.lim,t.rd,t.wr,t.cx⟩, ?_,by rw[e1],e2,e3,rfl,rfl,λl e=> ?_,λl e=> ?_⟩
  ·rw[UD,e1];rfl
  ·simp only[KI,e1,if_pos e]
  ·simp only[KI,e1,if_neg e]
 ·unfold Bnd at hb;omega⟩
theorem IL:Loc GD:=⟨λs o s' h hb=>by
 obtain⟨rfl,rfl⟩:=Bh (show R.some s.cx s=rOf o s' from h)
 exact .quiet hb λt e=>by rw[<-e];rfl⟩
theorem PP (x:Ctx):Loc (DT x):=⟨λs o s' h hb=>by
 obtain⟨rfl,rfl⟩:=Bh (show R.some () (St.mk s.mem s.next s.lim s.rd s.wr x)=rOf o s' from h)
 exact⟨λ_=>False,λ_=>False,[],[],⟨rfl,rfl,Nat.le_refl _,rfl,hb,λ_ e=>e.elim,λ_ e=>e.elim,λ_ _=>rfl,
  λt e1 e2 e3 _=>⟨St.mk t.mem t.next t.lim t.rd t.wr x,rfl,e1,e2,rfl,rfl,rfl,λ_ e=>e.elim,λ_ _=>rfl⟩⟩,λ_ e=>e.elim,λ_ e=>e.elim⟩⟩
theorem Bi_ (a:Addr):Loc (rdV a):=by
 obtain⟨b,o,s⟩:=a
 cases s with
 |some x=>exact Az
 |none=>exact Au (FT _) λc=>Fg _
theorem Alw_ (a:Addr)(v:Value):Loc (wrV a v):=by
 obtain⟨b,o,s⟩:=a
 cases s with
 |some x=>exact Az
 |none=>exact Au (FT _) λc=>Bk _ (EL _ _)
theorem FK: ∀(n:Nat) (a:Addr),Loc (rdL n a)
 |0,_=>As _
 |n+1,a=>by
  have h0:rdL (n+1) a=fA a λa=>M.bind (rdV a) λv=>M.bind (rdL n ⟨a.block,Nat.succ a.off,a.spot⟩) λl=>M.pure (v::l):=rfl
  rw[h0]
  exact K9 _ λa=>Au (Bi_ a) λv=>Au (FK n _) λl=>As _
theorem IB: ∀(vs:List Value) (a:Addr),Loc (wrL vs a)
 |[],_=>As _
 |v::vs,a=>by
  have h0:wrL (v::vs) a=fA a λa=>M.bind (wrV a v) λ_=>wrL vs ⟨a.block,Nat.succ a.off,a.spot⟩:=rfl
  rw[h0]
  exact K9 _ λa=>Au (Alw_ a v) λv=>IB vs _
theorem Rt: ∀(n l:Nat),Loc (CR n l)
 |0,_=>As _
 |n+1,l=>by
  have h0:CR (n+1) l=M.bind (delC l) λ_=>CR n (l+1):=rfl
  rw[h0]
  exact Au (AnJ_ l) λ_=>Rt n _
theorem Bm (x0:_)(x1:_):Loc (ti x0 x1):=by
 unfold ti
 repeat' (first|exact Fg _|intro _|split)
theorem IG (x0:_):Loc (pV x0):=by
 unfold pV
 repeat' (first|exact As _|apply Bk|apply ZT|apply Apm_|intro _|split)
theorem Ase_ (x0:_)(x1:_)(x2:_)(x3:_)(x4:_):Loc (EV x0 x1 x2 x3 x4):=by
 unfold EV
 repeat' (first|exact As _|exact Az|exact Bm _ _|apply Au|apply BA|intro _|split)
theorem Xj_ (x0:_)(x1:_):Loc (GS x0 x1):=by
 unfold GS
 repeat' (first|exact As _|exact Az|intro _|split)
theorem Aij_ (x0:_)(x1:_)(x2:_):Loc (GM x0 x1 x2):=by
 unfold GM
 repeat' (first|exact Xj_ _ _|apply Bk|apply BA|intro _|split)
theorem Aad_ (x0:_)(x1:_)(x2:_)(x3:_)(x4:_)(x5:_)(x6:_):Loc (AP x0 x1 x2 x3 x4 x5 x6):=by
 unfold AP
 repeat' (first|exact Aij_ _ _ _|exact Ase_ _ _ _ _ _|exact IG _|apply EC|apply BA|intro _|split)
theorem Avf_ (x0:_):Loc (lenOf x0):=by
 unfold lenOf
 repeat' (first|exact As _|exact Az|intro _|split)
theorem XC (x0:_)(x1:_)(x2:_):Loc (Es x0 x1 x2):=by
 unfold Es
 repeat' (first|exact As _|exact Bm _ _|exact FK _ _|exact Bi_ _|apply Au|apply EC|intro _|split)
theorem Ang_ (x0:_)(x1:_)(x2:_)(x3:_):Loc (G6 x0 x1 x2 x3):=by
 unfold G6
 repeat' (first|exact Bm _ _|exact IB _ _|apply Au|apply Bk|intro _|split)
theorem JD (x0:_):Loc (asA x0):=by
 unfold asA
 repeat' (first|exact As _|exact Az|intro _|split)
theorem JK (x0:_)(x1:_)(x2:_):Loc (bnd x0 x1 x2):=by
 unfold bnd
 repeat' (first|exact As _|exact Az|apply Bk|intro _|split)
theorem Yi (x0:_):Loc (ptrA x0):=by
 unfold ptrA
 repeat' (first|exact As _|apply K9|intro _|split)
theorem Iw (x0:_)(x1:_)(x2:_):Loc (pSl x0 x1 x2):=by
 unfold pSl
 repeat' (first|exact As _|apply E3|apply K9|intro _|split)
theorem Jw (x0:_):Loc (pN x0):=by
 unfold pN
 repeat' (first|exact As _|apply E3|intro _|split)
theorem Aiw_ (x0:_)(x1:_)(x2:_)(x3:_)(x4:_):Loc (F3 x0 x1 x2 x3 x4):=by
 unfold F3
 repeat' (first|exact Iw _ _ _|exact JK _ _ _|apply Au|apply Bk|apply HW|intro _|split)
theorem Atq_ (x0:_)(x1:_)(x2:_)(x3:_)(x4:_)(x5:_):Loc (slSl x0 x1 x2 x3 x4 x5):=by
 unfold slSl
 repeat' (first|exact Iw _ _ _|exact JK _ _ _|apply Au|apply Bk|apply HW|intro _|split)
theorem Wq_ (x0:_)(x1:_)(x2:_):Loc (FC x0 x1 x2):=by
 unfold FC
 repeat' (first|exact As _|exact JK _ _ _|apply Au|intro _|split)
theorem Aer_ (x0:_)(x1:_)(x2:_)(x3:_)(x4:_):Loc (Be x0 x1 x2 x3 x4):=by
 unfold Be
 repeat' (first|exact As _|exact Az|exact Wq_ _ _ _|exact Atq_ _ _ _ _ _ _|exact Aiw_ _ _ _ _ _|exact JK _ _ _|exact Bm _ _|apply Au|intro _|split)
theorem Mr_ (x0:_)(x1:_)(x2:_):Loc (srcL x0 x1 x2):=by
 unfold srcL
 repeat' (first|exact As _|exact Az|exact FK _ _|intro _|split)
theorem AsL_ (x0:_)(x1:_)(x2:_):Loc (appN x0 x1 x2):=by
 unfold appN
 repeat' (first|exact As _|exact Az|apply Bk|intro _|split)
theorem Atx_ (x0:_)(x1:_)(x2:_)(x3:_):Loc (appL x0 x1 x2 x3):=by
 unfold appL
 repeat' (first|exact As _|exact Mr_ _ _ _|apply EC|intro _|split)
theorem Ani_ (x0:_)(x1:_)(x2:_):Loc (oldL x0 x1 x2):=by
 unfold oldL
 repeat' (first|exact As _|exact FK _ _|intro _|split)
theorem Afs_ (x0:_)(x1:_)(x2:_):Loc (FM x0 x1 x2):=by
 unfold FM
 repeat' (first|exact As _|exact Rt _ _|intro _|split)
theorem Ze_ (x0:_)(x1:_)(x2:_)(x3:_):Loc (DK x0 x1 x2 x3):=by
 unfold DK
 repeat' (first|exact As _|exact Az|exact Afs_ _ _ _|exact EL _ _|exact FT _|apply Au|apply Bk|apply EC|apply E3|intro _|split)
theorem AlG_ (x0:_)(x1:_)(x2:_)(x3:_)(x4:_)(x5:_)(x6:_)(x7:_):Loc (grow x0 x1 x2 x3 x4 x5 x6 x7):=by
 unfold grow
 repeat' (first|exact Ze_ _ _ _ _|exact Ani_ _ _ _|exact Iw _ _ _|exact Hg _|exact EL _ _|apply Au|apply Bk|apply E3|apply HW|intro _|split)
theorem AlK_ (x0:_)(x1:_)(x2:_)(x3:_)(x4:_)(x5:_):Loc (Fp x0 x1 x2 x3 x4 x5):=by
 unfold Fp
 repeat' (first|exact As _|exact Iw _ _ _|exact IB _ _|apply Au|intro _|split)
theorem AeK_ (x0:_)(x1:_)(x2:_)(x3:_)(x4:_):Loc (CK x0 x1 x2 x3 x4):=by
 unfold CK
 repeat' (first|exact Az|exact AlK_ _ _ _ _ _ _|exact AlG_ _ _ _ _ _ _ _ _|exact Atx_ _ _ _ _|exact AsL_ _ _ _|exact Bm _ _|apply Au|apply EC|intro _|split)
theorem Agh_ (x0:_)(x1:_)(x2:_):Loc (Br x0 x1 x2):=by
 unfold Br
 repeat' (first|exact As _|exact Az|exact Fg _|exact Bm _ _|apply Au|intro _|split)
theorem Yg_ (x0:_)(x1:_)(x2:_)(x3:_):Loc (BS x0 x1 x2 x3):=by
 unfold BS
 repeat' (first|exact As _|exact Az|exact Fg _|exact Bm _ _|exact Hg _|exact EL _ _|apply Au|apply Bk|intro _|split)
theorem Ii_ (x0:_)(x1:_)(x2:_)(x3:_):Loc (Ev x0 x1 x2 x3):=by
 unfold Ev
 repeat' (first|exact As _|exact Fg _|exact Bm _ _|apply Au|apply EC|intro _|split)
theorem AlO_ (x0:_)(x1:_)(x2:_)(x3:_)(x4:_):Loc (Gm x0 x1 x2 x3 x4):=by
 unfold Gm
 repeat' (first|exact Az|exact Mr_ _ _ _|exact Jw _|exact Avf_ _|exact Bm _ _|exact IB _ _|apply Au|apply E3|intro _|split)
theorem RB_ (x0:_):Loc (FE x0):=by
 unfold FE
 repeat' (first|exact As _|exact Az|exact FT _|apply Au|intro _|split)
theorem Afi_ (x0:_):Loc (Gq x0):=by
 unfold Gq
 repeat' (first|exact Az|exact RB_ _|exact Jw _|apply Au|intro _|split)
theorem AlX_ (x0:_)(x1:_)(x2:_):Loc (aLen x0 x1 x2):=by
 unfold aLen
 repeat' (first|exact As _|exact Az|exact Afi_ _|exact Jw _|exact Bm _ _|apply Au|intro _|split)
theorem Ajw_ (x0:_)(x1:_)(x2:_):Loc (aCap x0 x1 x2):=by
 unfold aCap
 repeat' (first|exact Az|exact Jw _|exact Bm _ _|apply Au|apply Bk|intro _|split)
theorem AxU_ (x0:_)(x1:_)(x2:_):Loc (Jf x0 x1 x2):=by
 unfold Jf
 repeat' (first|exact As _|exact Az|exact Bm _ _|exact IB _ _|apply Au|apply Bk|intro _|split)
theorem AtJ_ (x0:_):Loc (zeroV x0):=by
 unfold zeroV
 repeat' (first|exact As _|exact Fg _|apply EC|intro _|split)
theorem NP_ (E:_)(e:_)(t:_)(k:_)(es:_):Loc (JB E e t k es):=Bk _ (BA _ λ_=>As _)
theorem AbO_ (x0:_)(x1:_):Loc (mapT x0 x1):=by
 unfold mapT
 repeat' (first|exact As _|exact Az|exact Bm _ _|apply Au|intro _|split)
theorem Ayh_ (E:_)(t:_)(m:_)(k:_):Loc (kDel E t m k):=Au (AbO_ _ _) λke=>by
 cases m with
 |map m=>
  cases m with
  |none=>exact Au (NP_ _ _ _ _ _) λ_=>As _
  |some l=>exact Au (RB_ _) λp=>Au (NP_ _ _ _ _ _) λr=>by cases r<;>exact Au (EL _ _) λ_=>As _
 |_=>exact Az
theorem AdL_ (x0:_)(x1:_)(x2:_)(x3:_):Loc (Bg x0 x1 x2 x3):=by
 unfold Bg
 repeat' (first|exact Az|exact Ajw_ _ _ _|exact AlX_ _ _ _|exact AlO_ _ _ _ _ _|exact AeK_ _ _ _ _ _|exact IG _|apply Bk|apply BA|intro _|split)
theorem AcC_ (x0:_)(x1:_)(x2:_)(x3:_):Loc (idxN x0 x1 x2 x3):=by
 unfold idxN
 repeat' (first|exact Az|exact Yi _|exact Bm _ _|apply Au|apply Bk|intro _|split)
theorem NX (x0:_):Loc (asN x0):=by
 unfold asN
 repeat' (first|exact As _|exact Az|intro _|split)
theorem Arb_ (x0:_)(x1:_)(x2:_):Loc (Ay x0 x1 x2):=by
 unfold Ay
 repeat' (first|exact As _|exact Az|apply HW|intro _|split)
theorem Ti (x0:_):Loc (ptrN x0):=by
 unfold ptrN
 repeat' (first|exact As _|intro _|split)
theorem Akl_ (x0:_)(x1:_):Loc (A6 x0 x1):=by
 unfold A6
 repeat' (first|exact Ti _|exact Bm _ _|exact Hg _|apply Au|intro _|split)
theorem Ala_ (x0:_):Loc (kBox x0):=by
 unfold kBox
 repeat' (first|exact Ti _|exact Hg _|apply Au|intro _|split)
theorem AaK_ (x0:_)(x1:_)(x2:_):Loc (AE x0 x1 x2):=by
 unfold AE
 repeat' (first|exact JD _|exact XC _ _ _|apply Au|intro _|split)
theorem Alc_ (x0:_)(x1:_)(x2:_)(x3:_):Loc (Ax x0 x1 x2 x3):=by
 unfold Ax
 repeat' (first|exact As _|exact JD _|exact Ang_ _ _ _ _|apply Au|intro _|split)
theorem AuV_ (x0:_):Loc (kNil x0):=by
 unfold kNil
 repeat' (first|exact As _|exact Az|intro _|split)
theorem AuF_ (b:Bool):Loc (pB b):=by cases b<;>exact As _
theorem LZ (x0:_)(x1:_)(x2:_):Loc (C6 x0 x1 x2):=by
 unfold C6
 repeat' (first|exact IG _|apply Bk|apply BA|intro _|split)
theorem Wr_ (P:Program)(v:Value):Loc (xorU P v):=by
 have h:=LZ P .xor v
 cases v with
 |int k n=>
  cases n with
  |negSucc m=>exact LZ P .xor (.int k (.negSucc m))
  |ofNat m=>
   show Loc (Option.rec (motive:=λ_=>M Value) (C6 P .xor (.int k (.ofNat m))) (λx=>M.pure x) (notK k m))
   exact FP _ (LZ _ _ _) λ_=>As _
 |_=>exact h
theorem AkM_ (x0:_)(x1:_)(x2:_):Loc (kUn x0 x1 x2):=by
 unfold kUn
 repeat' (first|exact As _|exact Wr_ _ _|exact LZ _ _ _|exact AuF_ _|intro _|split)
theorem ArM_ (x0:_)(x1:_):Loc (strOf x0 x1):=by
 unfold strOf
 repeat' (first|exact As _|exact FK _ _|apply Au|apply BA|intro _|split)
theorem Akx_ (x0:_)(x1:_)(x2:_)(x3:_)(x4:_):Loc (Gc x0 x1 x2 x3 x4):=by
 unfold Gc
 repeat' (first|exact Az|exact ArM_ _ _|exact Bm _ _|apply Au|intro _|split)
theorem Ads_ (x0:_)(x1:_)(x2:_)(x3:_)(x4:_):Loc (FS x0 x1 x2 x3 x4):=by
 unfold FS
 repeat' (first|exact As _|exact IG _|exact Bm _ _|apply Au|apply BA|apply ZT|intro _|split)
theorem OX (x0:_)(x1:_)(x2:_)(x3:_):Loc (D6 x0 x1 x2 x3):=by
 unfold D6
 repeat' (first|exact Ads_ _ _ _ _ _|exact Akx_ _ _ _ _ _|exact IG _|apply Bk|apply BA|intro _|split)
theorem Yt_ (x0:_)(x1:_):Loc (rowN x0 x1):=by
 unfold rowN
 repeat' (first|exact Iw _ _ _|exact Hg _|exact EL _ _|apply Au|apply Bk|intro _|split)
theorem XQ_ (l:List UInt8):Loc (Gl l):=by
 unfold Gl
 rw[KS]
 exact E3 _ λn=>Yt_ _ _
theorem AkU_ (x0:_)(x1:_)(x2:_)(x3:_):Loc (GF x0 x1 x2 x3):=by
 unfold GF
 repeat' (first|exact Az|exact XQ_ _|exact OX _ _ _ _|exact Bm _ _|apply Au|intro _|split)
theorem AiN_ (x0:_)(x1:_)(x2:_)(x3:_)(x4:_)(x5:_):Loc (Eu x0 x1 x2 x3 x4 x5):=by
 unfold Eu
 repeat' (first|exact Az|exact OX _ _ _ _|exact Bm _ _|apply Au|intro _|split)
theorem AjQ_ (x0:_)(x1:_)(x2:_)(x3:_):Loc (Cy x0 x1 x2 x3):=by
 unfold Cy
 repeat' (first|exact AiN_ _ _ _ _ _ _|exact AkU_ _ _ _ _|exact OX _ _ _ _|intro _|split)
theorem ZB_ (x0:_)(x1:_):Loc (Gx x0 x1):=by
 unfold Gx
 repeat' (first|exact As _|exact Az|apply Bk|intro _|split)
theorem Ave_ (x0:_)(x1:_)(x2:_):Loc (F9 x0 x1 x2):=by
 unfold F9
 repeat' (first|exact ZB_ _ _|exact Bm _ _|apply Au|intro _|split)
theorem Yj_ (x0:_)(x1:_)(x2:_):Loc (EP x0 x1 x2):=by
 unfold EP
 repeat' (first|exact As _|exact Az|exact Bm _ _|apply Au|intro _|split)
theorem AaR_ (x0:_)(x1:_)(x2:_)(x3:_):Loc (mkSl x0 x1 x2 x3):=by
 unfold mkSl
 repeat' (first|exact As _|exact Az|exact Bm _ _|exact Hg _|apply Au|apply Bk|intro _|split)
theorem Aao_ (x0:_)(x1:_)(x2:_)(x3:_):Loc (EY x0 x1 x2 x3):=by
 unfold EY
 repeat' (first|exact AaR_ _ _ _ _|exact NX _|exact Bm _ _|apply Au|intro _|split)
theorem Ff_ (x0:_)(x1:_)(x2:_):Loc (Du x0 x1 x2):=by
 unfold Du
 repeat' (first|exact As _|exact Az|exact Bm _ _|apply Au|intro _|split)
theorem Aci_ (x0:_)(x1:_)(x2:_)(x3:_):Loc (kFld x0 x1 x2 x3):=by
 unfold kFld
 repeat' (first|exact Ff_ _ _ _|exact Yi _|exact JD _|exact Bm _ _|apply Au|apply Bk|intro _|split)
theorem AeO_ (x0:_):Loc (asCs x0):=by
 unfold asCs
 repeat' (first|exact As _|exact Az|intro _|split)
theorem Ahr_ (x0:_)(x1:_)(x2:_)(x3:_):Loc (Dv x0 x1 x2 x3):=by
 unfold Dv
 repeat' (first|exact AeO_ _|exact Ff_ _ _ _|exact Ii_ _ _ _ _|exact Bm _ _|apply Au|intro _|split)
theorem Atk_ (x0:_)(x1:_)(x2:_)(x3:_):Loc (BJ x0 x1 x2 x3):=by
 unfold BJ
 repeat' (first|exact NX _|exact AcC_ _ _ _ _|exact Bm _ _|apply Au|intro _|split)
theorem Alr_ (x0:_)(x1:_)(x2:_)(x3:_):Loc (idxV x0 x1 x2 x3):=by
 unfold idxV
 repeat' (first|exact As _|exact Az|exact Ii_ _ _ _ _|exact Bm _ _|apply Au|apply Bk|apply BA|intro _|split)
theorem AjI_ (x0:_)(x1:_)(x2:_)(x3:_):Loc (kIdx x0 x1 x2 x3):=by
 unfold kIdx
 repeat' (first|exact Alr_ _ _ _ _|exact NX _|exact Bm _ _|apply Au|intro _|split)
theorem Ast_ (x0:_)(x1:_):Loc (kExt x0 x1):=by
 unfold kExt
 repeat' (first|exact Az|exact Fg _|intro _|split)
theorem Ajl_ (x0:_)(x1:_)(x2:_):Loc (okV x0 x1 x2):=by
 unfold okV
 repeat' (first|exact As _|exact Az|apply HW|intro _|split)
theorem WX_ (x0:_)(x1:_)(x2:_)(x3:_):Loc (ET x0 x1 x2 x3):=by
 unfold ET
 repeat' (first|exact Az|exact Ajl_ _ _ _|exact AtJ_ _|exact Bm _ _|apply Au|apply EC|apply BA|intro _|split)
theorem ZV_:Loc (FF):=by
 unfold FF
 repeat' (first|exact As _|exact Az|exact PP _|exact IL|apply Au|apply FP|intro _|split)
theorem Wv_ (x0:_)(x1:_):Loc (Fx x0 x1):=by
 unfold Fx
 repeat' (first|exact As _|exact Az|exact PP _|exact IL|apply Au|intro _|split)
inductive ChR (r:Inj):List PanicEntry->List PanicEntry->Prop
 |nil:ChR r [] []
 |cons {e e':PanicEntry} {l l':List PanicEntry}:VR r e.v e'.v->e'.recovered=e.recovered->e'.goexit=e.goexit->ChR r l l'->ChR r (e::l) (e'::l')
theorem ChR.mono {r r':Inj}(h:r.le r'){l l':List PanicEntry}(k:ChR r l l'):ChR r' l l':=by
 induction k with
 |nil=>exact .nil
 |cons a b c _ ih=>exact .cons (a.mono h) b c ih
theorem ChR.append {r:Inj}{a a' b b':List PanicEntry}(h:ChR r a a')(k:ChR r b b'):ChR r (a++b) (a'++b'):=by
 induction h with
 |nil=>exact k
 |cons x y z _ ih=>exact .cons x y z ih
inductive MoR (r:Inj):FrameMode->FrameMode->Prop
 |run:MoR r .run .run
 |ret:MoR r .returning .returning
 |pan {c c':List PanicEntry}:ChR r c c'->MoR r (.panicking c) (.panicking c')
theorem MoR.mono {r r':Inj}(h:r.le r'){m m':FrameMode}(k:MoR r m m'):MoR r' m m':=by
 cases k with
 |run=>exact .run
 |ret=>exact .ret
 |pan c=>exact .pan (c.mono h)
inductive DfR (r:Inj):Deferred->Deferred->Prop
 |fn {f f':Fn} {c c' a a':Array Value}:FnR r f f'->VRs r c.toList c'.toList->VRs r a.toList a'.toList->DfR r ⟨.fn f c,a⟩ ⟨.fn f' c',a'⟩
 |coll {b b' d:Nat}:r.blk b=some (b',d)->DfR r ⟨.collected b, #[]⟩ ⟨.collected b', #[]⟩
theorem DfR.mono {r r':Inj}(h:r.le r'){m m':Deferred}(k:DfR r m m'):DfR r' m m':=by
 cases k with
 |fn a b c=>exact .fn (a.mono h) (b.mono h) (c.mono h)
 |coll a=>exact .coll (h.1 _ _ a)
inductive DfsR (r:Inj):List Deferred->List Deferred->Prop
 |nil:DfsR r [] []
 |cons {e e':Deferred} {l l':List Deferred}:DfR r e e'->DfsR r l l'->DfsR r (e::l) (e'::l')
theorem DfsR.mono {r r':Inj}(h:r.le r'){l l':List Deferred}(k:DfsR r l l'):DfsR r' l l':=by
 induction k with
 |nil=>exact .nil
 |cons a _ ih=>exact .cons (a.mono h) ih
def CxR (r:Inj)(base:List Deferred×List Frame)(cx:Ctx)(b:Frame)(dfs:List Deferred)(cs:List Frame):Prop:=
 match cx with
 | .no=>dfs=base.1/\cs=base.2
 | .cx up d=>
  (match up with
   |none=>b.kind= .normal/\cs=base.2
   |some m=>b.kind= .deferred/\ ∃c rest m',base.2=c::rest/\cs={c with mode:=m'}::rest/\MoR r m m')/\
  (match d with
   |none=>b.roundOf≠none/\dfs=[]
   |some l=>b.roundOf=none/\DfsR r l dfs)
theorem CxR.mono {r r':Inj}(h:r.le r'){base:List Deferred×List Frame}{cx:Ctx}{b:Frame}{dfs:List Deferred}{cs:List Frame}(k:CxR r base cx b dfs cs):CxR r' base cx b dfs cs:=by
 unfold CxR at *
 cases cx with
 |no=>exact k
 |cx up d=>
  obtain⟨k1,k2⟩:=k
  constructor
  ·cases up with
   |none=>exact k1
   |some m=>obtain⟨q1,c,rest,m',q2,q3,q4⟩:=k1;exact⟨q1,c,rest,m',q2,q3,q4.mono h⟩
  ·cases d with
   |none=>exact k2
   |some l=>exact⟨k2.1,k2.2.mono h⟩
def frm (b:Frame)(t:Array Value)(d:List Deferred)(todo:List Item):Frame:={fn:=b.fn,tmps:=t,todo,defers:=d,mode:= .run,kind:=b.kind,roundOf:=b.roundOf}
def putT (t:Array Value)(dst:Option Nat)(v:Value):Array Value:=
 match dst with
 |some d=>t.setIfInBounds d v
 |none=>t
theorem Rv_ (b:Frame)(t:Array Value)(d:List Deferred)(todo:List Item):(frm b t d todo).eval=Act.eval ⟨t,d⟩:=funext λx=>by cases x<;>rfl
theorem F6 (b:Frame)(t:Array Value)(d:List Deferred){ops:Array Oper}{i:Nat}{o:Oper}(ho:ops[i]?=some o)(rest:List Nat)(k:List Item)(v:Value):
  (frm b t d (.inRegion ops (i::rest)::k)).finish v=frm b (putT t o.dst v) d (.inRegion ops rest::k):=by
 cases h:o.dst<;>simp[Frame.finish,frm,putT,ho,h]
section
variable {P:Program}{b:Frame}{t:Array Value}{d:List Deferred}{k:List Item}{cs:List Frame}{w:World}{ops:Array Oper}
theorem FV {i:Nat}{rest:List Nat}{o:Oper}(ho:ops[i]?=some o)(hw:Region.wanted o (yielded ops t)=true)(hd:b.roundOf=none\/ ∀c,o.op≠ .defer c):
  stepG P true {frame:=frm b t d (.inRegion ops (i::rest)::k),callers:=cs,status:= .running,dying:=none} w=
   stepG.apply P true (frm b t d (.inRegion ops (i::rest)::k)) cs none (execOp (Act.eval ⟨t,d⟩) o) w:=by
 have he:=Rv_ b t d (.inRegion ops (i::rest)::k)
 have e1:stepG P true {frame:=frm b t d (.inRegion ops (i::rest)::k),callers:=cs,status:= .running,dying:=none} w=
   stepG.oper P true (frm b t d (.inRegion ops (i::rest)::k)) cs none w:=by
  simp[stepG,stepG.exec,frm,ho,hw]
 rw[e1]
 have e2:(frm b t d (.inRegion ops (i::rest)::k)).oper?=some o:=ho
 unfold stepG.oper
 simp only[e2,he]
 split
 ·rename_i l c h1 h2
  rcases hd with hd|hd
  ·rw[show(frm b t d (.inRegion ops (i::rest)::k)).roundOf=b.roundOf from rfl,hd]at h1
   cases h1
  ·exact absurd h2 (hd c)
 ·rfl
theorem AoQ_ {id:Nat}:step P (lone (frm b t d (.code (.region id ops false)::k)) cs w)= .next (lone (frm b t d (.inRegion ops (List.range ops.size)::k)) cs w):=
 step_lone_go (by simp[stepG,stepG.exec,frm])
theorem Y4 {id:Nat}:
  step P (lone (frm b t d (.code (.region id ops true)::k)) cs w)=
   .next (lone (frm b t d (.inRegion ops (Region.schedule (P.follows .mixedOrders) ops (w.tape w.drawn (.order b.fn id)))::k)) cs {w with drawn:=w.drawn+1}):=
 step_lone_go (by simp[stepG,stepG.exec,frm,choose,Sem.run,Question.forced,Question.cut])
theorem AjR_:step P (lone (frm b t d (.inRegion ops []::k)) cs w)= .next (lone (frm b t d k) cs w):=
 step_lone_go (by simp[stepG,stepG.exec,frm])
theorem AaM_ {i:Nat}{o:Oper}{rest:List Nat}(ho:ops[i]?=some o)(h:Region.wanted o (yielded ops t)=false):
  step P (lone (frm b t d (.inRegion ops (i::rest)::k)) cs w)= .next (lone (frm b (putT t o.dst undef) d (.inRegion ops rest::k)) cs w):=by
 rw[<-F6 b t d ho]
 exact step_lone_go (by simp[stepG,stepG.exec,frm,ho,h])
end
def Ends (P:Program)(r:Inj)(out:Out Value)(m:Machine)(c:Frame)(cs:List Frame)(w':World):Prop:=
 match out with
 | .inl v=> ∃v',VR r v v'/\Steps P m (lone (c.finish v') cs w')
 | .inr ch=> ∃ch',ChR r ch ch'/\Steps P m (lone (c.raise ch') cs w')
def MW (P:Program)(w0 w:World)(r:Inj)(s:St)(f:Nat)(args':List Value)(out:Out Value)(s':St):Prop:=
 ∃v v' w' r',out= .inl v/\VR r' v v'/\Goes w0 r s s' r' w'/\s'.lim=s.lim/\s'.cx=s.cx/\(callFunc f args'.toArray).run P w= .ok (.value v') w'
structure CallOK (E:Env)(call:Ai):Prop where
 loc: ∀f args,Loc (call f args)
 ok: ∀{w0 w:World} {r:Inj} {f:Nat} {args args':List Value} {s:St} {out:Out Value} {s':St},call f args s=rOf out s'->Rel w0 r s.mem w->Bnd s->AU r s.next s'.next->VRs r args args'->
  ((∀w,(callFunc f args'.toArray).run E.P w= .ok (.enter f args'.toArray) w)/\
  ∀c cs,∃w' r',Goes w0 r s s' r' w'/\s'.lim=s.lim/\s'.cx=s.cx/\Ends E.P r' out (lone (Frame.enter E.P f args'.toArray .normal) (c::cs) w) c cs w')\/
  (E.ext.get f≠none/\MW E.P w0 w r s f args' out s')
structure RoundOK (E:Env)(round:Ai):Prop where
 loc: ∀l args,Loc (round l args)
 ok: ∀{w0 w:World} {r:Inj} {l l' d:Nat} {args args':List Value} {s:St} {out:Out Value} {s':St},round l args s=rOf out s'->Rel w0 r s.mem w->Bnd s->AU r s.next s'.next->VRs r args args'->r.blk l=some (l',d)->
  ∃f tm as bd,(Instr.yield l' args'.toArray).run E.P w= .ok (.round l' f tm as bd) w/\
  ∀c cs,∃w' r',Goes w0 r s s' r' w'/\s'.lim=s.lim/\s'.cx=s.cx/\Ends E.P r' out (lone (Frame.round l' f tm as bd .normal) (c::cs) w) c cs w'
def Rv (P:Program)(r:Inj)(out:Out Value)(m:Machine)(b:Frame)(t:Array Value)(dfs:List Deferred)(ops:Array Oper)(o:Oper)(rest:List Nat)(k:List Item)(cs:List Frame)(w':World):Prop:=
 match out with
 | .inl v=> ∃v',VR r v v'/\Steps P m (lone (frm b (putT t o.dst v') dfs (.inRegion ops rest::k)) cs w')
 | .inr ch=> ∃ch' td,ChR r ch ch'/\Steps P m (lone {frm b t dfs td with mode:= .panicking ch'} cs w')
def OpS (E:Env)(o:Oper)(c:Cl OpT)(ds:List Nat):Prop:=
 ∃f,c= .mk f/\(∀call round,CallOK E call->RoundOK E round-> ∀rho tm,Loc (f call round rho tm))/\
  ∀call round,CallOK E call->RoundOK E round-> ∀(w0 w:World) (r:Inj) (U:Nat->Prop) rho tm (b:Frame) (t:Array Value) (dfs:List Deferred) (cs:List Frame) (base:List Deferred×List Frame) (s:St) (out:Out Value) (s':St),
   SlR r U ds rho tm t->(∀t,Operand.tmp t∈o.op.operands.toList->U t)->Rel w0 r s.mem w->CxR r base s.cx b dfs cs->Bnd s->AU r s.next s'.next->f call round rho tm s=rOf out s'->
   ∀(ops:Array Oper) i rest k,ops[i]?=some o->Region.wanted o (yielded ops t)=true->
    ∃w' r' dfs' cs',Goes w0 r s s' r' w'/\CxR r' base s'.cx b dfs' cs'/\s'.lim=s.lim/\
     Rv E.P r' out (lone (frm b t dfs (.inRegion ops (i::rest)::k)) cs w) b t dfs' ops o rest k cs' w'
theorem OpS.ofV {E:Env}{o:Oper}{c:Cl OpT}{ds:List Nat}(h:OpV E o c ds)(hd: ∀c,o.op≠ .defer c)(hl: ∀f,c= .mk f-> ∀call round rho tm,Loc (f call round rho tm)):OpS E o c ds:=by
 obtain⟨f,h1,h2,h3⟩:=h
 refine⟨f,h1,λcall round _ _=>hl f h1 call round, ?_⟩
 intro call round hc hro w0 w r U rho tm b t dfs cs base s out s' hs hu hr hx hb hf e ops i rest k ho hw
 cases out with
 |inr ch=>exact((h2 call round rho tm).no _ _ _ e).elim
 |inl v=>
  obtain⟨v',w',r',k1,k2,k3,k4,k5⟩:=h3 call round w0 w r U rho tm ⟨t,dfs⟩ s v s' hs hu hr e hf
  refine⟨w',r',dfs,cs,k2,by rw[k5];exact hx.mono k2.le,k4,v',k3, .one (step_lone_go ?_)⟩
  rw[FV ho hw (.inr hd),<-F6 b t dfs ho]
  rcases k1 with k1|⟨k1,rfl⟩<;>simp[stepG.apply,k1]
theorem Aca_ (b:Frame)(t:Array Value)(d:List Deferred)(td:List Item)(ch:List PanicEntry):(frm b t d td).raise ch={frm b t d td with mode:= .panicking ch}:=rfl
section
variable {E:Env}{ds:List Nat}{o:Oper}
theorem VR.func_inv {r:Inj}{f:Fn}{a c:Array Value}{v':Value}(h:VR r (.func f a c) v'): ∃f' a' c',v'= .func f' a' c'/\FnR r f f'/\VRs r a.toList a'.toList/\VRs r c.toList c'.toList:=by
 cases h with
 |func h1 h2 h3 h4 h5=>exact⟨_,_,_,rfl,h1,aY h2 h3,aY h4 h5⟩
theorem LG (ρ:Operand->Value){c:Call}{ty:TypeId}{x:Operand}{f:Fn}{a cap:Array Value}(hc:c.callee= .value x)(hx:ρ x= .func f a cap):
  resolve ρ c ty=pure {target:= .fn f cap,args:=a++c.args.map ρ}:=by
 unfold resolve
 simp only[hc,hx,Deferred.ofValue]
theorem Ahv_ {x:Operand}{c:Call}(ho:o.op= .call c)(hc:c.callee= .value x):OpS E o (NE ds x c.args.toList) ds:=by
 obtain⟨g,h1,h2⟩:=BD ds x
 obtain⟨g',h3,h4⟩:=Er ds c.args.toList
 refine⟨λcall round rho tm=>M.on (g rho tm) λf=>M.on (g' rho tm) λl=>Ba call round f l,by unfold NE;simp only[h1,h3], ?_, ?_⟩
 ·intro call round hc1 hc2 rho tm
  refine BA _ λf=>BA _ λl=> ?_
  unfold Ba
  split
  ·exact hc1.loc _ _
  ·exact Bk _ (hc2.loc _ _)
  ·exact Az
 ·intro call round hc1 hc2 w0 w r U rho tm b t dfs cs base s out s' hs hu hr hx hb hf e ops i rest k hoi hw
  have on': ∀{α β:Type} {y:Option α} {f:α->M β} {o:Out β} {s s':St},M.on y f s=rOf o s'-> ∃a,y=some a/\f a s=rOf o s':=by
   intro α β y f o s s' h
   cases y with
   |none=>exact(AL h).elim
   |some a=>exact⟨a,rfl,h⟩
  obtain⟨fv,e1,e⟩:=on' e
  obtain⟨l,e2,e⟩:=on' e
  have hfv:=h2 _ _ _ _ ⟨t,dfs⟩ _ hs (λt q=>hu t (by simp[ho,Op.operands,Call.operands,hc]at q ⊢;simp[q])) e1
  have hl:VRs r l (c.args.toList.map (Act.eval ⟨t,dfs⟩)):=h4 _ _ _ _ ⟨t,dfs⟩ _ hs (λt q=>hu t (by simp[ho,Op.operands,Call.operands]at q ⊢;simp[q])) e2
  have hmap:c.args.map (Act.eval ⟨t,dfs⟩)=(c.args.toList.map (Act.eval ⟨t,dfs⟩)).toArray:=by rw[<-List.map_toArray]
  have hd: ∀c,o.op≠ .defer c:=by rw[ho];intro c h;cases h
  unfold Ba at e
  split at e
  ·rename_i f first cap _
   obtain⟨f',a',c',q1,q2,q3,q4⟩:=hfv.func_inv
   cases f' with
   |func f'=>
    simp only[FnR]at q2
    subst q2
    have e1:(a'++c.args.map (Act.eval ⟨t,dfs⟩)++c')=(a'.toList++(c.args.toList.map (Act.eval ⟨t,dfs⟩)++c'.toList)).toArray:=by
     rw[hmap];simp
    rcases hc1.ok e hr hb hf (args':=a'.toList++(c.args.toList.map (Act.eval ⟨t,dfs⟩)++c'.toList)) (q3.append (hl.append q4))with⟨k1,k2⟩|⟨_,v,v',w',r',rfl,g1,g2,g3,g4,g5⟩
    case inr=>
     have hrun:(execOp (Act.eval ⟨t,dfs⟩) o).run E.P w= .ok (.value v') w':=by
      simp only[execOp,ho,LG _ hc q1]
      simp only[invoke,Sem.run_bind,Sem.run_pure,Result.andThen_ok,e1,g5]
     refine⟨w',r',dfs,cs,g2,by rw[g4];exact hx.mono g2.le,g3,v',g1, .one (step_lone_go ?_)⟩
     rw[FV hoi hw (.inr hd),<-F6 b t dfs hoi]
     simp[stepG.apply,hrun]
    obtain⟨w',r',g1,g2,g3,g4⟩:=k2 (frm b t dfs (.inRegion ops (i::rest)::k)) cs
    have henter:step E.P (lone (frm b t dfs (.inRegion ops (i::rest)::k)) cs w)=
      .next (lone (Frame.enter E.P f (a'.toList++(c.args.toList.map (Act.eval ⟨t,dfs⟩)++c'.toList)).toArray .normal) (frm b t dfs (.inRegion ops (i::rest)::k)::cs) w):=by
     refine step_lone_go ?_
     rw[FV hoi hw (.inr hd)]
     have hrun:(execOp (Act.eval ⟨t,dfs⟩) o).run E.P w= .ok (.enter f (a'.toList++(c.args.toList.map (Act.eval ⟨t,dfs⟩)++c'.toList)).toArray) w:=by
      simp only[execOp,ho,LG _ hc q1]
      simp only[invoke,Sem.run_bind,Sem.run_pure,Result.andThen_ok,e1,k1]
     simp[stepG.apply,hrun,frm]
    refine⟨w',r',dfs,cs,g1,by rw[g3];exact hx.mono g1.le,g2, ?_⟩
    unfold Ends at g4
    cases out with
    |inl v=>
     obtain⟨v',p1,p2⟩:=g4
     rw[F6 b t dfs hoi]at p2
     exact⟨v',p1, .head henter p2⟩
    |inr ch=>
     obtain⟨ch',p1,p2⟩:=g4
     exact⟨ch',_,p1, .head henter p2⟩
   |_=>simp only[FnR]at q2
  ·rename_i lp first cap _
   obtain⟨f',a',c',q1,q2,q3,q4⟩:=hfv.func_inv
   cases f' with
   |yield lp'=>
    obtain⟨dd,q2⟩:=q2
    cases hemp:first.isEmpty with
    |false=>rw[hemp]at e;exact(AL e).elim
    |true=>
     rw[hemp]at e
     have e':round lp l s=rOf out s':=e
     have hfe:first= #[]:=by simpa using hemp
     subst hfe
     have ha':a'= #[]:=by have:=q3.1;simp at this;simpa using this.symm
     subst ha'
     obtain⟨fn,tmn,as,bd,k1,k2⟩:=hc2.ok e' hr hb hf hl q2
     obtain⟨w',r',g1,g2,g3,g4⟩:=k2 (frm b t dfs (.inRegion ops (i::rest)::k)) cs
     have henter:step E.P (lone (frm b t dfs (.inRegion ops (i::rest)::k)) cs w)=
       .next (lone (Frame.round lp' fn tmn as bd .normal) (frm b t dfs (.inRegion ops (i::rest)::k)::cs) w):=by
      refine step_lone_go ?_
      rw[FV hoi hw (.inr hd)]
      have hrun:(execOp (Act.eval ⟨t,dfs⟩) o).run E.P w= .ok (.round lp' fn tmn as bd) w:=by
       simp only[execOp,ho,LG _ hc q1]
       have e1:(#[]++c.args.map (Act.eval ⟨t,dfs⟩))=(c.args.toList.map (Act.eval ⟨t,dfs⟩)).toArray:=by
        rw[hmap];simp
       simp only[invoke,Sem.run_bind,Sem.run_pure,Result.andThen_ok,e1,k1]
      simp[stepG.apply,hrun,frm]
     refine⟨w',r',dfs,cs,g1,by rw[g3];exact hx.mono g1.le,g2, ?_⟩
     unfold Ends at g4
     cases out with
     |inl v=>
      obtain⟨v',p1,p2⟩:=g4
      rw[F6 b t dfs hoi]at p2
      exact⟨v',p1, .head henter p2⟩
     |inr ch=>
      obtain⟨ch',p1,p2⟩:=g4
      exact⟨ch',_,p1, .head henter p2⟩
   |_=>simp only[FnR]at q2
  ·exact(AL e).elim
end
section
variable {E:Env}{ds:List Nat}{o:Oper}
theorem Ez {α:Type}{g:Option α}{f:α->M Value}(h: ∀a,Loc (f a)):Loc (λs=>Option.rec (motive:=λ_=>R Value) .none (λa=>f a s) g):=by
 cases g with
 |none=>exact T4
 |some a=>exact h a
theorem AmE_ {α:Type}{x:Option α}{f:α->St->R Value}{s s':St}{out:Out Value}(h:Option.rec (motive:=λ_=>R Value) .none (λa=>f a s) x=rOf out s'): ∃a,x=some a/\f a s=rOf out s':=by
 cases x with
 |none=>exact(AL h).elim
 |some a=>exact⟨a,rfl,h⟩
theorem Apa_ {α:Type}{b:Bool}{m:M α}{o:Out α}{s s':St}(h:M.chk b m s=rOf o s'):b=true/\m s=rOf o s':=by
 cases b with
 |false=>exact(AL h).elim
 |true=>exact⟨rfl,h⟩
theorem HO {α β:Type}{y:Option α}{f:α->M β}{o:Out β}{s s':St}(h:M.on y f s=rOf o s'): ∃a,y=some a/\f a s=rOf o s':=by
 cases y with
 |none=>exact(AL h).elim
 |some a=>exact⟨a,rfl,h⟩
theorem DJ {α β:Type}{m:M α}{f:α->M β}{o:Out β}{s s':St}(h:M.bind m f s=rOf o s'):(∃a s1,m s= .some a s1/\f a s1=rOf o s')\/ ∃c,m s= .pan c s'/\o= .inr c:=by
 unfold M.bind at h
 cases e:m s with
 |none=>rw[e]at h;exact(AL h).elim
 |some a s1=>rw[e]at h;exact .inl ⟨a,s1,rfl,h⟩
 |pan c s1=>
  rw[e]at h
  obtain⟨rfl,rfl⟩:=HU h
  exact .inr ⟨c,rfl,rfl⟩
theorem Qg {β:Type}{f:Ctx->M β}{s:St}:M.bind GD f s=f s.cx s:=rfl
theorem Zd_ {β:Type}{x:Ctx}{f:Unit->M β}{s:St}:M.bind (DT x) f s=f () ⟨s.mem,s.next,s.lim,s.rd,s.wr,x⟩:=rfl
theorem AqJ_ {x:Operand}(ho:o.op= .panic x):OpS E o (Bp ds x Ic) ds:=by
 obtain⟨g,h1,h2⟩:=BD ds x
 refine⟨_,by unfold Bp;rw[h1],λcall round _ _ rho tm=>Ez λa=> ?_, ?_⟩
 ·cases a<;>first|exact QN _|exact Az
 ·intro call round hc1 hc2 w0 w r U rho tm b t dfs cs base s out s' hs hu hr hx hb hf e ops i rest k hoi hw
  obtain⟨v,e1,e⟩:=AmE_ e
  have hv:VR r v (Act.eval ⟨t,dfs⟩ x):=h2 _ _ _ _ ⟨t,dfs⟩ _ hs (λt q=>hu t (by simp[ho,Op.operands]at q ⊢;simp[q])) e1
  have hd: ∀c,o.op≠ .defer c:=by rw[ho];intro c h;cases h
  cases v with
  |iface ty y=>
   obtain⟨rfl,rfl⟩:=HU (show R.pan [{v:= .iface ty y,recovered:=false}] s=rOf out s' from e)
   cases hv':Act.eval ⟨t,dfs⟩ x with
   |iface ty' y'=>
    rw[hv']at hv
    refine⟨w,r,dfs,cs, .of_rel rfl hr,hx,rfl,[{v:= .iface ty' y',recovered:=false}], .inRegion ops (i::rest)::k, .cons hv rfl rfl .nil, .one (step_lone_go ?_)⟩
    rw[FV hoi hw (.inr hd)]
    simp only[execOp,ho,hv']
    rw[<-Aca_]
    simp[stepG.apply,Instr.panic,goPanic,Sem.run]
   |_=>rw[hv']at hv;cases hv
  |_=>exact(AL e).elim
theorem Ats_ {c:Call}(ho:o.op= .call c)(hc:c.callee= .builtin .recover):OpS E o (.mk λ_ _ _ _=>FF) ds:=by
 refine⟨_,rfl,λ_ _ _ _ _ _=>ZV_, ?_⟩
 intro call round hc1 hc2 w0 w r U rho tm b t dfs cs base s out s' hs hu hr hx hb hf e ops i rest k hoi hw
 have hd: ∀c,o.op≠ .defer c:=by rw[ho];intro c h;cases h
 have hrun:(execOp (Act.eval ⟨t,dfs⟩) o).run E.P w= .ok .recover w:=by
  simp[execOp,ho,resolve,hc,invoke,builtin]
 have key: ∀{v v':Value} {cs':List Frame},b.roundOf=none->((tryRecover (frm b t dfs (.inRegion ops (i::rest)::k)) cs=some (v',cs'))\/(tryRecover (frm b t dfs (.inRegion ops (i::rest)::k)) cs=none/\v'= .nilIface/\cs'=cs))->
   step E.P (lone (frm b t dfs (.inRegion ops (i::rest)::k)) cs w)= .next (lone (frm b (putT t o.dst v') dfs (.inRegion ops rest::k)) cs' w):=by
  intro v v' cs' hro htr
  refine step_lone_go ?_
  rw[FV hoi hw (.inr hd),<-F6 b t dfs hoi]
  have hro':(frm b t dfs (.inRegion ops (i::rest)::k)).roundOf=none:=hro
  rcases htr with htr|⟨htr,rfl,rfl⟩<;>simp[stepG.apply,hrun,hro',htr]
 unfold FF at e
 rw[Qg]at e
 have fin:(∃m d,s.cx= .cx (some m) (some d))\/(∃d,s.cx= .cx none (some d)):=by
  cases hcx:s.cx with
  |no=>rw[hcx]at e;exact(AL e).elim
  |cx up d=>
   cases d with
   |none=>rw[hcx]at e;cases up<;>exact(AL e).elim
   |some d=>cases up with
    |none=>exact .inr ⟨d,rfl⟩
    |some m=>exact .inl ⟨m,d,rfl⟩
 rcases fin with⟨m,d,hcx⟩|⟨d,hcx⟩
 ·rw[hcx]at hx e
  unfold CxR at hx
  obtain⟨⟨q1,c0,rest0,m',q2,q3,q4⟩,q5,q6⟩:=hx
  have htry:=tryRecover_deferred (fr:=frm b t dfs (.inRegion ops (i::rest)::k)) q1 cs
  cases hrm:recM m with
  |none=>
   replace e:Option.rec (motive:=λ_=>M Value) (M.pure .nilIface) (λp=>M.bind (DT (.cx (some p.2) (some d))) λ_=>M.pure p.1) (recM m) s=rOf out s':=e
   rw[hrm]at e
   obtain⟨rfl,rfl⟩:=Bh (show R.some .nilIface s=rOf out s' from e)
   refine⟨w,r,dfs,cs, .of_rel rfl hr, ?_,rfl, .nilIface, .nilIface, .one (key (v:= .nilIface) q5 (.inr ⟨?_,rfl,rfl⟩))⟩
   ·rw[hcx];exact⟨⟨q1,c0,rest0,m',q2,q3,q4⟩,q5,q6⟩
   ·rw[htry,q3]
    cases q4 with
    |run=>rfl
    |ret=>rfl
    |pan hch=>
     cases hch with
     |nil=>rfl
     | @cons e0 e1 l0 l1 p1 p2 p3 p4=>
      obtain⟨ev,er,eg⟩:=e0
      obtain⟨ev',er',eg'⟩:=e1
      simp only at p1 p2 p3
      subst p2
      subst p3
      cases er'<;>cases eg'<;>first|rfl|(simp[recM]at hrm)
  |some p=>
   replace e:Option.rec (motive:=λ_=>M Value) (M.pure .nilIface) (λp=>M.bind (DT (.cx (some p.2) (some d))) λ_=>M.pure p.1) (recM m) s=rOf out s':=e
   rw[hrm]at e
   obtain⟨pv,pm⟩:=p
   obtain⟨rfl,rfl⟩:=Bh (show R.some pv ⟨s.mem,s.next,s.lim,s.rd,s.wr, .cx (some pm) (some d)⟩=rOf out s' from e)
   unfold recM at hrm
   split at hrm
   ·rename_i v older
    simp only[Option.some.injEq,Prod.mk.injEq]at hrm
    obtain⟨rfl,rfl⟩:=hrm
    cases q4 with
    |pan hch=>
     cases hch with
     | @cons _ e1 _ l1 p1 p2 p3 p4=>
      obtain⟨ev,er,eg⟩:=e1
      simp only at p1 p2 p3
      subst p2
      subst p3
      refine⟨w,r,dfs,{c0 with mode:= .panicking ({v:=ev,recovered:=true}::l1)}::rest0, .of_rel rfl hr, ?_,rfl,ev,p1, .one (key (v:=v) q5 (.inl ?_))⟩
      ·exact⟨⟨q1,c0,rest0,_,q2,rfl, .pan (.cons p1 rfl rfl p4)⟩,q5,q6⟩
      ·rw[htry,q3];rfl
   ·cases hrm
 ·rw[hcx]at hx e
  unfold CxR at hx
  obtain⟨⟨q1,q2⟩,q5,q6⟩:=hx
  obtain⟨rfl,rfl⟩:=Bh (show R.some .nilIface s=rOf out s' from e)
  refine⟨w,r,dfs,cs, .of_rel rfl hr, ?_,rfl, .nilIface, .nilIface, .one (key (v:= .nilIface) q5 (.inr ⟨?_,rfl,rfl⟩))⟩
  ·rw[hcx];exact⟨⟨q1,q2⟩,q5,q6⟩
  ·have hk:(frm b t dfs (.inRegion ops (i::rest)::k)).kind= .normal:=q1
   unfold tryRecover
   rw[hk]
theorem Amu_ {x:Operand}{c:Call}(ho:o.op= .defer c)(hc:c.callee= .value x):OpS E o (KD ds c) ds:=by
 obtain⟨g,h1,h2⟩:=BD ds x
 obtain⟨g',h3,h4⟩:=Er ds c.args.toList
 refine⟨λcall round rho tm=>M.on (g rho tm) λf=>M.on (g' rho tm) λl=>Fx f l,by unfold KD;simp only[hc,h1,h3], ?_, ?_⟩
 ·intro call round _ _ rho tm
  exact BA _ λf=>BA _ λl=>Wv_ _ _
 ·intro call round hc1 hc2 w0 w r U rho tm b t dfs cs base s out s' hs hu hr hx hb hf e ops i rest k hoi hw
  obtain⟨fv,e1,e⟩:=HO e
  obtain⟨l,e2,e⟩:=HO e
  have hfv:=h2 _ _ _ _ ⟨t,dfs⟩ _ hs (λt q=>hu t (by simp[ho,Op.operands,Call.operands,hc]at q ⊢;simp[q])) e1
  have hl:VRs r l (c.args.toList.map (Act.eval ⟨t,dfs⟩)):=h4 _ _ _ _ ⟨t,dfs⟩ _ hs (λt q=>hu t (by simp[ho,Op.operands,Call.operands]at q ⊢;simp[q])) e2
  have hmap:c.args.map (Act.eval ⟨t,dfs⟩)=(c.args.toList.map (Act.eval ⟨t,dfs⟩)).toArray:=by rw[<-List.map_toArray]
  unfold Fx at e
  rw[Qg]at e
  have fin: ∃up d fn first cap,s.cx= .cx up (some d)/\fv= .func fn first cap:=by
   cases hcx:s.cx with
   |no=>rw[hcx]at e;cases fv<;>exact(AL e).elim
   |cx up d=>
    cases d with
    |none=>rw[hcx]at e;cases fv<;>exact(AL e).elim
    |some d=>cases fv with
     |func fn first cap=>exact⟨up,d,fn,first,cap,rfl,rfl⟩
     |_=>rw[hcx]at e;exact(AL e).elim
  obtain⟨up,d,fn,first,cap,hcx,rfl⟩:=fin
  ·rw[hcx]at e
   obtain⟨f',a',c',q1,q2,q3,q4⟩:=hfv.func_inv
   obtain⟨rfl,rfl⟩:=Bh (show R.some undef ⟨s.mem,s.next,s.lim,s.rd,s.wr, .cx up (some ({target:= .fn fn cap,args:=first++l.toArray}::d))⟩=rOf out s' from e)
   rw[hcx]at hx
   unfold CxR at hx
   obtain⟨p1,p2,p3⟩:=hx
   refine⟨w,r,{target:= .fn f' c',args:=a'++c.args.map (Act.eval ⟨t,dfs⟩)}::dfs,cs, .of_rel rfl hr,⟨p1,p2, .cons (.fn q2 q4 ?_) p3⟩,rfl,undef, .undef, .one (step_lone_go ?_)⟩
   ·rw[hmap];simpa using q3.append hl
   ·rw[FV hoi hw (.inl p2)]
    simp only[execOp,ho,LG _ hc q1]
    rw[<-F6 b t _ hoi]
    simp[stepG.apply,frm]
theorem UR_ {k:Int->Int->St->R Value}{slow:Value->Value->M Value}(hk: ∀a b,Loc (k a b))(hs: ∀x y,Loc (slow x y))(x y:Value):Loc (int2 k slow x y):=by
 unfold int2 CJ
 cases x
 case int k1 a=>
  cases y
  case int k2 b=>
   cases h1:Ec k1 with
   |false=>simp only[h1];exact hs _ _
   |true=>
    cases h2:Ec k2 with
    |false=>simp only[h1,h2];exact hs _ _
    |true=>simp only[h1,h2];exact hk a b
  all_goals exact hs _ _
 all_goals exact hs _ _
theorem N0 {k:Cz}{slow:Value->Value->M Value}(hs: ∀x y,Loc (slow x y))(x y:Value):Loc (int3 k slow x y):=by
 unfold int3 CJ
 cases x
 case int k1 a=>
  cases y
  case int k2 b=>
   cases a with
   |negSucc m=>exact hs _ _
   |ofNat m=>
    cases b with
    |negSucc n=>exact hs _ _
    |ofNat n=>
     simp only
     cases k k1 k2 m n with
     |none=>exact hs _ _
     |some u=>exact As _
  all_goals exact hs _ _
 all_goals exact hs _ _
theorem Yf_ {op:BinOp}{t:Nat}{x y:Operand}{f:Value->Value->M Value}(h:aBin E op t x y= .mk f): ∀a b,Loc (f a b):=by
 have slow: ∀op a b,Loc (AP E op t x y a b):=λop a b=>Aad_ _ _ _ _ _ _ _
 have rI': ∀n,Loc (rI n):=λn=>by
  have:rI n=(M.pure (.int .i64 (wrap64 n)):M Value):=by funext s;unfold rI;rw[EB];rfl
  rw[this];exact As _
 have rB': ∀b,Loc (rB b):=λb=>by cases b<;>exact As _
 intro a b
 cases op<;>cases h<;>first|exact slow _ _ _|exact N0 (slow _) _ _|exact UR_ (λa b=>rI' _) (N0 (slow _)) _ _|exact UR_ (λa b=>rB' _) (N0 (slow _)) _ _
theorem BV_ {x:Operand}: ∀f,Fj ds x= .mk f-> ∀call round rho tm,Loc (f call round rho tm):=by
 obtain⟨g,h1,_⟩:=BD ds x
 intro f h
 unfold Fj at h
 rw[h1]at h
 cases h
 exact λ_ _ _ _=>Ez (f:=λa=>M.pure a) λa=>As a
theorem DR {x:Operand}{k:Value->M Value}(hk: ∀a,Loc (k a)): ∀f,Bp ds x k= .mk f-> ∀call round rho tm,Loc (f call round rho tm):=by
 obtain⟨g,h1,_⟩:=BD ds x
 intro f h
 unfold Bp at h
 rw[h1]at h
 cases h
 exact λ_ _ _ _=>Ez hk
theorem II {x y:Operand}{k:Value->Value->M Value}(hk: ∀a b,Loc (k a b)): ∀f,CW ds x y k= .mk f-> ∀call round rho tm,Loc (f call round rho tm):=by
 obtain⟨g,h1,_⟩:=BD ds x
 obtain⟨g',h2,_⟩:=BD ds y
 intro f h
 unfold CW at h
 rw[h1,h2]at h
 cases h
 exact λ_ _ rho tm=>Ez (f:=λa s=>Option.rec (motive:=λ_=>R Value) .none (λb=>k a b s) (g' rho tm)) λa=>Ez (hk a)
theorem ZK_ {l:List Operand}{k:List Value->M Value}(hk: ∀a,Loc (k a)): ∀f,GI ds l k= .mk f-> ∀call round rho tm,Loc (f call round rho tm):=by
 obtain⟨g,h1,_⟩:=Er ds l
 intro f h
 unfold GI at h
 rw[h1]at h
 cases h
 exact λ_ _ _ _=>Ez hk
theorem Aue_ {l l':List Operand}{k:List Value->List Value->M Value}(hk: ∀a b,Loc (k a b)): ∀f,H5 ds l l' k= .mk f-> ∀call round rho tm,Loc (f call round rho tm):=by
 obtain⟨g,h1,_⟩:=Er ds l
 obtain⟨g',h2,_⟩:=Er ds l'
 intro f h
 unfold H5 at h
 rw[h1,h2]at h
 cases h
 exact λ_ _ rho tm=>Ez (f:=λa s=>Option.rec (motive:=λ_=>R Value) .none (λb=>k a b s) (g' rho tm)) λa=>Ez (hk a)
theorem Xl {l:List (Nat×Operand)}{k:List (Nat×Value)->M Value}(hk: ∀a,Loc (k a)): ∀f,Fz ds l k= .mk f-> ∀call round rho tm,Loc (f call round rho tm):=by
 obtain⟨g,h1,_⟩:=Mb ds l
 intro f h
 unfold Fz at h
 rw[h1]at h
 cases h
 exact λ_ _ _ _=>Ez hk
theorem AlS_ {x y z:Operand}{k:Value->Value->Value->M Value}(hk: ∀a b c,Loc (k a b c)): ∀f,It ds x y z k= .mk f-> ∀call round rho tm,Loc (f call round rho tm):=by
 obtain⟨g,h1,_⟩:=BD ds x
 obtain⟨g',h2,_⟩:=BD ds y
 obtain⟨g2,h3,_⟩:=BD ds z
 intro f h
 unfold It at h
 rw[h1,h2,h3]at h
 cases h
 exact λ_ _ rho tm=>BA _ λa=>BA _ λb=>BA _ λc=>hk a b c
theorem AoZ_ {t:Nat}{x:Operand}{lo hi mx:Option Operand}: ∀f,Ix E ds t x lo hi mx= .mk f-> ∀call round rho tm,Loc (f call round rho tm):=by
 cases mx with
 |some m=>intro f h;cases h;exact λ_ _ _ _=>Az
 |none=>
  obtain⟨g,h1,_⟩:=BD ds x
  obtain⟨g',h2,_⟩:=LJ ds lo
  obtain⟨g2,h3,_⟩:=LJ ds hi
  intro f h
  unfold Ix PY at h
  simp only[h1,h2,h3]at h
  cases h
  exact λ_ _ rho tm=>BA _ λa=>BA _ λb=>BA _ λc=>Aer_ _ _ _ _ _
theorem Rs:OpS E o Hs ds:=⟨_,rfl,λ_ _ _ _ _ _=>Az,λ_call _round _ _ _w0 _w _r _U _rho _tm _b _t _dfs _cs _base _s _out _s' _hs _hu _hr _hx _hb _hf e=>(AL e).elim⟩
theorem Aff_ (he:EnvTy E)(o:Oper)(ds:List Nat):OpS E o (Dp E ds o.op) ds:=by
 have nd: ∀{p:Op},o.op=p->(∀c,p≠ .defer c)-> ∀c,o.op≠ .defer c:=λh k c=>by rw[h];exact k c
 generalize hop:o.op=op
 unfold Dp
 split
 ·exact .ofV (AiP_ hop) (nd hop (by intro c h;cases h)) BV_
 ·exact .ofV (AqK_ hop) (nd hop (by intro c h;cases h)) BV_
 ·exact .ofV (Agu_ hop) (nd hop (by intro c h;cases h)) (AlS_ Arb_)
 ·exact .ofV (AbR_ hop he) (nd hop (by intro c h;cases h)) (by intro f h;cases h;exact λ_ _ _ _=>Akl_ _ _)
 ·exact .ofV (Akj_ hop) (nd hop (by intro c h;cases h)) (DR Ala_)
 ·exact .ofV (AcZ_ hop he) (nd hop (by intro c h;cases h)) (Xl λa=>Agh_ _ _ _)
 ·exact .ofV (AtI_ hop he) (nd hop (by intro c h;cases h)) (Xl λa=>Yg_ _ _ _ _)
 ·exact .ofV (AlE_ hop he) (nd hop (by intro c h;cases h)) (DR λa=>AaK_ _ _ _)
 ·exact .ofV (AwG_ hop he) (nd hop (by intro c h;cases h)) (II λa b=>Alc_ _ _ _ _)
 ·exact .ofV (Zt_ hop) (nd hop (by intro c h;cases h)) (DR AuV_)
 ·refine .ofV (Ara_ hop he) (nd hop (by intro c h;cases h)) ?_
  rename_i op t x y yt
  generalize hc:aBin E op t x y=c
  obtain⟨f⟩:=c
  exact II (Yf_ hc)
 ·exact .ofV (Ana_ hop) (nd hop (by intro c h;cases h)) (DR λa=>AkM_ _ _ _)
 ·exact .ofV (AhG_ hop he) (nd hop (by intro c h;cases h)) (DR λa=>AjQ_ _ _ _ _)
 ·exact .ofV (Anm_ hop he) (nd hop (by intro c h;cases h)) (DR λa=>Ave_ _ _ _)
 ·exact .ofV (AwQ_ hop he) (nd hop (by intro c h;cases h)) (DR λa=>Yj_ _ _ _)
 ·exact .ofV (AsX_ hop) (nd hop (by intro c h;cases h)) (Aue_ λa b=>As _)
 ·exact .ofV (Arn_ hop he) (nd hop (by intro c h;cases h)) (II λa b=>Aao_ _ _ _ _)
 ·exact .ofV (AiJ_ hop he) (nd hop (by intro c h;cases h)) AoZ_
 ·exact .ofV (Akt_ hop he) (nd hop (by intro c h;cases h)) (DR λa=>Aci_ _ _ _ _)
 ·exact .ofV (Ati_ hop he) (nd hop (by intro c h;cases h)) (DR λa=>Ahr_ _ _ _ _)
 ·exact .ofV (Aqm_ hop he) (nd hop (by intro c h;cases h)) (II λa b=>Atk_ _ _ _ _)
 ·exact .ofV (Alu_ hop he) (nd hop (by intro c h;cases h)) (II λa b=>AjI_ _ _ _ _)
 ·exact .ofV (Xf_ hop) (nd hop (by intro c h;cases h)) (DR λa=>Ast_ _ _)
 ·rename_i c
  cases hc:c.callee with
  |value f=>unfold GK;simp only[hc];exact Ahv_ hop hc
  |invoke a b=>unfold GK;simp only[hc];exact Rs
  |builtin bi=>
   by_cases hbr:bi= .recover
   ·subst hbr;unfold GK;simp only[hc];exact Ats_ hop hc
   ·have:GK E ds c=GI ds c.args.toList (Bg E bi c.argTypes.toList):=by
     unfold GK
     rw[hc]
     cases bi<;>first|rfl|exact absurd rfl hbr
    rw[this]
    exact .ofV (AbP_ hop hc hbr he) (nd hop (by intro c h;cases h)) (ZK_ λa=>AdL_ _ _ _ _)
 ·exact AqJ_ hop
 ·rename_i c
  cases hc:c.callee with
  |value f=>exact Amu_ hop hc
  |_=>unfold KD;simp only[hc];exact Rs
 ·exact .ofV (ApT_ hop he) (nd hop (by intro c h;cases h)) (DR λa=>WX_ _ _ _ _)
 ·exact Rs
