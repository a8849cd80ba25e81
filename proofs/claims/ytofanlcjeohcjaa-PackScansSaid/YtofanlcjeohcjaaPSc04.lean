import Derived.Test.YtofanlcjeohcjaaPSc03
import Derived.Recover
namespace Go.Proofs.Ytofanlcjeohcjaa.Am
open Go.RowKit
section
variable {E:Env}{ds:List Nat}{o:Oper}
theorem Ow_ {x:Operand}(ho:o.op= .move x):OpV E o (E7 ds x) ds:=Fp_ (by simp[ho,Op.operands]) fun a=>by simp only[execOp,ho]
theorem QE_ {x:Operand}(ho:o.op= .assign x):OpV E o (E7 ds x) ds:=Fp_ (by simp[ho,Op.operands]) fun a=>by simp only[execOp,ho]
theorem VV_ {e:Nat}(ho:o.op= .alloc e)(he:EnvTy E):OpV E o (.mk fun _ _ _ _=>Bt E e) ds:=by
 refine⟨_,rfl,fun _ _ _ _=>OE_ _ _, ?_⟩
 intro call round w0 w r U rho tm a s v s' hs hu hr h hf
 exact(Zo_ he h hr hf).val (by simp only[execOp,ho];rfl)
theorem AbR_ {e:Nat}{x:Operand}(ho:o.op= .box e x):OpV E o (BU ds x kBox) ds:=
 EK (m:=Instr.box e) (by simp[ho,Op.operands]) (fun a=>by simp only[execOp,ho];rfl) Ij_ fun h hr hf hx=>VE_ h hr hf hx
theorem Si_ {t:Nat}{ps:Array (Nat×Operand)}(ho:o.op= .build t ps)(he:EnvTy E):OpV E o (EZ ds ps.toList (Cj E t)) ds:=
 RD (m:=fun l=>Instr.build t l.toArray) (by simp[ho,Op.operands]) (fun a=>by simp only[execOp,ho];rw[←List.map_toArray];rfl) (VP_ _ _) fun h hr hf hx=>Lj_ he h hr (by simpa using hx)
theorem JC_ {t n:Nat}{ps:Array (Nat×Operand)}(ho:o.op= .buildSlice t n ps)(he:EnvTy E):OpV E o (EZ ds ps.toList (BZ E t n)) ds:=
 RD (m:=fun l=>Instr.buildSlice t n l.toArray) (by simp[ho,Op.operands]) (fun a=>by simp only[execOp,ho];rw[←List.map_toArray];rfl) (TN_ _ _ _) fun h hr hf hx=>IU_ he h hr hf (by simpa using hx)
theorem Lk_ {t:Nat}{x:Operand}(ho:o.op= .load t x)(he:EnvTy E):OpV E o (BU ds x (Ak E t)) ds:=
 EK (m:=Instr.loadAt t) (by simp[ho,Op.operands]) (fun a=>by simp only[execOp,ho];rfl) (Qf_ _ _) fun h hr hf hx=>NT_ he h hr hx
theorem QM_ {t:Nat}{x y:Operand}(ho:o.op= .store t x y)(he:EnvTy E):OpV E o (C5 ds x y (A7 E t)) ds:=by
 obtain⟨g,h1,h2⟩:=B2 ds x
 obtain⟨g',h3,h4⟩:=B2 ds y
 refine⟨_,by unfold C5;rw[h1,h3],fun _ _ rho tm=>DD (g:=g rho tm) (f:=fun a s=>Option.rec (motive:=fun _=>R Value) .none (fun b=>A7 E t a b s) (g' rho tm)) fun a=>DD (ZJ_ _ _ a), ?_⟩
 intro call round w0 w r U rho tm a s v s' hs hu hr h hf
 obtain⟨y,e1,e2⟩:=DV (f:=fun a s=>Option.rec (motive:=fun _=>R Value) .none (fun b=>A7 E t a b s) (g' rho tm)) h
 obtain⟨z,e3,e4⟩:=DV e2
 obtain⟨rfl,w',k1,k2,k3,k4,k5⟩:=MR_ he e4 hr (h2 _ _ _ _ _ _ hs (fun t q=>hu t (by simp[ho,Op.operands]at q ⊢;simp[q])) e1) (h4 _ _ _ _ _ _ hs (fun t q=>hu t (by simp[ho,Op.operands]at q ⊢;simp[q])) e3)
 refine⟨undef,w',r, .inr ⟨?_,rfl⟩, .of_rel k3 k2, .tuple rfl (fun i v v' e=>by simp at e),k4,k5⟩
 simp[execOp,ho,k1]
theorem YB_ {x:Operand}(ho:o.op= .nilCheck x):OpV E o (BU ds x kNil) ds:=by
 obtain⟨g,h1,h2⟩:=B2 ds x
 refine⟨_,by unfold BU;rw[h1],fun _ _ rho tm=>DD (g:=g rho tm) QA_, ?_⟩
 intro call round w0 w r U rho tm a s v s' hs hu hr h hf
 obtain⟨y,e1,e2⟩:=DV h
 have hx:=h2 _ _ _ _ _ _ hs (fun t q=>hu t (by simp[ho,Op.operands]at q ⊢;simp[q])) e1
 obtain⟨rfl,rfl,e3⟩:=Hy_ (P:=E.P) (w:=w) (a:=a) ho rfl e2 hx
 exact⟨_,w,r, .inl e3, .of_rel rfl hr,hx,rfl,rfl⟩
theorem HR_ {op:BinOp}{t yt:Nat}{x y:Operand}(ho:o.op= .binOp op t x y yt)(he:EnvTy E):OpV E o (Cl.rec (motive:=fun _=>Cl OpT) (fun f=>C5 ds x y f) (aBin E op t x y)) ds:=by
 generalize hc:aBin E op t x y=c
 obtain⟨f⟩:=c
 refine IB (m:=fun y' z'=>do eqGuard op t x y y' z';binOp op t y' z') (by simp[ho,Op.operands]) (fun a=>by simp only[execOp,ho];rfl) (fun y' z'=> ?_) fun h hr hf hx hy=>PT_ hc he h hr hx hy
 have slow: ∀op,NoPan (Bi E op t x y y' z'):=fun op=>Rj_ _ _ _ _ _ _ _
 have fast3: ∀(k:CP) op,NoPan (int3 k (Bi E op t x y) y' z'):=fun k op=>⟨fun s c s' e=>by
  unfold int3 C1 at e
  cases y'<;>simp only at e
  case int k1 a=>
   cases z'<;>simp only at e
   case int k2 b=>
    cases a with
    |negSucc m=>exact(slow op).no _ _ _ e
    |ofNat m=>
     cases b with
     |negSucc m=>exact(slow op).no _ _ _ e
     |ofNat n=>
      simp only at e
      cases e1:k k1 k2 m n with
      |none=>rw[e1]at e;exact(slow op).no _ _ _ e
      |some u=>rw[e1]at e;cases e
   all_goals exact(slow op).no _ _ _ e
  all_goals exact(slow op).no _ _ _ e⟩
 have fast2: ∀(k:Int→Int→St→R Value) (k3:CP) op,(∀a b,NoPan (k a b))→NoPan (int2 k (int3 k3 (Bi E op t x y)) y' z'):=fun k k3 op hk=>⟨fun s c s' e=>by
  have f3:=fast3 k3 op
  unfold int2 C1 at e
  cases y'<;>simp only at e
  case int k1 a=>
   cases z'<;>simp only at e
   case int k2 b=>
    cases e1:Eg k1 with
    |false=>rw[e1]at e;exact f3.no _ _ _ e
    |true=>
     cases e2:Eg k2 with
     |false=>rw[e1,e2]at e;exact f3.no _ _ _ e
     |true=>rw[e1,e2]at e;exact(hk a b).no _ _ _ e
   all_goals exact f3.no _ _ _ e
  all_goals exact f3.no _ _ _ e⟩
 have rI': ∀n,NoPan (rI n):=fun n=>⟨fun s c s' e=>by unfold rI at e;rw[ES]at e;cases e⟩
 have rB': ∀b,NoPan (rB b):=fun b=>⟨fun s c s' e=>by cases b<;>cases e⟩
 cases op<;>cases hc<;>first|exact slow _|exact fast3 _ _|exact fast2 _ _ _ fun a b=>rI' _|exact fast2 _ _ _ fun a b=>rB' _
theorem RP_ {op:UnOp}{t:Nat}{x:Operand}(ho:o.op= .unOp op t x):OpV E o (BU ds x (kUn E.P op)) ds:=
 EK (m:=Op.unary op) (by simp[ho,Op.operands]) (fun a=>by simp only[execOp,ho];rfl) (WL_ _ _) fun h hr hf hx=>No_ h hr hx
theorem Wx_ {s d:Nat}{x:Operand}(ho:o.op= .convert s d x)(he:EnvTy E):OpV E o (BU ds x (Bc E s d)) ds:=
 EK (m:=convert s d) (by simp[ho,Op.operands]) (fun a=>by simp only[execOp,ho];rfl) (WU_ _ _ _) fun h hr hf hx=>Zc_ he h hr hf hx
theorem Ic_ {t:Nat}{x:Operand}(ho:o.op= .sliceToArrayPointer t x)(he:EnvTy E):OpV E o (BU ds x (Dw E t)) ds:=
 EK (m:=Instr.arrayAt t) (by simp[ho,Op.operands]) (fun a=>by simp only[execOp,ho];rfl) (IL_ _ _) fun h hr hf hx=>Ng_ he h hr hx
theorem NS_ {t:Nat}{x:Operand}(ho:o.op= .makeInterface t x)(he:EnvTy E):OpV E o (BU ds x (FW E t)) ds:=
 EK (m:=Instr.makeInterface t) (by simp[ho,Op.operands]) (fun a=>by simp only[execOp,ho];rfl) (Acl_ _ _) fun h hr hf hx=>WA_ he h hr hx
theorem Mi_ {t:Nat}{x y:Operand}(ho:o.op= .makeSlice t x y)(he:EnvTy E):OpV E o (C5 ds x y (Ea E t)) ds:=
 IB (m:=Instr.makeSlice t) (by simp[ho,Op.operands]) (fun a=>by simp only[execOp,ho];rfl) (RV_ _ _) fun h hr hf hx hy=>WN_ he h hr hf hx hy
theorem Mr_ {t f:Nat}{x:Operand}(ho:o.op= .fieldAddr t x f)(he:EnvTy E):OpV E o (BU ds x fun a=>kFld E t a f) ds:=
 EK (m:=fun x=>Instr.fieldAt t x f) (by simp[ho,Op.operands]) (fun a=>by simp only[execOp,ho];rfl) (fun y=>Ms_ _ _ y _) fun h hr hf hx=>TA_ he h hr hx
theorem VA_ {t f:Nat}{x:Operand}(ho:o.op= .field t x f)(he:EnvTy E):OpV E o (BU ds x fun a=>FX E t a f) ds:=
 EK (m:=fun x=>Instr.field t x f) (by simp[ho,Op.operands]) (fun a=>by simp only[execOp,ho];rfl) (fun y=>Tw_ _ _ y _) fun h hr hf hx=>Nv_ he h hr hx
theorem Mt_ {t:Nat}{x y:Operand}(ho:o.op= .indexAddr t x y)(he:EnvTy E):OpV E o (C5 ds x y (AH E t)) ds:=
 IB (m:=Instr.indexAt t) (by simp[ho,Op.operands]) (fun a=>by simp only[execOp,ho];rfl) (Th_ _ _) fun h hr hf hx hy=>Uy_ he h hr hx hy
theorem Yc_ {t:Nat}{x y:Operand}(ho:o.op= .index t x y)(he:EnvTy E):OpV E o (C5 ds x y (kIdx E t)) ds:=
 IB (m:=Instr.index t) (by simp[ho,Op.operands]) (fun a=>by simp only[execOp,ho];rfl) (IJ_ _ _) fun h hr hf hx hy=>RU_ he h hr hx hy
theorem Iv_ {k:Nat}{x:Operand}(ho:o.op= .extract x k):OpV E o (BU ds x (kExt k)) ds:=
 EK (m:=fun x=>Instr.extract x k) (by simp[ho,Op.operands]) (fun a=>by simp only[execOp,ho];rfl) (LZ_ _) fun h hr hf hx=>Lg_ h hr hx
end
section
variable {E:Env}{ds:List Nat}{o:Oper}
theorem TK_ {x y z:Operand}(ho:o.op= .pick x y z):OpV E o (Hj ds x y z BM) ds:=by
 obtain⟨g,h1,h2⟩:=B2 ds x
 obtain⟨g',h3,h4⟩:=B2 ds y
 obtain⟨g2,h5,h6⟩:=B2 ds z
 refine⟨_,by unfold Hj;rw[h1,h3,h5],fun _ _ rho tm=>Ay _ fun a=>Ay _ fun b=>Ay _ fun c=>Ip_ _ _ _, ?_⟩
 intro call round w0 w r U rho tm a s v s' hs hu hr h hf
 obtain⟨x',e1,h⟩:=Cx h
 obtain⟨y',e2,h⟩:=Cx h
 obtain⟨z',e3,h⟩:=Cx h
 obtain⟨rfl,t,k1,k2⟩:=Pj_ h (h2 _ _ _ _ _ _ hs (fun t q=>hu t (by simp[ho,Op.operands]at q ⊢;simp[q])) e1) (h4 _ _ _ _ _ _ hs (fun t q=>hu t (by simp[ho,Op.operands]at q ⊢;simp[q])) e2) (h6 _ _ _ _ _ _ hs (fun t q=>hu t (by simp[ho,Op.operands]at q ⊢;simp[q])) e3)
 refine⟨_,w,r, .inl ?_, .of_rel rfl hr,k2,rfl,rfl⟩
 simp only[execOp,ho,k1]
 cases t<;>simp[asBool]
theorem IK_ {t:Nat}{x:Operand}{lo hi mx:Option Operand}(ho:o.op= .slice t x lo hi mx)(he:EnvTy E):OpV E o (Hz E ds t x lo hi mx) ds:=by
 cases mx with
 |some m=>
  exact⟨_,rfl,fun _ _ _ _=>Au,fun call round w0 w r U rho tm a s v s' hs hu hr h hf=>by cases h⟩
 |none=>
  obtain⟨g,h1,h2⟩:=B2 ds x
  obtain⟨g',h3,h4⟩:=Ju ds lo
  obtain⟨g2,h5,h6⟩:=Ju ds hi
  refine⟨fun _ _ rho tm=>M.on (g rho tm) fun a=>M.on (g' rho tm) fun b=>M.on (g2 rho tm) fun c=>BB E t a b c,by unfold Hz MV;simp only[h1,h3,h5],fun _ _ rho tm=>Ay _ fun a=>Ay _ fun b=>Ay _ fun c=>Tq_ _ _ _ _ _, ?_⟩
  intro call round w0 w r U rho tm a s v s' hs hu hr h hf
  obtain⟨x',e1,h⟩:=Cx h
  obtain⟨y',e2,h⟩:=Cx h
  obtain⟨z',e3,h⟩:=Cx h
  exact(IH_ he h hr (h2 _ _ _ _ _ _ hs (fun t q=>hu t (by simp[ho,Op.operands]at q ⊢;simp[q])) e1) (h4 _ _ _ _ _ _ hs (fun t q=>hu t (by simp[ho,Op.operands]at q ⊢;simp[q])) e2) (h6 _ _ _ _ _ _ hs (fun t q=>hu t (by simp[ho,Op.operands]at q ⊢;simp[q])) e3)).val (by simp only[execOp,ho];rfl)
theorem RJ {α β:Type}(f:α→β)(a:Array α):a.map f=(a.toList.map f).toArray:=by rw[←List.map_toArray]
theorem VRs.func {r:Inj}{f:Nat}{a a' c c':List Value}(h:VRs r a a')(k:VRs r c c'):VR r (.func (.func f) a.toArray c.toArray) (.func (.func f) a'.toArray c'.toArray):=
 .func rfl (by simpa using h.1) (fun i v v' e e'=>h.2 i v v' (by simpa using e) (by simpa using e')) (by simpa using k.1) (fun i v v' e e'=>k.2 i v v' (by simpa using e) (by simpa using e'))
theorem Acp_ {f:Nat}{first cap:Array Operand}(ho:o.op= .makeFunc (.func f) first cap):OpV E o (HO ds first.toList cap.toList fun x c=>M.pure (.func (.func f) x.toArray c.toArray)) ds:=by
 obtain⟨g,h1,h2⟩:=Ff ds first.toList
 obtain⟨g',h3,h4⟩:=Ff ds cap.toList
 refine⟨_,by unfold HO;rw[h1,h3],fun _ _ rho tm=>DD (g:=g rho tm) (f:=fun(a:List Value) s=>Option.rec (motive:=fun _=>R Value) .none (fun(b:List Value)=>M.pure (Value.func (.func f) a.toArray b.toArray) s) (g' rho tm)) fun a=>DD (f:=fun(b:List Value)=>M.pure (Value.func (.func f) a.toArray b.toArray)) fun b=>Aq _, ?_⟩
 intro call round w0 w r U rho tm a s v s' hs hu hr h hf
 obtain⟨x',e1,h⟩:=DV (f:=fun(a:List Value) s=>Option.rec (motive:=fun _=>R Value) .none (fun(b:List Value)=>M.pure (Value.func (.func f) a.toArray b.toArray) s) (g' rho tm)) h
 obtain⟨y',e2,h⟩:=DV (f:=fun(b:List Value)=>M.pure (Value.func (.func f) x'.toArray b.toArray)) h
 obtain⟨rfl,rfl⟩:=Av h
 refine⟨_,w,r, .inl ?_, .of_rel rfl hr,(h2 _ _ _ _ _ _ hs (fun t q=>hu t (by simp[ho,Op.operands]at q ⊢;simp[q])) e1).func (h4 _ _ _ _ _ _ hs (fun t q=>hu t (by simp[ho,Op.operands]at q ⊢;simp[q])) e2),rfl,rfl⟩
 simp[execOp,ho,Instr.makeFunc]
 exact⟨RJ _ _,RJ _ _⟩
theorem Aan_ {b:Builtin}{c:Call}(ho:o.op= .call c)(hb:c.callee= .builtin b)(hn:b≠ .recover)(he:EnvTy E):OpV E o (Gb ds c.args.toList (Az E b c.argTypes.toList)) ds:=by
 obtain⟨g,h1,h2⟩:=Ff ds c.args.toList
 refine⟨_,by unfold Gb;rw[h1],fun _ _ rho tm=>DD (g:=g rho tm) (Qp_ _ _ _), ?_⟩
 intro call round w0 w r U rho tm a s v s' hs hu hr h hf
 obtain⟨l,e1,h⟩:=DV h
 have hl:VRs r l (c.args.toList.map a.eval):=h2 _ _ _ _ _ _ hs (fun t q=>hu t (by simp[ho,Op.operands,Call.operands]at q ⊢;simp[q])) e1
 have key: ∀{m:Sem Value},Yields E w0 r s s' v w m→(∀(cs:Array Bool) w,(builtin b c.argTypes o.type cs (c.args.map a.eval)).run E.P w=(Di m).run E.P w)→
   ∃v' w' r',((execOp a.eval o).run E.P w= .ok (.value v') w'∨((execOp a.eval o).run E.P w= .ok .skip w'∧v'=undef))∧Goes w0 r s s' r' w'∧VR r' v v'∧s'.lim=s.lim∧s'.cx=s.cx:=by
  intro m hy hm
  obtain⟨v',w',r',k1,k2,k3,k4,k5⟩:=hy
  refine⟨v',w',r', .inl ?_,k2,k3,k4,k5⟩
  simp only[execOp,ho,resolve,hb,invoke,Sem.run_bind,Sem.run_pure,Result.andThen_ok,hm,Di,k1]
 generalize hts:c.argTypes.toList=ts at h
 have hmap:c.args.map a.eval=(c.args.toList.map a.eval).toArray:=by rw[←List.map_toArray]
 have ht0: ∀{t:Nat} {l:List Nat},c.argTypes.toList=t::l→c.argTypes[0]?=some t:=by
  intro t l e;rw[←Array.getElem?_toList,e];rfl
 have ht1: ∀{t t2:Nat} {l:List Nat},c.argTypes.toList=t::t2::l→c.argTypes[1]?=some t2:=by
  intro t t2 l e;rw[←Array.getElem?_toList,e];rfl
 unfold Az at h
 split at h
 ·rename_i t ts' x
  obtain⟨x',l',q1,q2,q3⟩:=hl.inv
  have:=q3.inv_nil
  subst this
  refine key (SA_ (ty:=o.type) (ht0 hts) he h hr q2) fun cs w=> ?_
  rw[hmap,q1];simp[builtin,Di]
 ·rename_i t ts' x
  obtain⟨x',l',q1,q2,q3⟩:=hl.inv
  have:=q3.inv_nil
  subst this
  refine key (RY_ (ty:=o.type) (ht0 hts) he h hr q2) fun cs w=> ?_
  rw[hmap,q1];simp[builtin,Di]
 ·obtain⟨y',l1,q1,q2,q3⟩:=hl.inv
  obtain⟨x',l',q4,q5,q6⟩:=q3.inv
  have:=q6.inv_nil
  subst this
  subst q4
  refine key (Jc_ (ty:=o.type) (ht0 hts) (ht1 hts) he h hr hf q2 q5) fun cs w=> ?_
  rw[hmap,q1];simp[builtin,Di]
 ·obtain⟨y',l1,q1,q2,q3⟩:=hl.inv
  obtain⟨x',l',q4,q5,q6⟩:=q3.inv
  have:=q6.inv_nil
  subst this
  subst q4
  refine key (Ru_ (ty:=o.type) (ht0 hts) he h hr q2 q5) fun cs w=> ?_
  rw[hmap,q1];simp[builtin,Di]
 ·refine key (SV_ (ts:=c.argTypes) (ty:=o.type) h hr hl) fun cs w=> ?_
  rw[hmap];simp[builtin,Di]
 ·refine key (Qm_ (ts:=c.argTypes) (ty:=o.type) h hr hl) fun cs w=> ?_
  rw[hmap];simp[builtin,Di]
 ·cases h
end
abbrev Out (α:Type):Type:=Sum α (List PanicEntry)
def rOf {α:Type}(o:Out α)(s:St):R α:=
 match o with
 | .inl a=> .some a s
 | .inr c=> .pan c s
def Bnd (s:St):Prop:=s.lim≤s.next
structure LocG {α:Type}(m:M α)(s:St)(o:Out α)(s':St)(Rd Wr:Nat→Prop)(dr dw:List Nat):Prop where
 rd:s'.rd=dr++s.rd
 wr:s'.wr=dw++s.wr
 nxt:s.next≤s'.next
 lim:s'.lim=s.lim
 bnd:Bnd s'
 rlt: ∀l,Rd l→l<s'.next
 wlt: ∀l,Wr l→l<s'.next
 old: ∀l,¬Wr l→T.get s'.mem l=T.get s.mem l
 any: ∀t:St,t.next=s.next→t.lim=s.lim→t.cx=s.cx→(∀l,Rd l∨Wr l→T.get t.mem l=T.get s.mem l)→
  ∃t',m t=rOf o t'∧t'.next=s'.next∧t'.lim=s'.lim∧t'.cx=s'.cx∧t'.rd=dr++t.rd∧t'.wr=dw++t.wr∧
   (∀l,Wr l→T.get t'.mem l=T.get s'.mem l)∧(∀l,¬Wr l→T.get t'.mem l=T.get t.mem l)
def Dh {α:Type}(m:M α)(s:St)(o:Out α)(s':St):Prop:=
 ∃Rd Wr dr dw,LocG m s o s' Rd Wr dr dw∧(∀l,Rd l→l<s.lim→l∈dr)∧(∀l,Wr l→l<s.lim→l∈dw)
structure Loc {α:Type}(m:M α):Prop where
 at': ∀s o s',m s=rOf o s'→Bnd s→Dh m s o s'
theorem LocG.seq {α β:Type}{m:M α}{n C:M β}{s s1 s':St}{o1:Out α}{o:Out β}{R1 W1 R2 W2:Nat→Prop}{r1 w1 r2 w2:List Nat}
  (h:LocG m s o1 s1 R1 W1 r1 w1) (k:LocG n s1 o s' R2 W2 r2 w2) (hC: ∀t t1,m t=rOf o1 t1→C t=n t1):LocG C s o s' (fun l=>R1 l∨R2 l) (fun l=>W1 l∨W2 l) (r2++r1) (w2++w1) where
 rd:=by rw[k.rd,h.rd,List.append_assoc]
 wr:=by rw[k.wr,h.wr,List.append_assoc]
 nxt:=Nat.le_trans h.nxt k.nxt
 lim:=k.lim.trans h.lim
 bnd:=k.bnd
 rlt:=fun l e=>e.elim (fun e=>Nat.lt_of_lt_of_le (h.rlt l e) k.nxt) (k.rlt l)
 wlt:=fun l e=>e.elim (fun e=>Nat.lt_of_lt_of_le (h.wlt l e) k.nxt) (k.wlt l)
 old:=fun l e=>(k.old l fun x=>e (.inr x)).trans (h.old l fun x=>e (.inl x))
 any:=fun t e1 e2 e3 e4=>by
  obtain⟨t1,q1,q2,q3,q4,q5,q6,q7,q8⟩:=h.any t e1 e2 e3 fun l e=>e4 l (e.elim (fun e=> .inl (.inl e)) (fun e=> .inr (.inl e)))
  obtain⟨t2,p1,p2,p3,p4,p5,p6,p7,p8⟩:=k.any t1 q2 q3 q4 (fun l e=>by
   by_cases hw:W1 l
   ·exact q7 l hw
   ·rw[q8 l hw,h.old l hw]
    exact e4 l (e.elim (fun e=> .inl (.inr e)) (fun e=> .inr (.inr e))))
  refine⟨t2,(hC t t1 q1).trans p1,p2,p3,p4,by rw[p5,q5,List.append_assoc],by rw[p6,q6,List.append_assoc],fun l e=> ?_,fun l e=>(p8 l fun x=>e (.inr x)).trans (q8 l fun x=>e (.inl x))⟩
  by_cases hw:W2 l
  ·exact p7 l hw
  ·rw[p8 l hw,k.old l hw]
   exact e.elim (q7 l) (fun x=>absurd x hw)
theorem Dh.bnd {α:Type}{m:M α}{s s':St}{o:Out α}(h:Dh m s o s'):Bnd s':=let ⟨_,_,_,_,e,_⟩:=h;e.bnd
theorem Dh.lim {α:Type}{m:M α}{s s':St}{o:Out α}(h:Dh m s o s'):s'.lim=s.lim:=let ⟨_,_,_,_,e,_⟩:=h;e.lim
theorem Dh.next {α:Type}{m:M α}{s s':St}{o:Out α}(h:Dh m s o s'):s.next≤s'.next:=let ⟨_,_,_,_,e,_⟩:=h;e.nxt
theorem Dh.seq {α β:Type}{m:M α}{n C:M β}{s s1 s':St}{o1:Out α}{o:Out β}(h:Dh m s o1 s1)(k:Dh n s1 o s')(hC: ∀t t1,m t=rOf o1 t1→C t=n t1):Dh C s o s':=by
 obtain⟨R1,W1,r1,w1,h1,h2,h3⟩:=h
 obtain⟨R2,W2,r2,w2,k1,k2,k3⟩:=k
 refine⟨_,_,_,_,h1.seq k1 hC,fun l e x=> ?_,fun l e x=> ?_⟩
 ·exact e.elim (fun e=>List.mem_append_right _ (h2 l e x)) (fun e=>List.mem_append_left _ (k2 l e (by rw[h1.lim];exact x)))
 ·exact e.elim (fun e=>List.mem_append_right _ (h3 l e x)) (fun e=>List.mem_append_left _ (k3 l e (by rw[h1.lim];exact x)))
theorem BK {α:Type}{o:Out α}{a:α}{s s':St}(h:R.some a s=rOf o s'):o= .inl a∧s'=s:=by cases o<;>cases h;exact⟨rfl,rfl⟩
theorem G8 {α:Type}{o:Out α}{c:List PanicEntry}{s s':St}(h:R.pan c s=rOf o s'):o= .inr c∧s'=s:=by cases o<;>cases h;exact⟨rfl,rfl⟩
theorem Bk {α:Type}{o:Out α}{s':St}(h:R.none=rOf o s'):False:=by cases o<;>cases h
theorem Dh.quiet {α:Type}{m:M α}{s:St}{o:Out α}(hb:Bnd s)(h: ∀t:St,t.cx=s.cx→m t=rOf o t):Dh m s o s:=
 ⟨fun _=>False,fun _=>False,[],[],⟨rfl,rfl,Nat.le_refl _,rfl,hb,fun _ e=>e.elim,fun _ e=>e.elim,fun _ _=>rfl,
  fun t e1 e2 e3 _=>⟨t,h t e3,e1,e2,e3,rfl,rfl,fun _ e=>e.elim,fun _ _=>rfl⟩⟩,fun _ e=>e.elim,fun _ e=>e.elim⟩
theorem An {α:Type}(a:α):Loc (M.pure a):=⟨fun s o s' h hb=>by
 obtain⟨rfl,rfl⟩:=BK h
 exact .quiet hb fun t _=>rfl⟩
theorem Al {α:Type}:Loc (M.fail:M α):=⟨fun s o s' h hb=>(Bk h).elim⟩
theorem AQ {α:Type}(x:Option α):Loc (M.ofOpt x):=by
 cases x with
 |none=>exact Al
 |some a=>exact An a
theorem H2 {α β:Type}{m:M α}{f:α→M β}{g:List PanicEntry→M β}(h:Loc m)(kf: ∀a,Loc (f a))(kg: ∀c,Loc (g c)):
  Loc (fun s=>R.rec (motive:=fun _=>R β) .none (fun a s=>f a s) (fun c s=>g c s) (m s)):=⟨fun s o s' e hb=>by
 cases e1:m s with
 |none=>rw[e1]at e;exact(Bk e).elim
 |some a s1=>
  rw[e1]at e
  have h1:=h.at' s (.inl a) s1 e1 hb
  exact h1.seq ((kf a).at' s1 o s' e h1.bnd) fun t t1 q=>by rw[q];rfl
 |pan c s1=>
  rw[e1]at e
  have h1:=h.at' s (.inr c) s1 e1 hb
  exact h1.seq ((kg c).at' s1 o s' e h1.bnd) fun t t1 q=>by rw[q];rfl⟩
theorem Qu {α:Type}(c:List PanicEntry):Loc (fun s=>R.pan c s:M α):=⟨fun s o s' h hb=>by
 obtain⟨rfl,rfl⟩:=G8 h
 exact .quiet hb fun t _=>rfl⟩
theorem GV_ {α:Type}:Loc (fun _=>R.none:M α):=⟨fun s o s' h hb=>(Bk h).elim⟩
theorem Aj {α β:Type}{m:M α}{f:α→M β}(h:Loc m)(k: ∀a,Loc (f a)):Loc (M.bind m f):=H2 h k fun c=>Qu c
theorem FP {α:Type}{m:M α}(h:Loc m):Loc (noP m):=H2 h (fun a=>An a) fun _=>GV_
theorem Aw {α:Type}(b:Bool){m:M α}(h:Loc m):Loc (M.chk b m):=by
 cases b with
 |false=>exact Al
 |true=>exact h
theorem AS {α:Type}(b:Bool){m n:M α}(h:Loc m)(k:Loc n):Loc (M.if b m n):=by cases b<;>assumption
theorem As {α β:Type}(x:Option α){f:α→M β}(k: ∀a,Loc (f a)):Loc (M.on x f):=by
 cases x with
 |none=>exact Al
 |some a=>exact k a
theorem AL {α:Type}(n:Nat){f:Nat→M α}(k: ∀a,Loc (f a)):Loc (fN n f):=by rw[AB];exact k _
theorem AY {α:Type}(n:Int){f:Int→M α}(k: ∀a,Loc (f a)):Loc (fI n f):=by rw[ES];exact k _
theorem AM {α:Type}(n:Addr){f:Addr→M α}(k: ∀a,Loc (f a)):Loc (fA n f):=by rw[Db];exact k _
theorem AX {α:Type}(v:Value){f:IntKind→Int→M α}{d:M α}(h: ∀k n,Loc (f k n))(k:Loc d):Loc (C1 v f d):=by
 cases v<;>first|exact h _ _|exact k
theorem A0 {α:Type}(b:Bool){m n:M α}(h:Loc m)(k:Loc n):Loc (Bool.rec (motive:=fun _=>M α) m n b):=by cases b<;>assumption
theorem AG {α β:Type}(x:Option α){m:M β}{f:α→M β}(h:Loc m)(k: ∀a,Loc (f a)):Loc (Option.rec (motive:=fun _=>M β) m (fun a=>f a) x):=by
 cases x with
 |none=>exact h
 |some a=>exact k a
theorem IM (loc lim:Nat)(l:List Nat):notes loc lim l=if loc<lim then loc::l else l:=by
 unfold notes
 cases h:Nat.blt loc lim with
 |true=>rw[if_pos (B0 h)]
 |false=>rw[if_neg];intro h2;rw[show Nat.blt loc lim=true from Nat.ble_eq_true_of_le h2]at h;cases h
theorem Fi (loc lim:Nat)(l:List Nat):notes loc lim l=notes loc lim []++l:=by
 rw[IM,IM]
 split<;>rfl
theorem PU {loc lim:Nat}(h:loc<lim):loc∈notes loc lim []:=by rw[IM,if_pos h];exact List.mem_cons_self
theorem AP_ (loc:Nat)(s:St):rdC loc s=if loc<s.next then match T.get s.mem loc with|none=> .none|some c=> .some c ⟨s.mem,s.next,s.lim,notes loc s.lim s.rd,s.wr,s.cx⟩else .none:=by
 obtain⟨mem,next,lim,rd,wr,cx⟩:=s
 unfold rdC
 simp only
 cases hb:Nat.blt loc next with
 |false=>rw[if_neg];intro h2;rw[show Nat.blt loc next=true from Nat.ble_eq_true_of_le h2]at hb;cases hb
 |true=>
  rw[if_pos (B0 hb)]
  cases T.get mem loc<;>rfl
theorem SU (loc:Nat)(c:Cell)(s:St):wrC loc c s=if loc<s.next then .some () ⟨T.set s.mem loc c,s.next,s.lim,s.rd,notes loc s.lim s.wr,s.cx⟩else .none:=by
 obtain⟨mem,next,lim,rd,wr,cx⟩:=s
 unfold wrC
 obtain⟨v,l,r,e⟩:=T.set_N mem loc c
 simp only[e]
 cases hb:Nat.blt loc next with
 |false=>rw[if_neg];intro h2;rw[show Nat.blt loc next=true from Nat.ble_eq_true_of_le h2]at hb;cases hb
 |true=>rw[if_pos (B0 hb)]
theorem Fc_ (loc:Nat)(s:St):delC loc s=if loc<s.next then .some () ⟨T.del s.mem loc,s.next,s.lim,s.rd,notes loc s.lim s.wr,s.cx⟩else .none:=by
 obtain⟨mem,next,lim,rd,wr,cx⟩:=s
 unfold delC
 simp only
 cases hb:Nat.blt loc next with
 |false=>rw[if_neg];intro h2;rw[show Nat.blt loc next=true from Nat.ble_eq_true_of_le h2]at hb;cases hb
 |true=>rw[if_pos (B0 hb)]
theorem TR (vs:List Value)(s:St):newL vs s= .some s.next ⟨layL s.next vs s.next s.mem,s.next+vs.length+1,s.lim,s.rd,s.wr,s.cx⟩:=by
 obtain⟨mem,next,lim,rd,wr,cx⟩:=s
 have h0:newL vs ⟨mem,next,lim,rd,wr,cx⟩=fN next fun b=>fN (Nat.succ (Nat.add b vs.length)) fun n=>R.some b (St.mk (layL b vs b mem) n lim rd wr cx):=rfl
 rw[h0,AB,AB]
 rfl
theorem S7 (o:AObj)(s:St):newO o s= .some s.next ⟨T.set s.mem s.next (.O o),s.next+1,s.lim,s.rd,s.wr,s.cx⟩:=by
 obtain⟨mem,next,lim,rd,wr,cx⟩:=s
 have h0:newO o ⟨mem,next,lim,rd,wr,cx⟩=fN next fun b=>fN (Nat.succ b) fun n=>R.some b (St.mk (T.set mem b (.O o)) n lim rd wr cx):=rfl
 rw[h0,AB,AB]
theorem Ds (loc:Nat):Loc (rdC loc):=⟨fun s o s' h hb=>by
 rw[AP_]at h
 split at h
 case isFalse=>exact(Bk h).elim
 case isTrue hl=>
  cases e:T.get s.mem loc with
  |none=>rw[e]at h;exact(Bk h).elim
  |some c=>
   rw[e]at h
   obtain⟨rfl,rfl⟩:=BK h
   refine⟨fun l=>l=loc,fun _=>False,notes loc s.lim [],[],⟨Fi _ _ _,rfl,Nat.le_refl _,rfl,hb,fun l e1=>by rw[e1];exact hl,fun _ e=>e.elim,fun _ _=>rfl,fun t e1 e2 e3 e4=> ?_⟩,fun l e1 e2=> ?_,fun _ e=>e.elim⟩
   ·refine⟨⟨t.mem,t.next,t.lim,notes loc t.lim t.rd,t.wr,t.cx⟩, ?_,e1,e2,e3, ?_,rfl,fun _ e=>e.elim,fun _ _=>rfl⟩
    ·rw[AP_,if_pos (by rw[e1];exact hl),e4 loc (.inl rfl),e];rfl
    ·rw[←e2];exact Fi _ _ _
   ·rw[e1];exact PU (by rw[←e1];exact e2)⟩
theorem DF (loc:Nat)(c:Cell):Loc (wrC loc c):=⟨fun s o s' h hb=>by
 rw[SU]at h
 split at h
 case isFalse=>exact(Bk h).elim
 case isTrue hl=>
  obtain⟨rfl,rfl⟩:=BK h
  refine⟨fun _=>False,fun l=>l=loc,[],notes loc s.lim [],⟨rfl,Fi _ _ _,Nat.le_refl _,rfl,hb,fun _ e=>e.elim,fun l e1=>by rw[e1];exact hl,fun l e=> ?_,fun t e1 e2 e3 e4=> ?_⟩,fun _ e=>e.elim,fun l e1 e2=> ?_⟩
  ·simp only[T.get_set,if_neg e]
  ·refine⟨⟨T.set t.mem loc c,t.next,t.lim,t.rd,notes loc t.lim t.wr,t.cx⟩, ?_,e1,e2,e3,rfl, ?_,fun l e=> ?_,fun l e=> ?_⟩
   ·rw[SU,if_pos (by rw[e1];exact hl)];rfl
   ·rw[←e2];exact Fi _ _ _
   ·simp only[T.get_set,if_pos e]
   ·simp only[T.get_set,if_neg e]
  ·rw[e1];exact PU (by rw[←e1];exact e2)⟩
theorem LH_ (loc:Nat):Loc (delC loc):=⟨fun s o s' h hb=>by
 rw[Fc_]at h
 split at h
 case isFalse=>exact(Bk h).elim
 case isTrue hl=>
  obtain⟨rfl,rfl⟩:=BK h
  refine⟨fun _=>False,fun l=>l=loc,[],notes loc s.lim [],⟨rfl,Fi _ _ _,Nat.le_refl _,rfl,hb,fun _ e=>e.elim,fun l e1=>by rw[e1];exact hl,fun l e=> ?_,fun t e1 e2 e3 e4=> ?_⟩,fun _ e=>e.elim,fun l e1 e2=> ?_⟩
  ·simp only[T.get_del,if_neg e]
  ·refine⟨⟨T.del t.mem loc,t.next,t.lim,t.rd,notes loc t.lim t.wr,t.cx⟩, ?_,e1,e2,e3,rfl, ?_,fun l e=> ?_,fun l e=> ?_⟩
   ·rw[Fc_,if_pos (by rw[e1];exact hl)];rfl
   ·rw[←e2];exact Fi _ _ _
   ·simp only[T.get_del,if_pos e]
   ·simp only[T.get_del,if_neg e]
  ·rw[e1];exact PU (by rw[←e1];exact e2)⟩
theorem IA (b:Nat): ∀(vs:List Value) (loc:Nat) (t:T Cell) (k:Nat),T.get (layL b vs loc t) k=if loc≤k∧k<loc+vs.length then(vs[k-loc]?).map (.C b)else T.get t k
 |[],loc,t,k=>by rw[if_neg (fun e=>by have:=e.2;simp at this;omega)];rfl
 |v::vs,loc,t,k=>by
  have h0:layL b (v::vs) loc t=fN loc fun loc=>layL b vs (Nat.succ loc) (T.set t loc (.C b v)):=rfl
  rw[h0,AB,IA b vs]
  by_cases h1:loc=k
  ·subst h1
   rw[if_neg (by omega),if_pos (by simp),T.get_set,if_pos rfl]
   simp
  ·by_cases h2:loc≤k∧k<loc+(v::vs).length
   ·have h3:k-loc=(k-Nat.succ loc)+1:=by omega
    rw[if_pos h2,if_pos (by simp at h2 ⊢;omega),h3,List.getElem?_cons_succ]
   ·rw[if_neg h2,if_neg (by simp at h2 ⊢;omega),T.get_set,if_neg (fun e=>h1 e.symm)]
theorem GD (vs:List Value):Loc (newL vs):=⟨fun s o s' h hb=>by
 rw[TR]at h
 obtain⟨rfl,rfl⟩:=BK h
 refine⟨fun _=>False,fun l=>s.next≤l∧l<s.next+vs.length,[],[],⟨rfl,rfl,by show s.next≤s.next+vs.length+1;omega,rfl, ?_,fun _ e=>e.elim,fun l e=> ?_,fun l e=> ?_,fun t e1 e2 e3 e4=> ?_⟩,fun _ e=>e.elim,fun l e1 e2=> ?_⟩
 ·show s.lim≤s.next+vs.length+1
  unfold Bnd at hb;omega
 ·show l<s.next+vs.length+1
  omega
 ·simp only[IA,if_neg e]
 ·refine⟨⟨layL t.next vs t.next t.mem,t.next+vs.length+1,t.lim,t.rd,t.wr,t.cx⟩, ?_,by rw[e1],e2,e3,rfl,rfl,fun l e=> ?_,fun l e=> ?_⟩
  ·rw[TR,e1];rfl
  ·simp only[IA,e1,if_pos e]
  ·simp only[IA,e1,if_neg e]
 ·unfold Bnd at hb;omega⟩
theorem Jb (x:AObj):Loc (newO x):=⟨fun s o s' h hb=>by
 rw[S7]at h
 obtain⟨rfl,rfl⟩:=BK h
 refine⟨fun _=>False,fun l=>l=s.next,[],[],⟨rfl,rfl,by show s.next≤s.next+1;omega,rfl, ?_,fun _ e=>e.elim,fun l e=> ?_,fun l e=> ?_,fun t e1 e2 e3 e4=> ?_⟩,fun _ e=>e.elim,fun l e1 e2=> ?_⟩
 ·show s.lim≤s.next+1
  unfold Bnd at hb;omega
 ·show l<s.next+1
  omega
 ·simp only[T.get_set,if_neg e]
 ·refine⟨⟨T.set t.mem t.next (.O x),t.next+1,t.lim,t.rd,t.wr,t.cx⟩, ?_,by rw[e1],e2,e3,rfl,rfl,fun l e=> ?_,fun l e=> ?_⟩
  ·rw[S7,e1];rfl
  ·simp only[T.get_set,e1,if_pos e]
  ·simp only[T.get_set,e1,if_neg e]
 ·unfold Bnd at hb;omega⟩
theorem NF:Loc getCx:=⟨fun s o s' h hb=>by
 obtain⟨rfl,rfl⟩:=BK (show R.some s.cx s=rOf o s' from h)
 exact .quiet hb fun t e=>by rw[←e];rfl⟩
theorem Ta (x:Ctx):Loc (putCx x):=⟨fun s o s' h hb=>by
 obtain⟨rfl,rfl⟩:=BK (show R.some () (St.mk s.mem s.next s.lim s.rd s.wr x)=rOf o s' from h)
 exact⟨fun _=>False,fun _=>False,[],[],⟨rfl,rfl,Nat.le_refl _,rfl,hb,fun _ e=>e.elim,fun _ e=>e.elim,fun _ _=>rfl,
  fun t e1 e2 e3 _=>⟨St.mk t.mem t.next t.lim t.rd t.wr x,rfl,e1,e2,rfl,rfl,rfl,fun _ e=>e.elim,fun _ _=>rfl⟩⟩,fun _ e=>e.elim,fun _ e=>e.elim⟩⟩
theorem Ru (a:Addr):Loc (rdV a):=by
 obtain⟨b,o,s⟩:=a
 cases s with
 |some x=>exact Al
 |none=>exact Aj (Ds _) fun c=>AQ _
theorem Jj_ (a:Addr)(v:Value):Loc (wrV a v):=by
 obtain⟨b,o,s⟩:=a
 cases s with
 |some x=>exact Al
 |none=>exact Aj (Ds _) fun c=>Aw _ (DF _ _)
theorem EP: ∀(n:Nat) (a:Addr),Loc (rdL n a)
 |0,_=>An _
 |n+1,a=>by
  have h0:rdL (n+1) a=fA a fun a=>M.bind (rdV a) fun v=>M.bind (rdL n ⟨a.block,Nat.succ a.off,a.spot⟩) fun l=>M.pure (v::l):=rfl
  rw[h0]
  exact AM _ fun a=>Aj (Ru a) fun v=>Aj (EP n _) fun l=>An _
theorem H4: ∀(vs:List Value) (a:Addr),Loc (wrL vs a)
 |[],_=>An _
 |v::vs,a=>by
  have h0:wrL (v::vs) a=fA a fun a=>M.bind (wrV a v) fun _=>wrL vs ⟨a.block,Nat.succ a.off,a.spot⟩:=rfl
  rw[h0]
  exact AM _ fun a=>Aj (Jj_ a v) fun v=>H4 vs _
theorem NT: ∀(n l:Nat),Loc (C4 n l)
 |0,_=>An _
 |n+1,l=>by
  have h0:C4 (n+1) l=M.bind (delC l) fun _=>C4 n (l+1):=rfl
  rw[h0]
  exact Aj (LH_ l) fun _=>NT n _
theorem BR (x0:_)(x1:_):Loc (ti x0 x1):=by
 unfold ti
 repeat' (first|exact An _|exact Al|exact AQ _|apply Aj|apply Aw|apply AS|apply As|apply AL|apply AY|apply AM|apply AX|apply A0|apply AG|intro _|split)
theorem Ie (x0:_):Loc (pV x0):=by
 unfold pV
 repeat' (first|exact An _|exact Al|exact AQ _|apply Aj|apply Aw|apply AS|apply As|apply AL|apply AY|apply AM|apply AX|apply A0|apply AG|intro _|split)
theorem Nr_ (x0:_)(x1:_)(x2:_)(x3:_)(x4:_):Loc (ET x0 x1 x2 x3 x4):=by
 unfold ET
 repeat' (first|exact An _|exact Al|exact AQ _|exact BR _ _|apply Aj|apply Aw|apply AS|apply As|apply AL|apply AY|apply AM|apply AX|apply A0|apply AG|intro _|split)
theorem Zy_ (x0:_)(x1:_):Loc (Gh x0 x1):=by
 unfold Gh
 repeat' (first|exact An _|exact Al|exact AQ _|apply Aj|apply Aw|apply AS|apply As|apply AL|apply AY|apply AM|apply AX|apply A0|apply AG|intro _|split)
theorem KZ_ (x0:_)(x1:_)(x2:_):Loc (GT x0 x1 x2):=by
 unfold GT
 repeat' (first|exact An _|exact Al|exact AQ _|exact Zy_ _ _|apply Aj|apply Aw|apply AS|apply As|apply AL|apply AY|apply AM|apply AX|apply A0|apply AG|intro _|split)
theorem NP_ (x0:_)(x1:_)(x2:_)(x3:_)(x4:_)(x5:_)(x6:_):Loc (Bi x0 x1 x2 x3 x4 x5 x6):=by
 unfold Bi
 repeat' (first|exact An _|exact Al|exact AQ _|exact KZ_ _ _ _|exact Nr_ _ _ _ _ _|exact Ie _|apply Aj|apply Aw|apply AS|apply As|apply AL|apply AY|apply AM|apply AX|apply A0|apply AG|intro _|split)
theorem UY_ (x0:_):Loc (lenOf x0):=by
 unfold lenOf
 repeat' (first|exact An _|exact Al|exact AQ _|apply Aj|apply Aw|apply AS|apply As|apply AL|apply AY|apply AM|apply AX|apply A0|apply AG|intro _|split)
theorem GS_ (x0:_)(x1:_)(x2:_):Loc (EF x0 x1 x2):=by
 unfold EF
 repeat' (first|exact An _|exact Al|exact AQ _|exact BR _ _|exact EP _ _|exact Ru _|apply Aj|apply Aw|apply AS|apply As|apply AL|apply AY|apply AM|apply AX|apply A0|apply AG|intro _|split)
theorem Abv_ (x0:_)(x1:_)(x2:_)(x3:_):Loc (GV x0 x1 x2 x3):=by
 unfold GV
 repeat' (first|exact An _|exact Al|exact AQ _|exact BR _ _|exact H4 _ _|apply Aj|apply Aw|apply AS|apply As|apply AL|apply AY|apply AM|apply AX|apply A0|apply AG|intro _|split)
theorem La (x0:_):Loc (asA x0):=by
 unfold asA
 repeat' (first|exact An _|exact Al|exact AQ _|apply Aj|apply Aw|apply AS|apply As|apply AL|apply AY|apply AM|apply AX|apply A0|apply AG|intro _|split)
theorem IG (x0:_)(x1:_)(x2:_):Loc (bnd x0 x1 x2):=by
 unfold bnd
 repeat' (first|exact An _|exact Al|exact AQ _|apply Aj|apply Aw|apply AS|apply As|apply AL|apply AY|apply AM|apply AX|apply A0|apply AG|intro _|split)
theorem Rm (x0:_):Loc (ptrA x0):=by
 unfold ptrA
 repeat' (first|exact An _|exact Al|exact AQ _|apply Aj|apply Aw|apply AS|apply As|apply AL|apply AY|apply AM|apply AX|apply A0|apply AG|intro _|split)
theorem Ia (x0:_)(x1:_)(x2:_):Loc (pSl x0 x1 x2):=by
 unfold pSl
 repeat' (first|exact An _|exact Al|exact AQ _|apply Aj|apply Aw|apply AS|apply As|apply AL|apply AY|apply AM|apply AX|apply A0|apply AG|intro _|split)
theorem JX (x0:_):Loc (pN x0):=by
 unfold pN
 repeat' (first|exact An _|exact Al|exact AQ _|apply Aj|apply Aw|apply AS|apply As|apply AL|apply AY|apply AM|apply AX|apply A0|apply AG|intro _|split)
theorem TT_ (x0:_)(x1:_)(x2:_)(x3:_)(x4:_):Loc (FI x0 x1 x2 x3 x4):=by
 unfold FI
 repeat' (first|exact An _|exact Al|exact AQ _|exact Ia _ _ _|exact IG _ _ _|apply Aj|apply Aw|apply AS|apply As|apply AL|apply AY|apply AM|apply AX|apply A0|apply AG|intro _|split)
theorem Aca_ (x0:_)(x1:_)(x2:_)(x3:_)(x4:_)(x5:_):Loc (slSl x0 x1 x2 x3 x4 x5):=by
 unfold slSl
 repeat' (first|exact An _|exact Al|exact AQ _|exact Ia _ _ _|exact IG _ _ _|apply Aj|apply Aw|apply AS|apply As|apply AL|apply AY|apply AM|apply AX|apply A0|apply AG|intro _|split)
theorem Uh_ (x0:_)(x1:_)(x2:_):Loc (GB x0 x1 x2):=by
 unfold GB
 repeat' (first|exact An _|exact Al|exact AQ _|exact IG _ _ _|apply Aj|apply Aw|apply AS|apply As|apply AL|apply AY|apply AM|apply AX|apply A0|apply AG|intro _|split)
theorem SN_ (x0:_)(x1:_)(x2:_)(x3:_)(x4:_):Loc (BB x0 x1 x2 x3 x4):=by
 unfold BB
 repeat' (first|exact An _|exact Al|exact AQ _|exact Uh_ _ _ _|exact Aca_ _ _ _ _ _ _|exact TT_ _ _ _ _ _|exact IG _ _ _|exact BR _ _|apply Aj|apply Aw|apply AS|apply As|apply AL|apply AY|apply AM|apply AX|apply A0|apply AG|intro _|split)
theorem VP (x0:_)(x1:_)(x2:_):Loc (srcL x0 x1 x2):=by
 unfold srcL
 repeat' (first|exact An _|exact Al|exact AQ _|exact EP _ _|apply Aj|apply Aw|apply AS|apply As|apply AL|apply AY|apply AM|apply AX|apply A0|apply AG|intro _|split)
theorem Zf_ (x0:_)(x1:_)(x2:_):Loc (appN x0 x1 x2):=by
 unfold appN
 repeat' (first|exact An _|exact Al|exact AQ _|apply Aj|apply Aw|apply AS|apply As|apply AL|apply AY|apply AM|apply AX|apply A0|apply AG|intro _|split)
theorem YY_ (x0:_)(x1:_)(x2:_)(x3:_):Loc (appL x0 x1 x2 x3):=by
 unfold appL
 repeat' (first|exact An _|exact Al|exact AQ _|exact VP _ _ _|apply Aj|apply Aw|apply AS|apply As|apply AL|apply AY|apply AM|apply AX|apply A0|apply AG|intro _|split)
theorem PK_ (x0:_)(x1:_)(x2:_):Loc (oldL x0 x1 x2):=by
 unfold oldL
 repeat' (first|exact An _|exact Al|exact AQ _|exact EP _ _|apply Aj|apply Aw|apply AS|apply As|apply AL|apply AY|apply AM|apply AX|apply A0|apply AG|intro _|split)
theorem Aai_ (x0:_)(x1:_)(x2:_):Loc (Fy x0 x1 x2):=by
 unfold Fy
 repeat' (first|exact An _|exact Al|exact AQ _|exact NT _ _|apply Aj|apply Aw|apply AS|apply As|apply AL|apply AY|apply AM|apply AX|apply A0|apply AG|intro _|split)
theorem AaQ_ (x0:_)(x1:_)(x2:_)(x3:_):Loc (Dv x0 x1 x2 x3):=by
 unfold Dv
 repeat' (first|exact An _|exact Al|exact AQ _|exact Aai_ _ _ _|exact DF _ _|exact Ds _|apply Aj|apply Aw|apply AS|apply As|apply AL|apply AY|apply AM|apply AX|apply A0|apply AG|intro _|split)
theorem Pt_ (x0:_)(x1:_)(x2:_)(x3:_)(x4:_)(x5:_)(x6:_)(x7:_):Loc (grow x0 x1 x2 x3 x4 x5 x6 x7):=by
 unfold grow
 repeat' (first|exact An _|exact Al|exact AQ _|exact AaQ_ _ _ _ _|exact PK_ _ _ _|exact Ia _ _ _|exact GD _|exact DF _ _|apply Aj|apply Aw|apply AS|apply As|apply AL|apply AY|apply AM|apply AX|apply A0|apply AG|intro _|split)
theorem ZC_ (x0:_)(x1:_)(x2:_)(x3:_)(x4:_)(x5:_):Loc (FE x0 x1 x2 x3 x4 x5):=by
 unfold FE
 repeat' (first|exact An _|exact Al|exact AQ _|exact Ia _ _ _|exact H4 _ _|apply Aj|apply Aw|apply AS|apply As|apply AL|apply AY|apply AM|apply AX|apply A0|apply AG|intro _|split)
theorem IV_ (x0:_)(x1:_)(x2:_)(x3:_)(x4:_):Loc (CZ x0 x1 x2 x3 x4):=by
 unfold CZ
 repeat' (first|exact An _|exact Al|exact AQ _|exact ZC_ _ _ _ _ _ _|exact Pt_ _ _ _ _ _ _ _ _|exact YY_ _ _ _ _|exact Zf_ _ _ _|exact BR _ _|apply Aj|apply Aw|apply AS|apply As|apply AL|apply AY|apply AM|apply AX|apply A0|apply AG|intro _|split)
theorem NI_ (x0:_)(x1:_)(x2:_):Loc (Cj x0 x1 x2):=by
 unfold Cj
 repeat' (first|exact An _|exact Al|exact AQ _|exact BR _ _|apply Aj|apply Aw|apply AS|apply As|apply AL|apply AY|apply AM|apply AX|apply A0|apply AG|intro _|split)
theorem TS_ (x0:_)(x1:_)(x2:_)(x3:_):Loc (BZ x0 x1 x2 x3):=by
 unfold BZ
 repeat' (first|exact An _|exact Al|exact AQ _|exact BR _ _|exact GD _|exact DF _ _|apply Aj|apply Aw|apply AS|apply As|apply AL|apply AY|apply AM|apply AX|apply A0|apply AG|intro _|split)
theorem Fu_ (x0:_)(x1:_)(x2:_)(x3:_):Loc (El x0 x1 x2 x3):=by
 unfold El
 repeat' (first|exact An _|exact Al|exact AQ _|exact BR _ _|apply Aj|apply Aw|apply AS|apply As|apply AL|apply AY|apply AM|apply AX|apply A0|apply AG|intro _|split)
theorem Jp_ (x0:_)(x1:_)(x2:_)(x3:_)(x4:_):Loc (F5 x0 x1 x2 x3 x4):=by
 unfold F5
 repeat' (first|exact An _|exact Al|exact AQ _|exact VP _ _ _|exact JX _|exact UY_ _|exact BR _ _|exact H4 _ _|apply Aj|apply Aw|apply AS|apply As|apply AL|apply AY|apply AM|apply AX|apply A0|apply AG|intro _|split)
theorem SN (x0:_):Loc (Fj x0):=by
 unfold Fj
 repeat' (first|exact An _|exact Al|exact AQ _|exact Ds _|apply Aj|apply Aw|apply AS|apply As|apply AL|apply AY|apply AM|apply AX|apply A0|apply AG|intro _|split)
theorem Sv_ (x0:_):Loc (GO x0):=by
 unfold GO
 repeat' (first|exact An _|exact Al|exact AQ _|exact SN _|exact JX _|apply Aj|apply Aw|apply AS|apply As|apply AL|apply AY|apply AM|apply AX|apply A0|apply AG|intro _|split)
theorem TM_ (x0:_)(x1:_)(x2:_):Loc (aLen x0 x1 x2):=by
 unfold aLen
 repeat' (first|exact An _|exact Al|exact AQ _|exact Sv_ _|exact JX _|exact BR _ _|apply Aj|apply Aw|apply AS|apply As|apply AL|apply AY|apply AM|apply AX|apply A0|apply AG|intro _|split)
theorem ZB_ (x0:_)(x1:_)(x2:_):Loc (aCap x0 x1 x2):=by
 unfold aCap
 repeat' (first|exact An _|exact Al|exact AQ _|exact JX _|exact BR _ _|apply Aj|apply Aw|apply AS|apply As|apply AL|apply AY|apply AM|apply AX|apply A0|apply AG|intro _|split)
theorem XH_ (x0:_)(x1:_)(x2:_):Loc (JJ x0 x1 x2):=by
 unfold JJ
 repeat' (first|exact An _|exact Al|exact AQ _|exact BR _ _|exact H4 _ _|apply Aj|apply Aw|apply AS|apply As|apply AL|apply AY|apply AM|apply AX|apply A0|apply AG|intro _|split)
theorem FY_ (E:_)(e:_)(t:_)(k:_)(es:_):Loc (J7 E e t k es):=Aw _ (As _ fun _=>An _)
theorem Vt_ (x0:_)(x1:_):Loc (mapT x0 x1):=by
 unfold mapT
 repeat' (first|exact An _|exact Al|exact AQ _|exact BR _ _|apply Aj|apply Aw|apply AS|apply As|apply AL|apply AY|apply AM|apply AX|apply A0|apply AG|intro _|split)
theorem XT_ (E:_)(t:_)(m:_)(k:_):Loc (kDel E t m k):=Aj (Vt_ _ _) fun ke=>by
 cases m with
 |map m=>
  cases m with
  |none=>exact Aj (FY_ _ _ _ _ _) fun _=>An _
  |some l=>exact Aj (SN _) fun p=>Aj (FY_ _ _ _ _ _) fun r=>by cases r<;>exact Aj (DF _ _) fun _=>An _
 |_=>exact Al
theorem RG_ (x0:_)(x1:_)(x2:_)(x3:_):Loc (Az x0 x1 x2 x3):=by
 unfold Az
 repeat' (first|exact An _|exact Al|exact AQ _|exact XT_ _ _ _ _|exact XH_ _ _ _|exact ZB_ _ _ _|exact TM_ _ _ _|exact Jp_ _ _ _ _ _|exact IV_ _ _ _ _ _|exact Ie _|apply Aj|apply Aw|apply AS|apply As|apply AL|apply AY|apply AM|apply AX|apply A0|apply AG|intro _|split)
theorem PL_ (x0:_)(x1:_)(x2:_)(x3:_):Loc (idxN x0 x1 x2 x3):=by
 unfold idxN
 repeat' (first|exact An _|exact Al|exact AQ _|exact Rm _|exact BR _ _|apply Aj|apply Aw|apply AS|apply As|apply AL|apply AY|apply AM|apply AX|apply A0|apply AG|intro _|split)
theorem Md (x0:_):Loc (asN x0):=by
 unfold asN
 repeat' (first|exact An _|exact Al|exact AQ _|apply Aj|apply Aw|apply AS|apply As|apply AL|apply AY|apply AM|apply AX|apply A0|apply AG|intro _|split)
theorem Jh_ (x0:_)(x1:_)(x2:_):Loc (BM x0 x1 x2):=by
 unfold BM
 repeat' (first|exact An _|exact Al|exact AQ _|apply Aj|apply Aw|apply AS|apply As|apply AL|apply AY|apply AM|apply AX|apply A0|apply AG|intro _|split)
theorem CA_ (x0:_):Loc (ptrN x0):=by
 unfold ptrN
 repeat' (first|exact An _|exact Al|exact AQ _|apply Aj|apply Aw|apply AS|apply As|apply AL|apply AY|apply AM|apply AX|apply A0|apply AG|intro _|split)
theorem XY_ (x0:_)(x1:_):Loc (Bt x0 x1):=by
 unfold Bt
 repeat' (first|exact An _|exact Al|exact AQ _|exact CA_ _|exact BR _ _|exact GD _|apply Aj|apply Aw|apply AS|apply As|apply AL|apply AY|apply AM|apply AX|apply A0|apply AG|intro _|split)
theorem UR_ (x0:_):Loc (kBox x0):=by
 unfold kBox
 repeat' (first|exact An _|exact Al|exact AQ _|exact CA_ _|exact GD _|apply Aj|apply Aw|apply AS|apply As|apply AL|apply AY|apply AM|apply AX|apply A0|apply AG|intro _|split)
theorem Xj_ (x0:_)(x1:_)(x2:_):Loc (Ak x0 x1 x2):=by
 unfold Ak
 repeat' (first|exact An _|exact Al|exact AQ _|exact La _|exact GS_ _ _ _|apply Aj|apply Aw|apply AS|apply As|apply AL|apply AY|apply AM|apply AX|apply A0|apply AG|intro _|split)
theorem LN_ (x0:_)(x1:_)(x2:_)(x3:_):Loc (A7 x0 x1 x2 x3):=by
 unfold A7
 repeat' (first|exact An _|exact Al|exact AQ _|exact La _|exact Abv_ _ _ _ _|apply Aj|apply Aw|apply AS|apply As|apply AL|apply AY|apply AM|apply AX|apply A0|apply AG|intro _|split)
theorem Sa_ (x0:_):Loc (kNil x0):=by
 unfold kNil
 repeat' (first|exact An _|exact Al|exact AQ _|apply Aj|apply Aw|apply AS|apply As|apply AL|apply AY|apply AM|apply AX|apply A0|apply AG|intro _|split)
theorem Tu_ (b:Bool):Loc (pB b):=by cases b<;>exact An _
theorem Kz (x0:_)(x1:_)(x2:_):Loc (C3 x0 x1 x2):=by
 unfold C3
 repeat' (first|exact An _|exact Al|exact AQ _|exact Ie _|apply Aj|apply Aw|apply AS|apply As|apply AL|apply AY|apply AM|apply AX|apply A0|apply AG|intro _|split)
theorem HH_ (P:Program)(v:Value):Loc (xorU P v):=by
 have h:=Kz P .xor v
 cases v with
 |int k n=>
  cases n with
  |negSucc m=>exact Kz P .xor (.int k (.negSucc m))
  |ofNat m=>
   show Loc (Option.rec (motive:=fun _=>M Value) (C3 P .xor (.int k (.ofNat m))) (fun x=>M.pure x) (notK k m))
   exact AG _ (Kz _ _ _) fun _=>An _
 |_=>exact h
theorem PF_ (x0:_)(x1:_)(x2:_):Loc (kUn x0 x1 x2):=by
 unfold kUn
 repeat' (first|exact An _|exact Al|exact AQ _|exact HH_ _ _|exact Kz _ _ _|exact Tu_ _|apply Aj|apply Aw|apply AS|apply As|apply AL|apply AY|apply AM|apply AX|apply A0|apply AG|intro _|split)
theorem LE_ (x0:_)(x1:_):Loc (strOf x0 x1):=by
 unfold strOf
 repeat' (first|exact An _|exact Al|exact AQ _|exact EP _ _|apply Aj|apply Aw|apply AS|apply As|apply AL|apply AY|apply AM|apply AX|apply A0|apply AG|intro _|split)
theorem Sb_ (x0:_)(x1:_)(x2:_)(x3:_)(x4:_):Loc (F3 x0 x1 x2 x3 x4):=by
 unfold F3
 repeat' (first|exact An _|exact Al|exact AQ _|exact LE_ _ _|exact BR _ _|apply Aj|apply Aw|apply AS|apply As|apply AL|apply AY|apply AM|apply AX|apply A0|apply AG|intro _|split)
theorem Vc_ (x0:_)(x1:_)(x2:_)(x3:_)(x4:_):Loc (Fv x0 x1 x2 x3 x4):=by
 unfold Fv
 repeat' (first|exact An _|exact Al|exact AQ _|exact Ie _|exact BR _ _|apply Aj|apply Aw|apply AS|apply As|apply AL|apply AY|apply AM|apply AX|apply A0|apply AG|intro _|split)
theorem Ox (x0:_)(x1:_)(x2:_)(x3:_):Loc (Ed x0 x1 x2 x3):=by
 unfold Ed
 repeat' (first|exact An _|exact Al|exact AQ _|exact Vc_ _ _ _ _ _|exact Sb_ _ _ _ _ _|exact Ie _|apply Aj|apply Aw|apply AS|apply As|apply AL|apply AY|apply AM|apply AX|apply A0|apply AG|intro _|split)
theorem Ul_ (x0:_)(x1:_):Loc (rowN x0 x1):=by
 unfold rowN
 repeat' (first|exact An _|exact Al|exact AQ _|exact Ia _ _ _|exact GD _|exact DF _ _|apply Aj|apply Aw|apply AS|apply As|apply AL|apply AY|apply AM|apply AX|apply A0|apply AG|intro _|split)
theorem TD_ (l:List UInt8):Loc (FU l):=by
 unfold FU
 rw[KG]
 exact AL _ fun n=>Ul_ _ _
theorem XX_ (x0:_)(x1:_)(x2:_)(x3:_):Loc (Gk x0 x1 x2 x3):=by
 unfold Gk
 repeat' (first|exact An _|exact Al|exact AQ _|exact TD_ _|exact Ox _ _ _ _|exact BR _ _|apply Aj|apply Aw|apply AS|apply As|apply AL|apply AY|apply AM|apply AX|apply A0|apply AG|intro _|split)
theorem HX_ (x0:_)(x1:_)(x2:_)(x3:_)(x4:_)(x5:_):Loc (EV x0 x1 x2 x3 x4 x5):=by
 unfold EV
 repeat' (first|exact An _|exact Al|exact AQ _|exact Ox _ _ _ _|exact BR _ _|exact EP _ _|exact Ds _|apply Aj|apply Aw|apply AS|apply As|apply AL|apply AY|apply AM|apply AX|apply A0|apply AG|intro _|split)
theorem WH_ (x0:_)(x1:_)(x2:_)(x3:_):Loc (Bc x0 x1 x2 x3):=by
 unfold Bc
 repeat' (first|exact An _|exact Al|exact AQ _|exact HX_ _ _ _ _ _ _|exact XX_ _ _ _ _|exact Ox _ _ _ _|apply Aj|apply Aw|apply AS|apply As|apply AL|apply AY|apply AM|apply AX|apply A0|apply AG|intro _|split)
theorem AaJ_ (x0:_)(x1:_):Loc (GH x0 x1):=by
 unfold GH
 repeat' (first|exact An _|exact Al|exact AQ _|apply Aj|apply Aw|apply AS|apply As|apply AL|apply AY|apply AM|apply AX|apply A0|apply AG|intro _|split)
theorem Zk_ (x0:_)(x1:_)(x2:_):Loc (Dw x0 x1 x2):=by
 unfold Dw
 repeat' (first|exact An _|exact Al|exact AQ _|exact AaJ_ _ _|exact BR _ _|apply Aj|apply Aw|apply AS|apply As|apply AL|apply AY|apply AM|apply AX|apply A0|apply AG|intro _|split)
theorem Qy_ (x0:_)(x1:_)(x2:_):Loc (FW x0 x1 x2):=by
 unfold FW
 repeat' (first|exact An _|exact Al|exact AQ _|exact BR _ _|apply Aj|apply Aw|apply AS|apply As|apply AL|apply AY|apply AM|apply AX|apply A0|apply AG|intro _|split)
theorem AbA_ (x0:_)(x1:_)(x2:_)(x3:_):Loc (mkSl x0 x1 x2 x3):=by
 unfold mkSl
 repeat' (first|exact An _|exact Al|exact AQ _|exact BR _ _|exact GD _|apply Aj|apply Aw|apply AS|apply As|apply AL|apply AY|apply AM|apply AX|apply A0|apply AG|intro _|split)
theorem UK_ (x0:_)(x1:_)(x2:_)(x3:_):Loc (Ea x0 x1 x2 x3):=by
 unfold Ea
 repeat' (first|exact An _|exact Al|exact AQ _|exact AbA_ _ _ _ _|exact Md _|exact BR _ _|apply Aj|apply Aw|apply AS|apply As|apply AL|apply AY|apply AM|apply AX|apply A0|apply AG|intro _|split)
theorem AV_ (x0:_)(x1:_)(x2:_):Loc (Ei x0 x1 x2):=by
 unfold Ei
 repeat' (first|exact An _|exact Al|exact AQ _|exact BR _ _|apply Aj|apply Aw|apply AS|apply As|apply AL|apply AY|apply AM|apply AX|apply A0|apply AG|intro _|split)
theorem AaN_ (x0:_)(x1:_)(x2:_)(x3:_):Loc (kFld x0 x1 x2 x3):=by
 unfold kFld
 repeat' (first|exact An _|exact Al|exact AQ _|exact AV_ _ _ _|exact Rm _|exact La _|exact BR _ _|apply Aj|apply Aw|apply AS|apply As|apply AL|apply AY|apply AM|apply AX|apply A0|apply AG|intro _|split)
theorem Oi_ (x0:_):Loc (asCs x0):=by
 unfold asCs
 repeat' (first|exact An _|exact Al|exact AQ _|apply Aj|apply Aw|apply AS|apply As|apply AL|apply AY|apply AM|apply AX|apply A0|apply AG|intro _|split)
theorem XU_ (x0:_)(x1:_)(x2:_)(x3:_):Loc (FX x0 x1 x2 x3):=by
 unfold FX
 repeat' (first|exact An _|exact Al|exact AQ _|exact Oi_ _|exact AV_ _ _ _|exact Fu_ _ _ _ _|exact BR _ _|apply Aj|apply Aw|apply AS|apply As|apply AL|apply AY|apply AM|apply AX|apply A0|apply AG|intro _|split)
theorem VL_ (x0:_)(x1:_)(x2:_)(x3:_):Loc (AH x0 x1 x2 x3):=by
 unfold AH
 repeat' (first|exact An _|exact Al|exact AQ _|exact Md _|exact PL_ _ _ _ _|exact BR _ _|apply Aj|apply Aw|apply AS|apply As|apply AL|apply AY|apply AM|apply AX|apply A0|apply AG|intro _|split)
theorem Xi_ (x0:_)(x1:_)(x2:_)(x3:_):Loc (idxV x0 x1 x2 x3):=by
 unfold idxV
 repeat' (first|exact An _|exact Al|exact AQ _|exact Fu_ _ _ _ _|exact BR _ _|apply Aj|apply Aw|apply AS|apply As|apply AL|apply AY|apply AM|apply AX|apply A0|apply AG|intro _|split)
theorem JL_ (x0:_)(x1:_)(x2:_)(x3:_):Loc (kIdx x0 x1 x2 x3):=by
 unfold kIdx
 repeat' (first|exact An _|exact Al|exact AQ _|exact Xi_ _ _ _ _|exact Md _|exact BR _ _|apply Aj|apply Aw|apply AS|apply As|apply AL|apply AY|apply AM|apply AX|apply A0|apply AG|intro _|split)
theorem Pp_ (x0:_)(x1:_):Loc (kExt x0 x1):=by
 unfold kExt
 repeat' (first|exact An _|exact Al|exact AQ _|apply Aj|apply Aw|apply AS|apply As|apply AL|apply AY|apply AM|apply AX|apply A0|apply AG|intro _|split)
inductive ChR (r:Inj):List PanicEntry→List PanicEntry→Prop
 |nil:ChR r [] []
 |cons {e e':PanicEntry} {l l':List PanicEntry}:VR r e.v e'.v→e'.recovered=e.recovered→e'.goexit=e.goexit→ChR r l l'→ChR r (e::l) (e'::l')
theorem ChR.mono {r r':Inj}(h:r.le r'){l l':List PanicEntry}(k:ChR r l l'):ChR r' l l':=by
 induction k with
 |nil=>exact .nil
 |cons a b c _ ih=>exact .cons (a.mono h) b c ih
theorem ChR.append {r:Inj}{a a' b b':List PanicEntry}(h:ChR r a a')(k:ChR r b b'):ChR r (a++b) (a'++b'):=by
 induction h with
 |nil=>exact k
 |cons x y z _ ih=>exact .cons x y z ih
inductive MoR (r:Inj):FrameMode→FrameMode→Prop
 |run:MoR r .run .run
 |ret:MoR r .returning .returning
 |pan {c c':List PanicEntry}:ChR r c c'→MoR r (.panicking c) (.panicking c')
theorem MoR.mono {r r':Inj}(h:r.le r'){m m':FrameMode}(k:MoR r m m'):MoR r' m m':=by
 cases k with
 |run=>exact .run
 |ret=>exact .ret
 |pan c=>exact .pan (c.mono h)
inductive DfR (r:Inj):Deferred→Deferred→Prop
 |fn {f f':Fn} {c c' a a':Array Value}:FnR r f f'→VRs r c.toList c'.toList→VRs r a.toList a'.toList→DfR r ⟨.fn f c,a⟩ ⟨.fn f' c',a'⟩
 |coll {b b' d:Nat}:r.blk b=some (b',d)→DfR r ⟨.collected b, #[]⟩ ⟨.collected b', #[]⟩
theorem DfR.mono {r r':Inj}(h:r.le r'){m m':Deferred}(k:DfR r m m'):DfR r' m m':=by
 cases k with
 |fn a b c=>exact .fn (a.mono h) (b.mono h) (c.mono h)
 |coll a=>exact .coll (h.1 _ _ a)
inductive DfsR (r:Inj):List Deferred→List Deferred→Prop
 |nil:DfsR r [] []
 |cons {e e':Deferred} {l l':List Deferred}:DfR r e e'→DfsR r l l'→DfsR r (e::l) (e'::l')
theorem DfsR.mono {r r':Inj}(h:r.le r'){l l':List Deferred}(k:DfsR r l l'):DfsR r' l l':=by
 induction k with
 |nil=>exact .nil
 |cons a _ ih=>exact .cons (a.mono h) ih
def CxR (r:Inj)(base:List Deferred×List Frame)(cx:Ctx)(b:Frame)(dfs:List Deferred)(cs:List Frame):Prop:=
 match cx with
 | .no=>dfs=base.1∧cs=base.2
 | .cx up d=>
  (match up with
   |none=>b.kind= .normal∧cs=base.2
   |some m=>b.kind= .deferred∧ ∃c rest m',base.2=c::rest∧cs={c with mode:=m'}::rest∧MoR r m m')∧
  (match d with
   |none=>b.roundOf≠none∧dfs=[]
   |some l=>b.roundOf=none∧DfsR r l dfs)
theorem CxR.mono {r r':Inj}(h:r.le r'){base:List Deferred×List Frame}{cx:Ctx}{b:Frame}{dfs:List Deferred}{cs:List Frame}(k:CxR r base cx b dfs cs):CxR r' base cx b dfs cs:=by
 unfold CxR at *
 cases cx with
 |no=>exact k
 |cx up d=>
  obtain⟨k1,k2⟩:=k
  constructor
  ·cases up with
   |none=>exact k1
   |some m=>obtain⟨q1,c,rest,m',q2,q3,q4⟩:=k1;exact⟨q1,c,rest,m',q2,q3,q4.mono h⟩
  ·cases d with
   |none=>exact k2
   |some l=>exact⟨k2.1,k2.2.mono h⟩
def frm (b:Frame)(t:Array Value)(d:List Deferred)(todo:List Item):Frame:={fn:=b.fn,tmps:=t,todo,defers:=d,mode:= .run,kind:=b.kind,roundOf:=b.roundOf}
def putT (t:Array Value)(dst:Option Nat)(v:Value):Array Value:=
 match dst with
 |some d=>t.setIfInBounds d v
 |none=>t
theorem PW (b:Frame)(t:Array Value)(d:List Deferred)(todo:List Item):(frm b t d todo).eval=Act.eval ⟨t,d⟩:=funext fun x=>by cases x<;>rfl
theorem HP (b:Frame)(t:Array Value)(d:List Deferred){ops:Array Oper}{i:Nat}{o:Oper}(ho:ops[i]?=some o)(rest:List Nat)(k:List Item)(v:Value):
  (frm b t d (.inRegion ops (i::rest)::k)).finish v=frm b (putT t o.dst v) d (.inRegion ops rest::k):=by
 cases h:o.dst<;>simp[Frame.finish,frm,putT,ho,h]
section
variable {P:Program}{b:Frame}{t:Array Value}{d:List Deferred}{k:List Item}{cs:List Frame}{w:World}{ops:Array Oper}
theorem HD {i:Nat}{rest:List Nat}{o:Oper}(ho:ops[i]?=some o)(hw:Region.wanted o (yielded ops t)=true)(hd:b.roundOf=none∨ ∀c,o.op≠ .defer c):
  stepG P true {frame:=frm b t d (.inRegion ops (i::rest)::k),callers:=cs,status:= .running,dying:=none} w=
   stepG.apply P true (frm b t d (.inRegion ops (i::rest)::k)) cs none (execOp (Act.eval ⟨t,d⟩) o) w:=by
 have he:=PW b t d (.inRegion ops (i::rest)::k)
 have e1:stepG P true {frame:=frm b t d (.inRegion ops (i::rest)::k),callers:=cs,status:= .running,dying:=none} w=
   stepG.oper P true (frm b t d (.inRegion ops (i::rest)::k)) cs none w:=by
  simp[stepG,stepG.exec,frm,ho,hw]
 rw[e1]
 have e2:(frm b t d (.inRegion ops (i::rest)::k)).oper?=some o:=ho
 unfold stepG.oper
 simp only[e2,he]
 split
 ·rename_i l c h1 h2
  rcases hd with hd|hd
  ·rw[show(frm b t d (.inRegion ops (i::rest)::k)).roundOf=b.roundOf from rfl,hd]at h1
   cases h1
  ·exact absurd h2 (hd c)
 ·rfl
theorem Yp_ {id:Nat}:step P (lone (frm b t d (.code (.region id ops false)::k)) cs w)= .next (lone (frm b t d (.inRegion ops (List.range ops.size)::k)) cs w):=
 step_lone_go (by simp[stepG,stepG.exec,frm])
theorem HM_ {id:Nat}:
  step P (lone (frm b t d (.code (.region id ops true)::k)) cs w)=
   .next (lone (frm b t d (.inRegion ops (Region.schedule (P.follows .mixedOrders) ops (w.tape w.drawn (.order b.fn id)))::k)) cs {w with drawn:=w.drawn+1}):=
 step_lone_go (by simp[stepG,stepG.exec,frm,choose,Sem.run,Question.forced,Question.cut])
theorem Abk_:step P (lone (frm b t d (.inRegion ops []::k)) cs w)= .next (lone (frm b t d k) cs w):=
 step_lone_go (by simp[stepG,stepG.exec,frm])
theorem Ps_ {i:Nat}{o:Oper}{rest:List Nat}(ho:ops[i]?=some o)(h:Region.wanted o (yielded ops t)=false):
  step P (lone (frm b t d (.inRegion ops (i::rest)::k)) cs w)= .next (lone (frm b (putT t o.dst undef) d (.inRegion ops rest::k)) cs w):=by
 rw[←HP b t d ho]
 exact step_lone_go (by simp[stepG,stepG.exec,frm,ho,h])
end
def Ends (P:Program)(r:Inj)(out:Out Value)(m:Machine)(c:Frame)(cs:List Frame)(w':World):Prop:=
 match out with
 | .inl v=> ∃v',VR r v v'∧Steps P m (lone (c.finish v') cs w')
 | .inr ch=> ∃ch',ChR r ch ch'∧Steps P m (lone (c.raise ch') cs w')
def Lo (P:Program)(w0 w:World)(r:Inj)(s:St)(f:Nat)(args':List Value)(out:Out Value)(s':St):Prop:=
 ∃v v' w' r',out= .inl v∧VR r' v v'∧Goes w0 r s s' r' w'∧s'.lim=s.lim∧s'.cx=s.cx∧(callFunc f args'.toArray).run P w= .ok (.value v') w'
structure CallOK (E:Env)(call:Ab):Prop where
 loc: ∀f args,Loc (call f args)
 ok: ∀{w0 w:World} {r:Inj} {f:Nat} {args args':List Value} {s:St} {out:Out Value} {s':St},call f args s=rOf out s'→Rel w0 r s.mem w→Bnd s→Bz r s.next s'.next→VRs r args args'→
  ((∀w,(callFunc f args'.toArray).run E.P w= .ok (.enter f args'.toArray) w)∧
  ∀c cs,∃w' r',Goes w0 r s s' r' w'∧s'.lim=s.lim∧s'.cx=s.cx∧Ends E.P r' out (lone (Frame.enter E.P f args'.toArray .normal) (c::cs) w) c cs w')∨
  (E.ext.get f≠none∧Lo E.P w0 w r s f args' out s')
structure RoundOK (E:Env)(round:Ab):Prop where
 loc: ∀l args,Loc (round l args)
 ok: ∀{w0 w:World} {r:Inj} {l l' d:Nat} {args args':List Value} {s:St} {out:Out Value} {s':St},round l args s=rOf out s'→Rel w0 r s.mem w→Bnd s→Bz r s.next s'.next→VRs r args args'→r.blk l=some (l',d)→
  ∃f tm as bd,(Instr.yield l' args'.toArray).run E.P w= .ok (.round l' f tm as bd) w∧
  ∀c cs,∃w' r',Goes w0 r s s' r' w'∧s'.lim=s.lim∧s'.cx=s.cx∧Ends E.P r' out (lone (Frame.round l' f tm as bd .normal) (c::cs) w) c cs w'
def OE (P:Program)(r:Inj)(out:Out Value)(m:Machine)(b:Frame)(t:Array Value)(dfs:List Deferred)(ops:Array Oper)(o:Oper)(rest:List Nat)(k:List Item)(cs:List Frame)(w':World):Prop:=
 match out with
 | .inl v=> ∃v',VR r v v'∧Steps P m (lone (frm b (putT t o.dst v') dfs (.inRegion ops rest::k)) cs w')
 | .inr ch=> ∃ch' td,ChR r ch ch'∧Steps P m (lone {frm b t dfs td with mode:= .panicking ch'} cs w')
def OpS (E:Env)(o:Oper)(c:Cl OpT)(ds:List Nat):Prop:=
 ∃f,c= .mk f∧(∀call round,CallOK E call→RoundOK E round→ ∀rho tm,Loc (f call round rho tm))∧
  ∀call round,CallOK E call→RoundOK E round→ ∀(w0 w:World) (r:Inj) (U:Nat→Prop) rho tm (b:Frame) (t:Array Value) (dfs:List Deferred) (cs:List Frame) (base:List Deferred×List Frame) (s:St) (out:Out Value) (s':St),
   SlR r U ds rho tm t→(∀t,Operand.tmp t∈o.op.operands.toList→U t)→Rel w0 r s.mem w→CxR r base s.cx b dfs cs→Bnd s→Bz r s.next s'.next→f call round rho tm s=rOf out s'→
   ∀(ops:Array Oper) i rest k,ops[i]?=some o→Region.wanted o (yielded ops t)=true→
    ∃w' r' dfs' cs',Goes w0 r s s' r' w'∧CxR r' base s'.cx b dfs' cs'∧s'.lim=s.lim∧
     OE E.P r' out (lone (frm b t dfs (.inRegion ops (i::rest)::k)) cs w) b t dfs' ops o rest k cs' w'
theorem OpS.ofV {E:Env}{o:Oper}{c:Cl OpT}{ds:List Nat}(h:OpV E o c ds)(hd: ∀c,o.op≠ .defer c)(hl: ∀f,c= .mk f→ ∀call round rho tm,Loc (f call round rho tm)):OpS E o c ds:=by
 obtain⟨f,h1,h2,h3⟩:=h
 refine⟨f,h1,fun call round _ _=>hl f h1 call round, ?_⟩
 intro call round hc hro w0 w r U rho tm b t dfs cs base s out s' hs hu hr hx hb hf e ops i rest k ho hw
 cases out with
 |inr ch=>exact((h2 call round rho tm).no _ _ _ e).elim
 |inl v=>
  obtain⟨v',w',r',k1,k2,k3,k4,k5⟩:=h3 call round w0 w r U rho tm ⟨t,dfs⟩ s v s' hs hu hr e hf
  refine⟨w',r',dfs,cs,k2,by rw[k5];exact hx.mono k2.le,k4,v',k3, .one (step_lone_go ?_)⟩
  rw[HD ho hw (.inr hd),←HP b t dfs ho]
  rcases k1 with k1|⟨k1,rfl⟩<;>simp[stepG.apply,k1]
theorem NZ_ (b:Frame)(t:Array Value)(d:List Deferred)(td:List Item)(ch:List PanicEntry):(frm b t d td).raise ch={frm b t d td with mode:= .panicking ch}:=rfl
section
variable {E:Env}{ds:List Nat}{o:Oper}
theorem VR.func_inv {r:Inj}{f:Fn}{a c:Array Value}{v':Value}(h:VR r (.func f a c) v'): ∃f' a' c',v'= .func f' a' c'∧FnR r f f'∧VRs r a.toList a'.toList∧VRs r c.toList c'.toList:=by
 cases h with
 |func h1 h2 h3 h4 h5=>exact⟨_,_,_,rfl,h1,VRs.ofArr h2 h3,VRs.ofArr h4 h5⟩
theorem Jk (ρ:Operand→Value){c:Call}{ty:TypeId}{x:Operand}{f:Fn}{a cap:Array Value}(hc:c.callee= .value x)(hx:ρ x= .func f a cap):
  resolve ρ c ty=pure {target:= .fn f cap,args:=a++c.args.map ρ}:=by
 unfold resolve
 simp only[hc,hx,Deferred.ofValue]
theorem Ks_ {x:Operand}{c:Call}(ho:o.op= .call c)(hc:c.callee= .value x):OpS E o (MG ds x c.args.toList) ds:=by
 obtain⟨g,h1,h2⟩:=B2 ds x
 obtain⟨g',h3,h4⟩:=Ff ds c.args.toList
 refine⟨fun call round rho tm=>M.on (g rho tm) fun f=>M.on (g' rho tm) fun l=>AC call round f l,by unfold MG;simp only[h1,h3], ?_, ?_⟩
 ·intro call round hc1 hc2 rho tm
  refine As _ fun f=>As _ fun l=> ?_
  unfold AC
  split
  ·exact hc1.loc _ _
  ·exact Aw _ (hc2.loc _ _)
  ·exact Al
 ·intro call round hc1 hc2 w0 w r U rho tm b t dfs cs base s out s' hs hu hr hx hb hf e ops i rest k hoi hw
  have on': ∀{α β:Type} {y:Option α} {f:α→M β} {o:Out β} {s s':St},M.on y f s=rOf o s'→ ∃a,y=some a∧f a s=rOf o s':=by
   intro α β y f o s s' h
   cases y with
   |none=>exact(Bk h).elim
   |some a=>exact⟨a,rfl,h⟩
  obtain⟨fv,e1,e⟩:=on' e
  obtain⟨l,e2,e⟩:=on' e
  have hfv:=h2 _ _ _ _ ⟨t,dfs⟩ _ hs (fun t q=>hu t (by simp[ho,Op.operands,Call.operands,hc]at q ⊢;simp[q])) e1
  have hl:VRs r l (c.args.toList.map (Act.eval ⟨t,dfs⟩)):=h4 _ _ _ _ ⟨t,dfs⟩ _ hs (fun t q=>hu t (by simp[ho,Op.operands,Call.operands]at q ⊢;simp[q])) e2
  have hmap:c.args.map (Act.eval ⟨t,dfs⟩)=(c.args.toList.map (Act.eval ⟨t,dfs⟩)).toArray:=by rw[←List.map_toArray]
  have hd: ∀c,o.op≠ .defer c:=by rw[ho];intro c h;cases h
  unfold AC at e
  split at e
  ·rename_i f first cap _
   obtain⟨f',a',c',q1,q2,q3,q4⟩:=hfv.func_inv
   cases f' with
   |func f'=>
    simp only[FnR]at q2
    subst q2
    have e1:(a'++c.args.map (Act.eval ⟨t,dfs⟩)++c')=(a'.toList++(c.args.toList.map (Act.eval ⟨t,dfs⟩)++c'.toList)).toArray:=by
     rw[hmap];simp
    rcases hc1.ok e hr hb hf (args':=a'.toList++(c.args.toList.map (Act.eval ⟨t,dfs⟩)++c'.toList)) (q3.append (hl.append q4))with⟨k1,k2⟩|⟨_,v,v',w',r',rfl,g1,g2,g3,g4,g5⟩
    case inr=>
     have hrun:(execOp (Act.eval ⟨t,dfs⟩) o).run E.P w= .ok (.value v') w':=by
      simp only[execOp,ho,Jk _ hc q1]
      simp only[invoke,Sem.run_bind,Sem.run_pure,Result.andThen_ok,e1,g5]
     refine⟨w',r',dfs,cs,g2,by rw[g4];exact hx.mono g2.le,g3,v',g1, .one (step_lone_go ?_)⟩
     rw[HD hoi hw (.inr hd),←HP b t dfs hoi]
     simp[stepG.apply,hrun]
    obtain⟨w',r',g1,g2,g3,g4⟩:=k2 (frm b t dfs (.inRegion ops (i::rest)::k)) cs
    have henter:step E.P (lone (frm b t dfs (.inRegion ops (i::rest)::k)) cs w)=
      .next (lone (Frame.enter E.P f (a'.toList++(c.args.toList.map (Act.eval ⟨t,dfs⟩)++c'.toList)).toArray .normal) (frm b t dfs (.inRegion ops (i::rest)::k)::cs) w):=by
     refine step_lone_go ?_
     rw[HD hoi hw (.inr hd)]
     have hrun:(execOp (Act.eval ⟨t,dfs⟩) o).run E.P w= .ok (.enter f (a'.toList++(c.args.toList.map (Act.eval ⟨t,dfs⟩)++c'.toList)).toArray) w:=by
      simp only[execOp,ho,Jk _ hc q1]
      simp only[invoke,Sem.run_bind,Sem.run_pure,Result.andThen_ok,e1,k1]
     simp[stepG.apply,hrun,frm]
    refine⟨w',r',dfs,cs,g1,by rw[g3];exact hx.mono g1.le,g2, ?_⟩
    unfold Ends at g4
    cases out with
    |inl v=>
     obtain⟨v',p1,p2⟩:=g4
     rw[HP b t dfs hoi]at p2
     exact⟨v',p1, .head henter p2⟩
    |inr ch=>
     obtain⟨ch',p1,p2⟩:=g4
     exact⟨ch',_,p1, .head henter p2⟩
   |_=>simp only[FnR]at q2
  ·rename_i lp first cap _
   obtain⟨f',a',c',q1,q2,q3,q4⟩:=hfv.func_inv
   cases f' with
   |yield lp'=>
    obtain⟨dd,q2⟩:=q2
    cases hemp:first.isEmpty with
    |false=>rw[hemp]at e;exact(Bk e).elim
    |true=>
     rw[hemp]at e
     have e':round lp l s=rOf out s':=e
     have hfe:first= #[]:=by simpa using hemp
     subst hfe
     have ha':a'= #[]:=by have:=q3.1;simp at this;simpa using this.symm
     subst ha'
     obtain⟨fn,tmn,as,bd,k1,k2⟩:=hc2.ok e' hr hb hf hl q2
     obtain⟨w',r',g1,g2,g3,g4⟩:=k2 (frm b t dfs (.inRegion ops (i::rest)::k)) cs
     have henter:step E.P (lone (frm b t dfs (.inRegion ops (i::rest)::k)) cs w)=
       .next (lone (Frame.round lp' fn tmn as bd .normal) (frm b t dfs (.inRegion ops (i::rest)::k)::cs) w):=by
      refine step_lone_go ?_
      rw[HD hoi hw (.inr hd)]
      have hrun:(execOp (Act.eval ⟨t,dfs⟩) o).run E.P w= .ok (.round lp' fn tmn as bd) w:=by
       simp only[execOp,ho,Jk _ hc q1]
       have e1:(#[]++c.args.map (Act.eval ⟨t,dfs⟩))=(c.args.toList.map (Act.eval ⟨t,dfs⟩)).toArray:=by
        rw[hmap];simp
       simp only[invoke,Sem.run_bind,Sem.run_pure,Result.andThen_ok,e1,k1]
      simp[stepG.apply,hrun,frm]
     refine⟨w',r',dfs,cs,g1,by rw[g3];exact hx.mono g1.le,g2, ?_⟩
     unfold Ends at g4
     cases out with
     |inl v=>
      obtain⟨v',p1,p2⟩:=g4
      rw[HP b t dfs hoi]at p2
      exact⟨v',p1, .head henter p2⟩
     |inr ch=>
      obtain⟨ch',p1,p2⟩:=g4
      exact⟨ch',_,p1, .head henter p2⟩
   |_=>simp only[FnR]at q2
  ·exact(Bk e).elim
end
section
variable {E:Env}{ds:List Nat}{o:Oper}
theorem EQ {α:Type}{g:Option α}{f:α→M Value}(h: ∀a,Loc (f a)):Loc (fun s=>Option.rec (motive:=fun _=>R Value) .none (fun a=>f a s) g):=by
 cases g with
 |none=>exact GV_
 |some a=>exact h a
theorem HW_ {α:Type}{x:Option α}{f:α→St→R Value}{s s':St}{out:Out Value}(h:Option.rec (motive:=fun _=>R Value) .none (fun a=>f a s) x=rOf out s'): ∃a,x=some a∧f a s=rOf out s':=by
 cases x with
 |none=>exact(Bk h).elim
 |some a=>exact⟨a,rfl,h⟩
theorem Oe_ {α:Type}{b:Bool}{m:M α}{o:Out α}{s s':St}(h:M.chk b m s=rOf o s'):b=true∧m s=rOf o s':=by
 cases b with
 |false=>exact(Bk h).elim
 |true=>exact⟨rfl,h⟩
theorem JI {α β:Type}{y:Option α}{f:α→M β}{o:Out β}{s s':St}(h:M.on y f s=rOf o s'): ∃a,y=some a∧f a s=rOf o s':=by
 cases y with
 |none=>exact(Bk h).elim
 |some a=>exact⟨a,rfl,h⟩
theorem C0 {α β:Type}{m:M α}{f:α→M β}{o:Out β}{s s':St}(h:M.bind m f s=rOf o s'):(∃a s1,m s= .some a s1∧f a s1=rOf o s')∨ ∃c,m s= .pan c s'∧o= .inr c:=by
 unfold M.bind at h
 cases e:m s with
 |none=>rw[e]at h;exact(Bk h).elim
 |some a s1=>rw[e]at h;exact .inl ⟨a,s1,rfl,h⟩
 |pan c s1=>
  rw[e]at h
  obtain⟨rfl,rfl⟩:=G8 h
  exact .inr ⟨c,rfl,rfl⟩
theorem Sl_ {β:Type}{f:Ctx→M β}{s:St}:M.bind getCx f s=f s.cx s:=rfl
theorem Mw_ {β:Type}{x:Ctx}{f:Unit→M β}{s:St}:M.bind (putCx x) f s=f () ⟨s.mem,s.next,s.lim,s.rd,s.wr,x⟩:=rfl
theorem Yr_ {x:Operand}(ho:o.op= .panic x):OpS E o (BU ds x Sy) ds:=by
 obtain⟨g,h1,h2⟩:=B2 ds x
 refine⟨_,by unfold BU;rw[h1],fun call round _ _ rho tm=>EQ fun a=> ?_, ?_⟩
 ·cases a<;>first|exact Qu _|exact Al
 ·intro call round hc1 hc2 w0 w r U rho tm b t dfs cs base s out s' hs hu hr hx hb hf e ops i rest k hoi hw
  obtain⟨v,e1,e⟩:=HW_ e
  have hv:VR r v (Act.eval ⟨t,dfs⟩ x):=h2 _ _ _ _ ⟨t,dfs⟩ _ hs (fun t q=>hu t (by simp[ho,Op.operands]at q ⊢;simp[q])) e1
  have hd: ∀c,o.op≠ .defer c:=by rw[ho];intro c h;cases h
  cases v with
  |iface ty y=>
   obtain⟨rfl,rfl⟩:=G8 (show R.pan [{v:= .iface ty y,recovered:=false}] s=rOf out s' from e)
   cases hv':Act.eval ⟨t,dfs⟩ x with
   |iface ty' y'=>
    rw[hv']at hv
    refine⟨w,r,dfs,cs, .of_rel rfl hr,hx,rfl,[{v:= .iface ty' y',recovered:=false}], .inRegion ops (i::rest)::k, .cons hv rfl rfl .nil, .one (step_lone_go ?_)⟩
    rw[HD hoi hw (.inr hd)]
    simp only[execOp,ho,hv']
    rw[←NZ_]
    simp[stepG.apply,Instr.panic,goPanic,Sem.run]
   |_=>rw[hv']at hv;cases hv
  |_=>exact(Bk e).elim
theorem S2 {k:Int→Int→St→R Value}{slow:Value→Value→M Value}(hk: ∀a b,Loc (k a b))(hs: ∀x y,Loc (slow x y))(x y:Value):Loc (int2 k slow x y):=by
 unfold int2 C1
 cases x
 case int k1 a=>
  cases y
  case int k2 b=>
   cases h1:Eg k1 with
   |false=>simp only[h1];exact hs _ _
   |true=>
    cases h2:Eg k2 with
    |false=>simp only[h1,h2];exact hs _ _
    |true=>simp only[h1,h2];exact hk a b
  all_goals exact hs _ _
 all_goals exact hs _ _
theorem OT {k:CP}{slow:Value→Value→M Value}(hs: ∀x y,Loc (slow x y))(x y:Value):Loc (int3 k slow x y):=by
 unfold int3 C1
 cases x
 case int k1 a=>
  cases y
  case int k2 b=>
   cases a with
   |negSucc m=>exact hs _ _
   |ofNat m=>
    cases b with
    |negSucc n=>exact hs _ _
    |ofNat n=>
     simp only
     cases k k1 k2 m n with
     |none=>exact hs _ _
     |some u=>exact An _
  all_goals exact hs _ _
 all_goals exact hs _ _
theorem MC_ {op:BinOp}{t:Nat}{x y:Operand}{f:Value→Value→M Value}(h:aBin E op t x y= .mk f): ∀a b,Loc (f a b):=by
 have slow: ∀op a b,Loc (Bi E op t x y a b):=fun op a b=>NP_ _ _ _ _ _ _ _
 have rI': ∀n,Loc (rI n):=fun n=>by
  have:rI n=(M.pure (.int .i64 (wrap64 n)):M Value):=by funext s;unfold rI;rw[ES];rfl
  rw[this];exact An _
 have rB': ∀b,Loc (rB b):=fun b=>by cases b<;>exact An _
 intro a b
 cases op<;>cases h<;>first|exact slow _ _ _|exact OT (slow _) _ _|exact S2 (fun a b=>rI' _) (OT (slow _)) _ _|exact S2 (fun a b=>rB' _) (OT (slow _)) _ _
theorem XO {x:Operand}: ∀f,E7 ds x= .mk f→ ∀call round rho tm,Loc (f call round rho tm):=by
 obtain⟨g,h1,_⟩:=B2 ds x
 intro f h
 unfold E7 at h
 rw[h1]at h
 cases h
 exact fun _ _ _ _=>EQ (f:=fun a=>M.pure a) fun a=>An a
theorem Ec {x:Operand}{k:Value→M Value}(hk: ∀a,Loc (k a)): ∀f,BU ds x k= .mk f→ ∀call round rho tm,Loc (f call round rho tm):=by
 obtain⟨g,h1,_⟩:=B2 ds x
 intro f h
 unfold BU at h
 rw[h1]at h
 cases h
 exact fun _ _ _ _=>EQ hk
theorem HF {x y:Operand}{k:Value→Value→M Value}(hk: ∀a b,Loc (k a b)): ∀f,C5 ds x y k= .mk f→ ∀call round rho tm,Loc (f call round rho tm):=by
 obtain⟨g,h1,_⟩:=B2 ds x
 obtain⟨g',h2,_⟩:=B2 ds y
 intro f h
 unfold C5 at h
 rw[h1,h2]at h
 cases h
 exact fun _ _ rho tm=>EQ (f:=fun a s=>Option.rec (motive:=fun _=>R Value) .none (fun b=>k a b s) (g' rho tm)) fun a=>EQ (hk a)
theorem Jm_ {l:List Operand}{k:List Value→M Value}(hk: ∀a,Loc (k a)): ∀f,Gb ds l k= .mk f→ ∀call round rho tm,Loc (f call round rho tm):=by
 obtain⟨g,h1,_⟩:=Ff ds l
 intro f h
 unfold Gb at h
 rw[h1]at h
 cases h
 exact fun _ _ _ _=>EQ hk
theorem UI_ {l l':List Operand}{k:List Value→List Value→M Value}(hk: ∀a b,Loc (k a b)): ∀f,HO ds l l' k= .mk f→ ∀call round rho tm,Loc (f call round rho tm):=by
 obtain⟨g,h1,_⟩:=Ff ds l
 obtain⟨g',h2,_⟩:=Ff ds l'
 intro f h
 unfold HO at h
 rw[h1,h2]at h
 cases h
 exact fun _ _ rho tm=>EQ (f:=fun a s=>Option.rec (motive:=fun _=>R Value) .none (fun b=>k a b s) (g' rho tm)) fun a=>EQ (hk a)
theorem Cr_ {l:List (Nat×Operand)}{k:List (Nat×Value)→M Value}(hk: ∀a,Loc (k a)): ∀f,EZ ds l k= .mk f→ ∀call round rho tm,Loc (f call round rho tm):=by
 obtain⟨g,h1,_⟩:=NW ds l
 intro f h
 unfold EZ at h
 rw[h1]at h
 cases h
 exact fun _ _ _ _=>EQ hk
theorem Vm_ {x y z:Operand}{k:Value→Value→Value→M Value}(hk: ∀a b c,Loc (k a b c)): ∀f,Hj ds x y z k= .mk f→ ∀call round rho tm,Loc (f call round rho tm):=by
 obtain⟨g,h1,_⟩:=B2 ds x
 obtain⟨g',h2,_⟩:=B2 ds y
 obtain⟨g2,h3,_⟩:=B2 ds z
 intro f h
 unfold Hj at h
 rw[h1,h2,h3]at h
 cases h
 exact fun _ _ rho tm=>As _ fun a=>As _ fun b=>As _ fun c=>hk a b c
theorem Xu_ {t:Nat}{x:Operand}{lo hi mx:Option Operand}: ∀f,Hz E ds t x lo hi mx= .mk f→ ∀call round rho tm,Loc (f call round rho tm):=by
 cases mx with
 |some m=>intro f h;cases h;exact fun _ _ _ _=>Al
 |none=>
  obtain⟨g,h1,_⟩:=B2 ds x
  obtain⟨g',h2,_⟩:=Ju ds lo
  obtain⟨g2,h3,_⟩:=Ju ds hi
  intro f h
  unfold Hz MV at h
  simp only[h1,h2,h3]at h
  cases h
  exact fun _ _ rho tm=>As _ fun a=>As _ fun b=>As _ fun c=>SN_ _ _ _ _ _
theorem Ny:OpS E o H1 ds:=⟨_,rfl,fun _ _ _ _ _ _=>Al,fun _call _round _ _ _w0 _w _r _U _rho _tm _b _t _dfs _cs _base _s _out _s' _hs _hu _hr _hx _hb _hf e=>(Bk e).elim⟩
theorem Ze_ (he:EnvTy E)(o:Oper)(ds:List Nat):OpS E o (En E ds o.op) ds:=by
 have nd: ∀{p:Op},o.op=p→(∀c,p≠ .defer c)→ ∀c,o.op≠ .defer c:=fun h k c=>by rw[h];exact k c
 generalize hop:o.op=op
 unfold En
 split
 ·exact .ofV (Ow_ hop) (nd hop (by intro c h;cases h)) XO
 ·exact .ofV (QE_ hop) (nd hop (by intro c h;cases h)) XO
 ·exact .ofV (TK_ hop) (nd hop (by intro c h;cases h)) (Vm_ Jh_)
 ·exact .ofV (VV_ hop he) (nd hop (by intro c h;cases h)) (by intro f h;cases h;exact fun _ _ _ _=>XY_ _ _)
 ·exact .ofV (AbR_ hop) (nd hop (by intro c h;cases h)) (Ec UR_)
 ·exact .ofV (Si_ hop he) (nd hop (by intro c h;cases h)) (Cr_ fun a=>NI_ _ _ _)
 ·exact .ofV (JC_ hop he) (nd hop (by intro c h;cases h)) (Cr_ fun a=>TS_ _ _ _ _)
 ·exact .ofV (Lk_ hop he) (nd hop (by intro c h;cases h)) (Ec fun a=>Xj_ _ _ _)
 ·exact .ofV (QM_ hop he) (nd hop (by intro c h;cases h)) (HF fun a b=>LN_ _ _ _ _)
 ·exact .ofV (YB_ hop) (nd hop (by intro c h;cases h)) (Ec Sa_)
 ·refine .ofV (HR_ hop he) (nd hop (by intro c h;cases h)) ?_
  rename_i op t x y yt
  generalize hc:aBin E op t x y=c
  obtain⟨f⟩:=c
  exact HF (MC_ hc)
 ·exact .ofV (RP_ hop) (nd hop (by intro c h;cases h)) (Ec fun a=>PF_ _ _ _)
 ·exact .ofV (Wx_ hop he) (nd hop (by intro c h;cases h)) (Ec fun a=>WH_ _ _ _ _)
 ·exact .ofV (Ic_ hop he) (nd hop (by intro c h;cases h)) (Ec fun a=>Zk_ _ _ _)
 ·exact .ofV (NS_ hop he) (nd hop (by intro c h;cases h)) (Ec fun a=>Qy_ _ _ _)
 ·exact .ofV (Acp_ hop) (nd hop (by intro c h;cases h)) (UI_ fun a b=>An _)
 ·exact .ofV (Mi_ hop he) (nd hop (by intro c h;cases h)) (HF fun a b=>UK_ _ _ _ _)
 ·exact .ofV (IK_ hop he) (nd hop (by intro c h;cases h)) Xu_
 ·exact .ofV (Mr_ hop he) (nd hop (by intro c h;cases h)) (Ec fun a=>AaN_ _ _ _ _)
 ·exact .ofV (VA_ hop he) (nd hop (by intro c h;cases h)) (Ec fun a=>XU_ _ _ _ _)
 ·exact .ofV (Mt_ hop he) (nd hop (by intro c h;cases h)) (HF fun a b=>VL_ _ _ _ _)
 ·exact .ofV (Yc_ hop he) (nd hop (by intro c h;cases h)) (HF fun a b=>JL_ _ _ _ _)
 ·exact .ofV (Iv_ hop) (nd hop (by intro c h;cases h)) (Ec fun a=>Pp_ _ _)
 ·rename_i c
  cases hc:c.callee with
  |value f=>unfold Gz;simp only[hc];exact Ks_ hop hc
  |invoke a b=>unfold Gz;simp only[hc];exact Ny
  |builtin bi=>
   by_cases hbr:bi= .recover
   ·subst hbr;unfold Gz;simp only[hc];exact Ny
   ·have:Gz E ds c=Gb ds c.args.toList (Az E bi c.argTypes.toList):=by
     unfold Gz
     rw[hc]
     cases bi<;>first|rfl|exact absurd rfl hbr
    rw[this]
    exact .ofV (Aan_ hop hc hbr he) (nd hop (by intro c h;cases h)) (Jm_ fun a=>RG_ _ _ _ _)
 ·exact Yr_ hop
 ·exact Ny
end
end Go.Proofs.Ytofanlcjeohcjaa.Am
