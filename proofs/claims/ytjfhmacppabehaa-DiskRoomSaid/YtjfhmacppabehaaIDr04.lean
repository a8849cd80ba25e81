import Derived.Test.YtjfhmacppabehaaIDr03
import Derived.Recover
namespace Go.Proofs.Ytjfhmacppabehaa.Am
open Go.RowKit
section
variable {E:Env}{ds:List Nat}{o:Oper}
theorem II_ {x:Operand}(ho:o.op= .move x):OpV E o (DW ds x) ds:=Vf (by simp[ho,Op.operands]) fun a=>by simp only[execOp,ho]
theorem Ej_ {x:Operand}(ho:o.op= .assign x):OpV E o (DW ds x) ds:=Vf (by simp[ho,Op.operands]) fun a=>by simp only[execOp,ho]
theorem Xj {e:Nat}(ho:o.op= .alloc e)(he:EnvTy E):OpV E o (.mk fun _ _ _ _=>Db E e) ds:=by
 refine⟨_,rfl,fun _ _ _ _=>IQ_ _ _, ?_⟩
 intro call round w0 w r U rho tm a s v s' hs hu hr h hf
 exact(XS he h hr hf).val (by simp only[execOp,ho];rfl)
theorem Ba_ {e:Nat}{x:Operand}(ho:o.op= .box e x):OpV E o (Be ds x kBox) ds:=
 Cj (m:=Instr.box e) (by simp[ho,Op.operands]) (fun a=>by simp only[execOp,ho];rfl) XD fun h hr hf hx=>YZ h hr hf hx
theorem As_ {t:Nat}{ps:Array (Nat×Operand)}(ho:o.op= .build t ps)(he:EnvTy E):OpV E o (DB ds ps.toList (Cq E t)) ds:=
 RY (m:=fun l=>Instr.build t l.toArray) (by simp[ho,Op.operands]) (fun a=>by simp only[execOp,ho];rw[←List.map_toArray];rfl) (XJ _ _) fun h hr hf hx=>JD_ he h hr (by simpa using hx)
theorem FZ_ {t n:Nat}{ps:Array (Nat×Operand)}(ho:o.op= .buildSlice t n ps)(he:EnvTy E):OpV E o (DB ds ps.toList (Dj E t n)) ds:=
 RY (m:=fun l=>Instr.buildSlice t n l.toArray) (by simp[ho,Op.operands]) (fun a=>by simp only[execOp,ho];rw[←List.map_toArray];rfl) (Kc_ _ _ _) fun h hr hf hx=>Eq_ he h hr hf (by simpa using hx)
theorem Xi {t:Nat}{x:Operand}(ho:o.op= .load t x)(he:EnvTy E):OpV E o (Be ds x (A3 E t)) ds:=
 Cj (m:=Instr.loadAt t) (by simp[ho,Op.operands]) (fun a=>by simp only[execOp,ho];rfl) (AX_ _ _) fun h hr hf hx=>Av_ he h hr hx
theorem Fj_ {t:Nat}{x y:Operand}(ho:o.op= .store t x y)(he:EnvTy E):OpV E o (BO ds x y (BU E t)) ds:=by
 obtain⟨g,h1,h2⟩:=Bo ds x
 obtain⟨g',h3,h4⟩:=Bo ds y
 refine⟨_,by unfold BO;rw[h1,h3],fun _ _ rho tm=>CQ (g:=g rho tm) (f:=fun a s=>Option.rec (motive:=fun _=>R Value) .none (fun b=>BU E t a b s) (g' rho tm)) fun a=>CQ (Bn_ _ _ a), ?_⟩
 intro call round w0 w r U rho tm a s v s' hs hu hr h hf
 obtain⟨y,e1,e2⟩:=CN (f:=fun a s=>Option.rec (motive:=fun _=>R Value) .none (fun b=>BU E t a b s) (g' rho tm)) h
 obtain⟨z,e3,e4⟩:=CN e2
 obtain⟨rfl,w',k1,k2,k3,k4,k5⟩:=Kd_ he e4 hr (h2 _ _ _ _ _ _ hs (fun t q=>hu t (by simp[ho,Op.operands]at q ⊢;simp[q])) e1) (h4 _ _ _ _ _ _ hs (fun t q=>hu t (by simp[ho,Op.operands]at q ⊢;simp[q])) e3)
 refine⟨undef,w',r, .inr ⟨?_,rfl⟩, .of_rel k3 k2, .tuple rfl (fun i v v' e=>by simp at e),k4,k5⟩
 simp[execOp,ho,k1]
theorem Xr {x:Operand}(ho:o.op= .nilCheck x):OpV E o (Be ds x kNil) ds:=by
 obtain⟨g,h1,h2⟩:=Bo ds x
 refine⟨_,by unfold Be;rw[h1],fun _ _ rho tm=>CQ (g:=g rho tm) IU_, ?_⟩
 intro call round w0 w r U rho tm a s v s' hs hu hr h hf
 obtain⟨y,e1,e2⟩:=CN h
 have hx:=h2 _ _ _ _ _ _ hs (fun t q=>hu t (by simp[ho,Op.operands]at q ⊢;simp[q])) e1
 obtain⟨rfl,rfl,e3⟩:=FA_ (P:=E.P) (w:=w) (a:=a) ho rfl e2 hx
 exact⟨_,w,r, .inl e3, .of_rel rfl hr,hx,rfl,rfl⟩
theorem GC_ {op:BinOp}{t yt:Nat}{x y:Operand}(ho:o.op= .binOp op t x y yt)(he:EnvTy E):OpV E o (Cl.rec (motive:=fun _=>Cl OpT) (fun f=>BO ds x y f) (aBin E op t x y)) ds:=by
 generalize hc:aBin E op t x y=c
 obtain⟨f⟩:=c
 refine FF (m:=fun y' z'=>do eqGuard op t x y y' z';binOp op t y' z') (by simp[ho,Op.operands]) (fun a=>by simp only[execOp,ho];rfl) (fun y' z'=> ?_) fun h hr hf hx hy=>YV hc he h hr hx hy
 have slow: ∀op,NoPan (Bi E op t x y y' z'):=fun op=>LV_ _ _ _ _ _ _ _
 have fast3: ∀(k:BY) op,NoPan (int3 k (Bi E op t x y) y' z'):=fun k op=>⟨fun s c s' e=>by
  unfold int3 BZ at e
  cases y'<;>simp only at e
  case int k1 a=>
   cases z'<;>simp only at e
   case int k2 b=>
    cases a with
    |negSucc m=>exact(slow op).no _ _ _ e
    |ofNat m=>
     cases b with
     |negSucc m=>exact(slow op).no _ _ _ e
     |ofNat n=>
      simp only at e
      cases e1:k k1 k2 m n with
      |none=>rw[e1]at e;exact(slow op).no _ _ _ e
      |some u=>rw[e1]at e;cases e
   all_goals exact(slow op).no _ _ _ e
  all_goals exact(slow op).no _ _ _ e⟩
 have fast2: ∀(k:Int→Int→St→R Value) (k3:BY) op,(∀a b,NoPan (k a b))→NoPan (int2 k (int3 k3 (Bi E op t x y)) y' z'):=fun k k3 op hk=>⟨fun s c s' e=>by
  have f3:=fast3 k3 op
  unfold int2 BZ at e
  cases y'<;>simp only at e
  case int k1 a=>
   cases z'<;>simp only at e
   case int k2 b=>
    cases e1:Dk k1 with
    |false=>rw[e1]at e;exact f3.no _ _ _ e
    |true=>
     cases e2:Dk k2 with
     |false=>rw[e1,e2]at e;exact f3.no _ _ _ e
     |true=>rw[e1,e2]at e;exact(hk a b).no _ _ _ e
   all_goals exact f3.no _ _ _ e
  all_goals exact f3.no _ _ _ e⟩
 have rI': ∀n,NoPan (rI n):=fun n=>⟨fun s c s' e=>by unfold rI at e;rw[B0]at e;cases e⟩
 have rB': ∀b,NoPan (rB b):=fun b=>⟨fun s c s' e=>by cases b<;>cases e⟩
 cases op<;>cases hc<;>first|exact slow _|exact fast3 _ _|exact fast2 _ _ _ fun a b=>rI' _|exact fast2 _ _ _ fun a b=>rB' _
theorem Lo_ {op:UnOp}{t:Nat}{x:Operand}(ho:o.op= .unOp op t x):OpV E o (Be ds x (kUn E.P op)) ds:=
 Cj (m:=Op.unary op) (by simp[ho,Op.operands]) (fun a=>by simp only[execOp,ho];rfl) (DN_ _ _) fun h hr hf hx=>Wu h hr hx
theorem CY_ {s d:Nat}{x:Operand}(ho:o.op= .convert s d x)(he:EnvTy E):OpV E o (Be ds x (D1 E s d)) ds:=
 Cj (m:=convert s d) (by simp[ho,Op.operands]) (fun a=>by simp only[execOp,ho];rfl) (WJ _ _ _) fun h hr hf hx=>WC he h hr hf hx
theorem Wx {t:Nat}{x:Operand}(ho:o.op= .sliceToArrayPointer t x)(he:EnvTy E):OpV E o (Be ds x (Ew E t)) ds:=
 Cj (m:=Instr.arrayAt t) (by simp[ho,Op.operands]) (fun a=>by simp only[execOp,ho];rfl) (KM_ _ _) fun h hr hf hx=>W0 he h hr hx
theorem Yk {t:Nat}{x:Operand}(ho:o.op= .makeInterface t x)(he:EnvTy E):OpV E o (Be ds x (Em E t)) ds:=
 Cj (m:=Instr.makeInterface t) (by simp[ho,Op.operands]) (fun a=>by simp only[execOp,ho];rfl) (FL_ _ _) fun h hr hf hx=>Mh_ he h hr hx
theorem Jl_ {t:Nat}{x y:Operand}(ho:o.op= .makeSlice t x y)(he:EnvTy E):OpV E o (BO ds x y (Do E t)) ds:=
 FF (m:=Instr.makeSlice t) (by simp[ho,Op.operands]) (fun a=>by simp only[execOp,ho];rfl) (Hu_ _ _) fun h hr hf hx hy=>Wo he h hr hf hx hy
theorem GO_ {t f:Nat}{x:Operand}(ho:o.op= .fieldAddr t x f)(he:EnvTy E):OpV E o (Be ds x fun a=>kFld E t a f) ds:=
 Cj (m:=fun x=>Instr.fieldAt t x f) (by simp[ho,Op.operands]) (fun a=>by simp only[execOp,ho];rfl) (fun y=>Et_ _ _ y _) fun h hr hf hx=>Wt he h hr hx
theorem Ko_ {t f:Nat}{x:Operand}(ho:o.op= .field t x f)(he:EnvTy E):OpV E o (Be ds x fun a=>EF E t a f) ds:=
 Cj (m:=fun x=>Instr.field t x f) (by simp[ho,Op.operands]) (fun a=>by simp only[execOp,ho];rfl) (fun y=>Eg_ _ _ y _) fun h hr hf hx=>Dd_ he h hr hx
theorem Cq_ {t:Nat}{x y:Operand}(ho:o.op= .indexAddr t x y)(he:EnvTy E):OpV E o (BO ds x y (BS E t)) ds:=
 FF (m:=Instr.indexAt t) (by simp[ho,Op.operands]) (fun a=>by simp only[execOp,ho];rfl) (El_ _ _) fun h hr hf hx hy=>JK_ he h hr hx hy
theorem XF {t:Nat}{x y:Operand}(ho:o.op= .index t x y)(he:EnvTy E):OpV E o (BO ds x y (kIdx E t)) ds:=
 FF (m:=Instr.index t) (by simp[ho,Op.operands]) (fun a=>by simp only[execOp,ho];rfl) (Xu _ _) fun h hr hf hx hy=>MB_ he h hr hx hy
theorem IJ_ {k:Nat}{x:Operand}(ho:o.op= .extract x k):OpV E o (Be ds x (kExt k)) ds:=
 Cj (m:=fun x=>Instr.extract x k) (by simp[ho,Op.operands]) (fun a=>by simp only[execOp,ho];rfl) (Dn_ _) fun h hr hf hx=>Gk_ h hr hx
theorem Dg_ {xt t:Nat}{c:Bool}{x:Operand}(ho:o.op= .typeAssert x xt t c)(he:EnvTy E):OpV E o (Be ds x (Ev E t c)) ds:=
 Cj (m:=fun x=>Instr.typeAssert x xt t c) (by simp[ho,Op.operands]) (fun a=>by simp only[execOp,ho];rfl) (Dy_ _ _ _) fun h hr hf hx=>Hj_ he h hr hx
end
section
variable {E:Env}{ds:List Nat}{o:Oper}
theorem Ar_ {x y z:Operand}(ho:o.op= .pick x y z):OpV E o (Cg ds x y z BC) ds:=by
 obtain⟨g,h1,h2⟩:=Bo ds x
 obtain⟨g',h3,h4⟩:=Bo ds y
 obtain⟨g2,h5,h6⟩:=Bo ds z
 refine⟨_,by unfold Cg;rw[h1,h3,h5],fun _ _ rho tm=>Aq _ fun a=>Aq _ fun b=>Aq _ fun c=>Za _ _ _, ?_⟩
 intro call round w0 w r U rho tm a s v s' hs hu hr h hf
 obtain⟨x',e1,h⟩:=Bu h
 obtain⟨y',e2,h⟩:=Bu h
 obtain⟨z',e3,h⟩:=Bu h
 obtain⟨rfl,t,k1,k2⟩:=Fp_ h (h2 _ _ _ _ _ _ hs (fun t q=>hu t (by simp[ho,Op.operands]at q ⊢;simp[q])) e1) (h4 _ _ _ _ _ _ hs (fun t q=>hu t (by simp[ho,Op.operands]at q ⊢;simp[q])) e2) (h6 _ _ _ _ _ _ hs (fun t q=>hu t (by simp[ho,Op.operands]at q ⊢;simp[q])) e3)
 refine⟨_,w,r, .inl ?_, .of_rel rfl hr,k2,rfl,rfl⟩
 simp only[execOp,ho,k1]
 cases t<;>simp[asBool]
theorem Xz {t:Nat}{x:Operand}{lo hi mx:Option Operand}(ho:o.op= .slice t x lo hi mx)(he:EnvTy E):OpV E o (G3 E ds t x lo hi mx) ds:=by
 cases mx with
 |some m=>
  exact⟨_,rfl,fun _ _ _ _=>Ap,fun call round w0 w r U rho tm a s v s' hs hu hr h hf=>by cases h⟩
 |none=>
  obtain⟨g,h1,h2⟩:=Bo ds x
  obtain⟨g',h3,h4⟩:=KM ds lo
  obtain⟨g2,h5,h6⟩:=KM ds hi
  refine⟨fun _ _ rho tm=>M.on (g rho tm) fun a=>M.on (g' rho tm) fun b=>M.on (g2 rho tm) fun c=>BK E t a b c,by unfold G3 Oo;simp only[h1,h3,h5],fun _ _ rho tm=>Aq _ fun a=>Aq _ fun b=>Aq _ fun c=>DY_ _ _ _ _ _, ?_⟩
  intro call round w0 w r U rho tm a s v s' hs hu hr h hf
  obtain⟨x',e1,h⟩:=Bu h
  obtain⟨y',e2,h⟩:=Bu h
  obtain⟨z',e3,h⟩:=Bu h
  exact(Zw he h hr (h2 _ _ _ _ _ _ hs (fun t q=>hu t (by simp[ho,Op.operands]at q ⊢;simp[q])) e1) (h4 _ _ _ _ _ _ hs (fun t q=>hu t (by simp[ho,Op.operands]at q ⊢;simp[q])) e2) (h6 _ _ _ _ _ _ hs (fun t q=>hu t (by simp[ho,Op.operands]at q ⊢;simp[q])) e3)).val (by simp only[execOp,ho];rfl)
theorem Dr_ {t:Nat}(ho:o.op= .makeMap t none):OpV E o (.mk fun _ _ _ _=>Cw) ds:=by
 refine⟨_,rfl,fun _ _ _ _=>Qp, ?_⟩
 intro call round w0 w r U rho tm a s v s' hs hu hr h hf
 exact(Uq h hr hf).val (by simp only[execOp,ho];rfl)
theorem Hm_ {t:Nat}{x:Operand}(ho:o.op= .makeMap t (some x))(he:EnvTy E):OpV E o (Be ds x (EE E t)) ds:=
 Cj (m:=fun x=>Instr.makeMap t (some x)) (by simp[ho,Op.operands]) (fun a=>by simp only[execOp,ho];rfl) (Dv_ _ _) fun h hr hf hx=>Y4 he h hr hf hx
theorem YX {t:Nat}{c:Bool}{x y:Operand}(ho:o.op= .lookup t x y c)(he:EnvTy E):OpV E o (BO ds x y (CH E t c)) ds:=
 FF (m:=fun x y=>Instr.lookup t x y c) (by simp[ho,Op.operands]) (fun a=>by simp only[execOp,ho];rfl) (Ex_ _ _ _) fun h hr hf hx hy=>KR_ he h hr hx hy
theorem Ch_ {t:Nat}{x y:Operand}(ho:o.op= .mapEntry t x y)(he:EnvTy E):OpV E o (BO ds x y (Gq E t)) ds:=
 FF (m:=Instr.mapEntry t) (by simp[ho,Op.operands]) (fun a=>by simp only[execOp,ho];rfl) (LP_ _ _) fun h hr hf hx hy=>MD_ he h hr hx hy
theorem LX {x y z:Operand}{k:Value→Value→Value→M Value}{m:Value→Value→Value→Sem Unit}(hx:o.op.operands.toList=[x,y,z])(ho: ∀a:Act,execOp a.eval o=(do m (a.eval x) (a.eval y) (a.eval z);pure .skip))(np: ∀x y z,NoPan (k x y z))
  (hk: ∀{w0 w:World} {r:Inj} {x x' y y' z z':Value} {s v s'},k x y z s= .some v s'→Rel w0 r s.mem w→VR r x x'→VR r y y'→VR r z z'→v=undef∧ ∃w',(m x' y' z').run E.P w= .ok () w'∧Goes w0 r s s' r w'∧s'.lim=s.lim∧s'.cx=s.cx):OpV E o (Cg ds x y z k) ds:=by
 obtain⟨g,h1,h2⟩:=Bo ds x
 obtain⟨g',h3,h4⟩:=Bo ds y
 obtain⟨g2,h5,h6⟩:=Bo ds z
 refine⟨_,by unfold Cg;rw[h1,h3,h5],fun _ _ rho tm=>Aq _ fun a=>Aq _ fun b=>Aq _ fun c=>np _ _ _, ?_⟩
 intro call round w0 w r U rho tm a s v s' hs hu hr h hf
 obtain⟨x',e1,h⟩:=Bu h
 obtain⟨y',e2,h⟩:=Bu h
 obtain⟨z',e3,h⟩:=Bu h
 obtain⟨rfl,w',k1,k2,k3,k4⟩:=hk h hr (h2 _ _ _ _ _ _ hs (fun t q=>hu t (by rw[hx];simp at q ⊢;simp[q])) e1) (h4 _ _ _ _ _ _ hs (fun t q=>hu t (by rw[hx];simp at q ⊢;simp[q])) e2) (h6 _ _ _ _ _ _ hs (fun t q=>hu t (by rw[hx];simp at q ⊢;simp[q])) e3)
 refine⟨undef,w',r, .inr ⟨?_,rfl⟩,k2, .undef,k3,k4⟩
 rw[ho]
 simp[k1]
theorem CJ_ {t:Nat}{x y z:Operand}(ho:o.op= .mapUpdate t x y z)(he:EnvTy E):OpV E o (Cg ds x y z (Dg E t)) ds:=
 LX (m:=Instr.mapUpdate t) (by simp[ho,Op.operands]) (fun a=>by simp only[execOp,ho]) (V1 _ _) fun h hr hx hy hz=>RR he h hr hx hy hz
theorem JM_ {t:Nat}{x y z:Operand}(ho:o.op= .insert t x y z)(he:EnvTy E):OpV E o (Cg ds x y z (Dg E t)) ds:=
 LX (m:=Instr.mapUpdate t) (by simp[ho,Op.operands]) (fun a=>by simp only[execOp,ho]) (V1 _ _) fun h hr hx hy hz=>RR he h hr hx hy hz
theorem Dz_ {t:Nat}{x y z:Operand}(ho:o.op= .entryStore t x y z):OpV E o (Cg ds x y z D2) ds:=
 LX (m:=Instr.entryStore t) (by simp[ho,Op.operands]) (fun a=>by simp only[execOp,ho]) Z1 fun h hr hx hy hz=>XW h hr hx hy hz
theorem LL_ {t:Nat}{x:Operand}(ho:o.op= .range t x)(he:EnvTy E):OpV E o (Be ds x (CV E t)) ds:=
 Cj (m:=Instr.range t) (by simp[ho,Op.operands]) (fun a=>by simp only[execOp,ho];rfl) (Ll_ _ _) fun h hr hf hx=>DC_ he h hr hf hx
theorem ZP {x:Operand}(ho:o.op= .next x true):OpV E o (Be ds x De) ds:=
 Cj (m:=fun x=>Instr.next x true o.type) (by simp[ho,Op.operands]) (fun a=>by simp only[execOp,ho];rfl) Cg_ fun h hr hf hx=>W3 h hr hx
theorem TN {α β:Type}(f:α→β)(a:Array α):a.map f=(a.toList.map f).toArray:=by rw[←List.map_toArray]
theorem VRs.func {r:Inj}{f:Nat}{a a' c c':List Value}(h:VRs r a a')(k:VRs r c c'):VR r (.func (.func f) a.toArray c.toArray) (.func (.func f) a'.toArray c'.toArray):=
 .func rfl (by simpa using h.1) (fun i v v' e e'=>h.2 i v v' (by simpa using e) (by simpa using e')) (by simpa using k.1) (fun i v v' e e'=>k.2 i v v' (by simpa using e) (by simpa using e'))
theorem BR_ {f:Nat}{first cap:Array Operand}(ho:o.op= .makeFunc (.func f) first cap):OpV E o (Gd ds first.toList cap.toList fun x c=>M.pure (.func (.func f) x.toArray c.toArray)) ds:=by
 obtain⟨g,h1,h2⟩:=CZ ds first.toList
 obtain⟨g',h3,h4⟩:=CZ ds cap.toList
 refine⟨_,by unfold Gd;rw[h1,h3],fun _ _ rho tm=>CQ (g:=g rho tm) (f:=fun(a:List Value) s=>Option.rec (motive:=fun _=>R Value) .none (fun(b:List Value)=>M.pure (Value.func (.func f) a.toArray b.toArray) s) (g' rho tm)) fun a=>CQ (f:=fun(b:List Value)=>M.pure (Value.func (.func f) a.toArray b.toArray)) fun b=>An _, ?_⟩
 intro call round w0 w r U rho tm a s v s' hs hu hr h hf
 obtain⟨x',e1,h⟩:=CN (f:=fun(a:List Value) s=>Option.rec (motive:=fun _=>R Value) .none (fun(b:List Value)=>M.pure (Value.func (.func f) a.toArray b.toArray) s) (g' rho tm)) h
 obtain⟨y',e2,h⟩:=CN (f:=fun(b:List Value)=>M.pure (Value.func (.func f) x'.toArray b.toArray)) h
 obtain⟨rfl,rfl⟩:=Al h
 refine⟨_,w,r, .inl ?_, .of_rel rfl hr,(h2 _ _ _ _ _ _ hs (fun t q=>hu t (by simp[ho,Op.operands]at q ⊢;simp[q])) e1).func (h4 _ _ _ _ _ _ hs (fun t q=>hu t (by simp[ho,Op.operands]at q ⊢;simp[q])) e2),rfl,rfl⟩
 simp[execOp,ho,Instr.makeFunc]
 exact⟨TN _ _,TN _ _⟩
theorem AP_ {b:Builtin}{c:Call}(ho:o.op= .call c)(hb:c.callee= .builtin b)(hn:b≠ .recover)(he:EnvTy E):OpV E o (FJ ds c.args.toList (A6 E b c.argTypes.toList)) ds:=by
 obtain⟨g,h1,h2⟩:=CZ ds c.args.toList
 refine⟨_,by unfold FJ;rw[h1],fun _ _ rho tm=>CQ (g:=g rho tm) (GI_ _ _ _), ?_⟩
 intro call round w0 w r U rho tm a s v s' hs hu hr h hf
 obtain⟨l,e1,h⟩:=CN h
 have hl:VRs r l (c.args.toList.map a.eval):=h2 _ _ _ _ _ _ hs (fun t q=>hu t (by simp[ho,Op.operands,Call.operands]at q ⊢;simp[q])) e1
 have key: ∀{m:Sem Value},Yields E w0 r s s' v w m→(∀(cs:Array Bool) w,(builtin b c.argTypes o.type cs (c.args.map a.eval)).run E.P w=(B4 m).run E.P w)→
   ∃v' w' r',((execOp a.eval o).run E.P w= .ok (.value v') w'∨((execOp a.eval o).run E.P w= .ok .skip w'∧v'=undef))∧Goes w0 r s s' r' w'∧VR r' v v'∧s'.lim=s.lim∧s'.cx=s.cx:=by
  intro m hy hm
  obtain⟨v',w',r',k1,k2,k3,k4,k5⟩:=hy
  refine⟨v',w',r', .inl ?_,k2,k3,k4,k5⟩
  simp only[execOp,ho,resolve,hb,invoke,Sem.run_bind,Sem.run_pure,Result.andThen_ok,hm,B4,k1]
 generalize hts:c.argTypes.toList=ts at h
 have hmap:c.args.map a.eval=(c.args.toList.map a.eval).toArray:=by rw[←List.map_toArray]
 have ht0: ∀{t:Nat} {l:List Nat},c.argTypes.toList=t::l→c.argTypes[0]?=some t:=by
  intro t l e;rw[←Array.getElem?_toList,e];rfl
 have ht1: ∀{t t2:Nat} {l:List Nat},c.argTypes.toList=t::t2::l→c.argTypes[1]?=some t2:=by
  intro t t2 l e;rw[←Array.getElem?_toList,e];rfl
 unfold A6 at h
 split at h
 ·rename_i t ts' x
  obtain⟨x',l',q1,q2,q3⟩:=hl.inv
  have:=q3.inv_nil
  subst this
  refine key (WS (ty:=o.type) (ht0 hts) he h hr q2) fun cs w=> ?_
  rw[hmap,q1];simp[builtin,B4]
 ·rename_i t ts' x
  obtain⟨x',l',q1,q2,q3⟩:=hl.inv
  have:=q3.inv_nil
  subst this
  refine key (Xa (ty:=o.type) (ht0 hts) he h hr q2) fun cs w=> ?_
  rw[hmap,q1];simp[builtin,B4]
 ·obtain⟨y',l1,q1,q2,q3⟩:=hl.inv
  obtain⟨x',l',q4,q5,q6⟩:=q3.inv
  have:=q6.inv_nil
  subst this
  subst q4
  refine key (CL_ (ty:=o.type) (ht0 hts) (ht1 hts) he h hr hf q2 q5) fun cs w=> ?_
  rw[hmap,q1];simp[builtin,B4]
 ·obtain⟨y',l1,q1,q2,q3⟩:=hl.inv
  obtain⟨x',l',q4,q5,q6⟩:=q3.inv
  have:=q6.inv_nil
  subst this
  subst q4
  refine key (Hi_ (ty:=o.type) (ht0 hts) he h hr q2 q5) fun cs w=> ?_
  rw[hmap,q1];simp[builtin,B4]
 ·obtain⟨y',l1,q1,q2,q3⟩:=hl.inv
  obtain⟨x',l',q4,q5,q6⟩:=q3.inv
  have:=q6.inv_nil
  subst this
  subst q4
  refine key (Dm_ (ty:=o.type) (ht0 hts) he h hr q2 q5) fun cs w=> ?_
  rw[hmap,q1];simp[builtin,B4]
 ·obtain⟨x',l',q1,q2,q3⟩:=hl.inv
  have:=q3.inv_nil
  subst this
  refine key (GD_ (ty:=o.type) (ht0 hts) he h hr q2) fun cs w=> ?_
  rw[hmap,q1];simp[builtin,B4]
 ·refine key (CN_ (ts:=c.argTypes) (ty:=o.type) h hr hl) fun cs w=> ?_
  rw[hmap];simp[builtin,B4]
 ·refine key (Xx (ts:=c.argTypes) (ty:=o.type) h hr hl) fun cs w=> ?_
  rw[hmap];simp[builtin,B4]
 ·cases h
end
abbrev Out (α:Type):Type:=Sum α (List PanicEntry)
def rOf {α:Type}(o:Out α)(s:St):R α:=
 match o with
 | .inl a=> .some a s
 | .inr c=> .pan c s
def Bnd (s:St):Prop:=s.lim≤s.next
structure LocG {α:Type}(m:M α)(s:St)(o:Out α)(s':St)(Rd Wr:Nat→Prop)(dr dw:List Nat):Prop where
 rd:s'.rd=dr++s.rd
 wr:s'.wr=dw++s.wr
 nxt:s.next≤s'.next
 lim:s'.lim=s.lim
 bnd:Bnd s'
 rlt: ∀l,Rd l→l<s'.next
 wlt: ∀l,Wr l→l<s'.next
 old: ∀l,¬Wr l→T.get s'.mem l=T.get s.mem l
 any: ∀t:St,t.next=s.next→t.lim=s.lim→t.cx=s.cx→(∀l,Rd l∨Wr l→T.get t.mem l=T.get s.mem l)→
  ∃t',m t=rOf o t'∧t'.next=s'.next∧t'.lim=s'.lim∧t'.cx=s'.cx∧t'.rd=dr++t.rd∧t'.wr=dw++t.wr∧
   (∀l,Wr l→T.get t'.mem l=T.get s'.mem l)∧(∀l,¬Wr l→T.get t'.mem l=T.get t.mem l)
def Cf {α:Type}(m:M α)(s:St)(o:Out α)(s':St):Prop:=
 ∃Rd Wr dr dw,LocG m s o s' Rd Wr dr dw∧(∀l,Rd l→l<s.lim→l∈dr)∧(∀l,Wr l→l<s.lim→l∈dw)
structure Loc {α:Type}(m:M α):Prop where
 at': ∀s o s',m s=rOf o s'→Bnd s→Cf m s o s'
theorem LocG.seq {α β:Type}{m:M α}{n C:M β}{s s1 s':St}{o1:Out α}{o:Out β}{R1 W1 R2 W2:Nat→Prop}{r1 w1 r2 w2:List Nat}
  (h:LocG m s o1 s1 R1 W1 r1 w1) (k:LocG n s1 o s' R2 W2 r2 w2) (hC: ∀t t1,m t=rOf o1 t1→C t=n t1):LocG C s o s' (fun l=>R1 l∨R2 l) (fun l=>W1 l∨W2 l) (r2++r1) (w2++w1) where
 rd:=by rw[k.rd,h.rd,List.append_assoc]
 wr:=by rw[k.wr,h.wr,List.append_assoc]
 nxt:=Nat.le_trans h.nxt k.nxt
 lim:=k.lim.trans h.lim
 bnd:=k.bnd
 rlt:=fun l e=>e.elim (fun e=>Nat.lt_of_lt_of_le (h.rlt l e) k.nxt) (k.rlt l)
 wlt:=fun l e=>e.elim (fun e=>Nat.lt_of_lt_of_le (h.wlt l e) k.nxt) (k.wlt l)
 old:=fun l e=>(k.old l fun x=>e (.inr x)).trans (h.old l fun x=>e (.inl x))
 any:=fun t e1 e2 e3 e4=>by
  obtain⟨t1,q1,q2,q3,q4,q5,q6,q7,q8⟩:=h.any t e1 e2 e3 fun l e=>e4 l (e.elim (fun e=> .inl (.inl e)) (fun e=> .inr (.inl e)))
  obtain⟨t2,p1,p2,p3,p4,p5,p6,p7,p8⟩:=k.any t1 q2 q3 q4 (fun l e=>by
   by_cases hw:W1 l
   ·exact q7 l hw
   ·rw[q8 l hw,h.old l hw]
    exact e4 l (e.elim (fun e=> .inl (.inr e)) (fun e=> .inr (.inr e))))
  refine⟨t2,(hC t t1 q1).trans p1,p2,p3,p4,by rw[p5,q5,List.append_assoc],by rw[p6,q6,List.append_assoc],fun l e=> ?_,fun l e=>(p8 l fun x=>e (.inr x)).trans (q8 l fun x=>e (.inl x))⟩
  by_cases hw:W2 l
  ·exact p7 l hw
  ·rw[p8 l hw,k.old l hw]
   exact e.elim (q7 l) (fun x=>absurd x hw)
theorem Cf.bnd {α:Type}{m:M α}{s s':St}{o:Out α}(h:Cf m s o s'):Bnd s':=let ⟨_,_,_,_,e,_⟩:=h;e.bnd
theorem Cf.lim {α:Type}{m:M α}{s s':St}{o:Out α}(h:Cf m s o s'):s'.lim=s.lim:=let ⟨_,_,_,_,e,_⟩:=h;e.lim
theorem Cf.next {α:Type}{m:M α}{s s':St}{o:Out α}(h:Cf m s o s'):s.next≤s'.next:=let ⟨_,_,_,_,e,_⟩:=h;e.nxt
theorem Cf.seq {α β:Type}{m:M α}{n C:M β}{s s1 s':St}{o1:Out α}{o:Out β}(h:Cf m s o1 s1)(k:Cf n s1 o s')(hC: ∀t t1,m t=rOf o1 t1→C t=n t1):Cf C s o s':=by
 obtain⟨R1,W1,r1,w1,h1,h2,h3⟩:=h
 obtain⟨R2,W2,r2,w2,k1,k2,k3⟩:=k
 refine⟨_,_,_,_,h1.seq k1 hC,fun l e x=> ?_,fun l e x=> ?_⟩
 ·exact e.elim (fun e=>List.mem_append_right _ (h2 l e x)) (fun e=>List.mem_append_left _ (k2 l e (by rw[h1.lim];exact x)))
 ·exact e.elim (fun e=>List.mem_append_right _ (h3 l e x)) (fun e=>List.mem_append_left _ (k3 l e (by rw[h1.lim];exact x)))
theorem Bd {α:Type}{o:Out α}{a:α}{s s':St}(h:R.some a s=rOf o s'):o= .inl a∧s'=s:=by cases o<;>cases h;exact⟨rfl,rfl⟩
theorem Ge {α:Type}{o:Out α}{c:List PanicEntry}{s s':St}(h:R.pan c s=rOf o s'):o= .inr c∧s'=s:=by cases o<;>cases h;exact⟨rfl,rfl⟩
theorem AU {α:Type}{o:Out α}{s':St}(h:R.none=rOf o s'):False:=by cases o<;>cases h
theorem Cf.quiet {α:Type}{m:M α}{s:St}{o:Out α}(hb:Bnd s)(h: ∀t:St,t.cx=s.cx→m t=rOf o t):Cf m s o s:=
 ⟨fun _=>False,fun _=>False,[],[],⟨rfl,rfl,Nat.le_refl _,rfl,hb,fun _ e=>e.elim,fun _ e=>e.elim,fun _ _=>rfl,
  fun t e1 e2 e3 _=>⟨t,h t e3,e1,e2,e3,rfl,rfl,fun _ e=>e.elim,fun _ _=>rfl⟩⟩,fun _ e=>e.elim,fun _ e=>e.elim⟩
theorem Ah {α:Type}(a:α):Loc (M.pure a):=⟨fun s o s' h hb=>by
 obtain⟨rfl,rfl⟩:=Bd h
 exact .quiet hb fun t _=>rfl⟩
theorem Af {α:Type}:Loc (M.fail:M α):=⟨fun s o s' h hb=>(AU h).elim⟩
theorem Az {α:Type}(x:Option α):Loc (M.ofOpt x):=by
 cases x with
 |none=>exact Af
 |some a=>exact Ah a
theorem Hp {α β:Type}{m:M α}{f:α→M β}{g:List PanicEntry→M β}(h:Loc m)(kf: ∀a,Loc (f a))(kg: ∀c,Loc (g c)):
  Loc (fun s=>R.rec (motive:=fun _=>R β) .none (fun a s=>f a s) (fun c s=>g c s) (m s)):=⟨fun s o s' e hb=>by
 cases e1:m s with
 |none=>rw[e1]at e;exact(AU e).elim
 |some a s1=>
  rw[e1]at e
  have h1:=h.at' s (.inl a) s1 e1 hb
  exact h1.seq ((kf a).at' s1 o s' e h1.bnd) fun t t1 q=>by rw[q];rfl
 |pan c s1=>
  rw[e1]at e
  have h1:=h.at' s (.inr c) s1 e1 hb
  exact h1.seq ((kg c).at' s1 o s' e h1.bnd) fun t t1 q=>by rw[q];rfl⟩
theorem K9 {α:Type}(c:List PanicEntry):Loc (fun s=>R.pan c s:M α):=⟨fun s o s' h hb=>by
 obtain⟨rfl,rfl⟩:=Ge h
 exact .quiet hb fun t _=>rfl⟩
theorem QN {α:Type}:Loc (fun _=>R.none:M α):=⟨fun s o s' h hb=>(AU h).elim⟩
theorem Ae {α β:Type}{m:M α}{f:α→M β}(h:Loc m)(k: ∀a,Loc (f a)):Loc (M.bind m f):=Hp h k fun c=>K9 c
theorem EC {α:Type}{m:M α}(h:Loc m):Loc (noP m):=Hp h (fun a=>Ah a) fun _=>QN
theorem Ar {α:Type}(b:Bool){m:M α}(h:Loc m):Loc (M.chk b m):=by
 cases b with
 |false=>exact Af
 |true=>exact h
theorem AC {α:Type}(b:Bool){m n:M α}(h:Loc m)(k:Loc n):Loc (M.if b m n):=by cases b<;>assumption
theorem Ao {α β:Type}(x:Option α){f:α→M β}(k: ∀a,Loc (f a)):Loc (M.on x f):=by
 cases x with
 |none=>exact Af
 |some a=>exact k a
theorem Ay {α:Type}(n:Nat){f:Nat→M α}(k: ∀a,Loc (f a)):Loc (fN n f):=by rw[A1];exact k _
theorem Ax {α:Type}(n:Int){f:Int→M α}(k: ∀a,Loc (f a)):Loc (fI n f):=by rw[B0];exact k _
theorem AA {α:Type}(n:Addr){f:Addr→M α}(k: ∀a,Loc (f a)):Loc (fA n f):=by rw[Cc];exact k _
theorem AD {α:Type}(v:Value){f:IntKind→Int→M α}{d:M α}(h: ∀k n,Loc (f k n))(k:Loc d):Loc (BZ v f d):=by
 cases v<;>first|exact h _ _|exact k
theorem AE {α:Type}(b:Bool){m n:M α}(h:Loc m)(k:Loc n):Loc (Bool.rec (motive:=fun _=>M α) m n b):=by cases b<;>assumption
theorem Aw {α β:Type}(x:Option α){m:M β}{f:α→M β}(h:Loc m)(k: ∀a,Loc (f a)):Loc (Option.rec (motive:=fun _=>M β) m (fun a=>f a) x):=by
 cases x with
 |none=>exact h
 |some a=>exact k a
theorem H3 (loc lim:Nat)(l:List Nat):notes loc lim l=if loc<lim then loc::l else l:=by
 unfold notes
 cases h:Nat.blt loc lim with
 |true=>rw[if_pos (Bt h)]
 |false=>rw[if_neg];intro h2;rw[show Nat.blt loc lim=true from Nat.ble_eq_true_of_le h2]at h;cases h
theorem DX (loc lim:Nat)(l:List Nat):notes loc lim l=notes loc lim []++l:=by
 rw[H3,H3]
 split<;>rfl
theorem Mf {loc lim:Nat}(h:loc<lim):loc∈notes loc lim []:=by rw[H3,if_pos h];exact List.mem_cons_self
theorem Sb (loc:Nat)(s:St):rdC loc s=if loc<s.next then match T.get s.mem loc with|none=> .none|some c=> .some c ⟨s.mem,s.next,s.lim,notes loc s.lim s.rd,s.wr,s.cx⟩else .none:=by
 obtain⟨mem,next,lim,rd,wr,cx⟩:=s
 unfold rdC
 simp only
 cases hb:Nat.blt loc next with
 |false=>rw[if_neg];intro h2;rw[show Nat.blt loc next=true from Nat.ble_eq_true_of_le h2]at hb;cases hb
 |true=>
  rw[if_pos (Bt hb)]
  cases T.get mem loc<;>rfl
theorem QK (loc:Nat)(c:Cell)(s:St):wrC loc c s=if loc<s.next then .some () ⟨T.set s.mem loc c,s.next,s.lim,s.rd,notes loc s.lim s.wr,s.cx⟩else .none:=by
 obtain⟨mem,next,lim,rd,wr,cx⟩:=s
 unfold wrC
 obtain⟨v,l,r,e⟩:=T.set_N mem loc c
 simp only[e]
 cases hb:Nat.blt loc next with
 |false=>rw[if_neg];intro h2;rw[show Nat.blt loc next=true from Nat.ble_eq_true_of_le h2]at hb;cases hb
 |true=>rw[if_pos (Bt hb)]
theorem Uf (loc:Nat)(s:St):delC loc s=if loc<s.next then .some () ⟨T.del s.mem loc,s.next,s.lim,s.rd,notes loc s.lim s.wr,s.cx⟩else .none:=by
 obtain⟨mem,next,lim,rd,wr,cx⟩:=s
 unfold delC
 simp only
 cases hb:Nat.blt loc next with
 |false=>rw[if_neg];intro h2;rw[show Nat.blt loc next=true from Nat.ble_eq_true_of_le h2]at hb;cases hb
 |true=>rw[if_pos (Bt hb)]
theorem OV (vs:List Value)(s:St):newL vs s= .some s.next ⟨layL s.next vs s.next s.mem,s.next+vs.length+1,s.lim,s.rd,s.wr,s.cx⟩:=by
 obtain⟨mem,next,lim,rd,wr,cx⟩:=s
 have h0:newL vs ⟨mem,next,lim,rd,wr,cx⟩=fN next fun b=>fN (Nat.succ (Nat.add b vs.length)) fun n=>R.some b (St.mk (layL b vs b mem) n lim rd wr cx):=rfl
 rw[h0,A1,A1]
 rfl
theorem Pq (o:AObj)(s:St):newO o s= .some s.next ⟨T.set s.mem s.next (.O o),s.next+1,s.lim,s.rd,s.wr,s.cx⟩:=by
 obtain⟨mem,next,lim,rd,wr,cx⟩:=s
 have h0:newO o ⟨mem,next,lim,rd,wr,cx⟩=fN next fun b=>fN (Nat.succ b) fun n=>R.some b (St.mk (T.set mem b (.O o)) n lim rd wr cx):=rfl
 rw[h0,A1,A1]
theorem Cm (loc:Nat):Loc (rdC loc):=⟨fun s o s' h hb=>by
 rw[Sb]at h
 split at h
 case isFalse=>exact(AU h).elim
 case isTrue hl=>
  cases e:T.get s.mem loc with
  |none=>rw[e]at h;exact(AU h).elim
  |some c=>
   rw[e]at h
   obtain⟨rfl,rfl⟩:=Bd h
   refine⟨fun l=>l=loc,fun _=>False,notes loc s.lim [],[],⟨DX _ _ _,rfl,Nat.le_refl _,rfl,hb,fun l e1=>by rw[e1];exact hl,fun _ e=>e.elim,fun _ _=>rfl,fun t e1 e2 e3 e4=> ?_⟩,fun l e1 e2=> ?_,fun _ e=>e.elim⟩
   ·refine⟨⟨t.mem,t.next,t.lim,notes loc t.lim t.rd,t.wr,t.cx⟩, ?_,e1,e2,e3, ?_,rfl,fun _ e=>e.elim,fun _ _=>rfl⟩
    ·rw[Sb,if_pos (by rw[e1];exact hl),e4 loc (.inl rfl),e];rfl
    ·rw[←e2];exact DX _ _ _
   ·rw[e1];exact Mf (by rw[←e1];exact e2)⟩
theorem B1 (loc:Nat)(c:Cell):Loc (wrC loc c):=⟨fun s o s' h hb=>by
 rw[QK]at h
 split at h
 case isFalse=>exact(AU h).elim
 case isTrue hl=>
  obtain⟨rfl,rfl⟩:=Bd h
  refine⟨fun _=>False,fun l=>l=loc,[],notes loc s.lim [],⟨rfl,DX _ _ _,Nat.le_refl _,rfl,hb,fun _ e=>e.elim,fun l e1=>by rw[e1];exact hl,fun l e=> ?_,fun t e1 e2 e3 e4=> ?_⟩,fun _ e=>e.elim,fun l e1 e2=> ?_⟩
  ·simp only[T.get_set,if_neg e]
  ·refine⟨⟨T.set t.mem loc c,t.next,t.lim,t.rd,notes loc t.lim t.wr,t.cx⟩, ?_,e1,e2,e3,rfl, ?_,fun l e=> ?_,fun l e=> ?_⟩
   ·rw[QK,if_pos (by rw[e1];exact hl)];rfl
   ·rw[←e2];exact DX _ _ _
   ·simp only[T.get_set,if_pos e]
   ·simp only[T.get_set,if_neg e]
  ·rw[e1];exact Mf (by rw[←e1];exact e2)⟩
theorem Lw_ (loc:Nat):Loc (delC loc):=⟨fun s o s' h hb=>by
 rw[Uf]at h
 split at h
 case isFalse=>exact(AU h).elim
 case isTrue hl=>
  obtain⟨rfl,rfl⟩:=Bd h
  refine⟨fun _=>False,fun l=>l=loc,[],notes loc s.lim [],⟨rfl,DX _ _ _,Nat.le_refl _,rfl,hb,fun _ e=>e.elim,fun l e1=>by rw[e1];exact hl,fun l e=> ?_,fun t e1 e2 e3 e4=> ?_⟩,fun _ e=>e.elim,fun l e1 e2=> ?_⟩
  ·simp only[T.get_del,if_neg e]
  ·refine⟨⟨T.del t.mem loc,t.next,t.lim,t.rd,notes loc t.lim t.wr,t.cx⟩, ?_,e1,e2,e3,rfl, ?_,fun l e=> ?_,fun l e=> ?_⟩
   ·rw[Uf,if_pos (by rw[e1];exact hl)];rfl
   ·rw[←e2];exact DX _ _ _
   ·simp only[T.get_del,if_pos e]
   ·simp only[T.get_del,if_neg e]
  ·rw[e1];exact Mf (by rw[←e1];exact e2)⟩
theorem Kd (b:Nat): ∀(vs:List Value) (loc:Nat) (t:T Cell) (k:Nat),T.get (layL b vs loc t) k=if loc≤k∧k<loc+vs.length then(vs[k-loc]?).map (.C b)else T.get t k
 |[],loc,t,k=>by rw[if_neg (fun e=>by have:=e.2;simp at this;omega)];rfl
 |v::vs,loc,t,k=>by
  have h0:layL b (v::vs) loc t=fN loc fun loc=>layL b vs (Nat.succ loc) (T.set t loc (.C b v)):=rfl
  rw[h0,A1,Kd b vs]
  by_cases h1:loc=k
  ·subst h1
   rw[if_neg (by omega),if_pos (by simp),T.get_set,if_pos rfl]
   simp
  ·by_cases h2:loc≤k∧k<loc+(v::vs).length
   ·have h3:k-loc=(k-Nat.succ loc)+1:=by omega
    rw[if_pos h2,if_pos (by simp at h2 ⊢;omega),h3,List.getElem?_cons_succ]
   ·rw[if_neg h2,if_neg (by simp at h2 ⊢;omega),T.get_set,if_neg (fun e=>h1 e.symm)]
theorem EJ (vs:List Value):Loc (newL vs):=⟨fun s o s' h hb=>by
 rw[OV]at h
 obtain⟨rfl,rfl⟩:=Bd h
 refine⟨fun _=>False,fun l=>s.next≤l∧l<s.next+vs.length,[],[],⟨rfl,rfl,by show s.next≤s.next+vs.length+1;omega,rfl, ?_,fun _ e=>e.elim,fun l e=> ?_,fun l e=> ?_,fun t e1 e2 e3 e4=> ?_⟩,fun _ e=>e.elim,fun l e1 e2=> ?_⟩
 ·show s.lim≤s.next+vs.length+1
  unfold Bnd at hb;omega
 ·show l<s.next+vs.length+1
  omega
 ·simp only[Kd,if_neg e]
 ·refine⟨⟨layL t.next vs t.next t.mem,t.next+vs.length+1,t.lim,t.rd,t.wr,t.cx⟩, ?_,by rw[e1],e2,e3,rfl,rfl,fun l e=> ?_,fun l e=> ?_⟩
  ·rw[OV,e1];rfl
  ·simp only[Kd,e1,if_pos e]
  ·simp only[Kd,e1,if_neg e]
 ·unfold Bnd at hb;omega⟩
theorem Fa (x:AObj):Loc (newO x):=⟨fun s o s' h hb=>by
 rw[Pq]at h
 obtain⟨rfl,rfl⟩:=Bd h
 refine⟨fun _=>False,fun l=>l=s.next,[],[],⟨rfl,rfl,by show s.next≤s.next+1;omega,rfl, ?_,fun _ e=>e.elim,fun l e=> ?_,fun l e=> ?_,fun t e1 e2 e3 e4=> ?_⟩,fun _ e=>e.elim,fun l e1 e2=> ?_⟩
 ·show s.lim≤s.next+1
  unfold Bnd at hb;omega
 ·show l<s.next+1
  omega
 ·simp only[T.get_set,if_neg e]
 ·refine⟨⟨T.set t.mem t.next (.O x),t.next+1,t.lim,t.rd,t.wr,t.cx⟩, ?_,by rw[e1],e2,e3,rfl,rfl,fun l e=> ?_,fun l e=> ?_⟩
  ·rw[Pq,e1];rfl
  ·simp only[T.get_set,e1,if_pos e]
  ·simp only[T.get_set,e1,if_neg e]
 ·unfold Bnd at hb;omega⟩
theorem GK:Loc getCx:=⟨fun s o s' h hb=>by
 obtain⟨rfl,rfl⟩:=Bd (show R.some s.cx s=rOf o s' from h)
 exact .quiet hb fun t e=>by rw[←e];rfl⟩
theorem JE (x:Ctx):Loc (putCx x):=⟨fun s o s' h hb=>by
 obtain⟨rfl,rfl⟩:=Bd (show R.some () (St.mk s.mem s.next s.lim s.rd s.wr x)=rOf o s' from h)
 exact⟨fun _=>False,fun _=>False,[],[],⟨rfl,rfl,Nat.le_refl _,rfl,hb,fun _ e=>e.elim,fun _ e=>e.elim,fun _ _=>rfl,
  fun t e1 e2 e3 _=>⟨St.mk t.mem t.next t.lim t.rd t.wr x,rfl,e1,e2,rfl,rfl,rfl,fun _ e=>e.elim,fun _ _=>rfl⟩⟩,fun _ e=>e.elim,fun _ e=>e.elim⟩⟩
theorem Dv (a:Addr):Loc (rdV a):=by
 obtain⟨b,o,s⟩:=a
 cases s with
 |some x=>exact Af
 |none=>exact Ae (Cm _) fun c=>Az _
theorem TM (a:Addr)(v:Value):Loc (wrV a v):=by
 obtain⟨b,o,s⟩:=a
 cases s with
 |some x=>exact Af
 |none=>exact Ae (Cm _) fun c=>Ar _ (B1 _ _)
theorem EO: ∀(n:Nat) (a:Addr),Loc (rdL n a)
 |0,_=>Ah _
 |n+1,a=>by
  have h0:rdL (n+1) a=fA a fun a=>M.bind (rdV a) fun v=>M.bind (rdL n ⟨a.block,Nat.succ a.off,a.spot⟩) fun l=>M.pure (v::l):=rfl
  rw[h0]
  exact AA _ fun a=>Ae (Dv a) fun v=>Ae (EO n _) fun l=>Ah _
theorem G0: ∀(vs:List Value) (a:Addr),Loc (wrL vs a)
 |[],_=>Ah _
 |v::vs,a=>by
  have h0:wrL (v::vs) a=fA a fun a=>M.bind (wrV a v) fun _=>wrL vs ⟨a.block,Nat.succ a.off,a.spot⟩:=rfl
  rw[h0]
  exact AA _ fun a=>Ae (TM a v) fun v=>G0 vs _
theorem Uo: ∀(n l:Nat),Loc (Ch n l)
 |0,_=>Ah _
 |n+1,l=>by
  have h0:Ch (n+1) l=M.bind (delC l) fun _=>Ch n (l+1):=rfl
  rw[h0]
  exact Ae (Lw_ l) fun _=>Uo n _
theorem Bj (x0:_)(x1:_):Loc (ti x0 x1):=by
 unfold ti
 repeat' (first|exact Ah _|exact Af|exact Az _|apply Ae|apply Ar|apply AC|apply Ao|apply Ay|apply Ax|apply AA|apply AD|apply AE|apply Aw|intro _|split)
theorem GD (x0:_):Loc (pV x0):=by
 unfold pV
 repeat' (first|exact Ah _|exact Af|exact Az _|apply Ae|apply Ar|apply AC|apply Ao|apply Ay|apply Ax|apply AA|apply AD|apply AE|apply Aw|intro _|split)
theorem Cl_ (x0:_)(x1:_)(x2:_)(x3:_)(x4:_):Loc (Ez x0 x1 x2 x3 x4):=by
 unfold Ez
 repeat' (first|exact Ah _|exact Af|exact Az _|exact Bj _ _|apply Ae|apply Ar|apply AC|apply Ao|apply Ay|apply Ax|apply AA|apply AD|apply AE|apply Aw|intro _|split)
theorem IM_ (x0:_)(x1:_):Loc (FI x0 x1):=by
 unfold FI
 repeat' (first|exact Ah _|exact Af|exact Az _|apply Ae|apply Ar|apply AC|apply Ao|apply Ay|apply Ax|apply AA|apply AD|apply AE|apply Aw|intro _|split)
theorem EL_ (x0:_)(x1:_)(x2:_):Loc (Fl x0 x1 x2):=by
 unfold Fl
 repeat' (first|exact Ah _|exact Af|exact Az _|exact IM_ _ _|apply Ae|apply Ar|apply AC|apply Ao|apply Ay|apply Ax|apply AA|apply AD|apply AE|apply Aw|intro _|split)
theorem Il_ (x0:_)(x1:_)(x2:_)(x3:_)(x4:_)(x5:_)(x6:_):Loc (Bi x0 x1 x2 x3 x4 x5 x6):=by
 unfold Bi
 repeat' (first|exact Ah _|exact Af|exact Az _|exact EL_ _ _ _|exact Cl_ _ _ _ _ _|exact GD _|apply Ae|apply Ar|apply AC|apply Ao|apply Ay|apply Ax|apply AA|apply AD|apply AE|apply Aw|intro _|split)
theorem Lf_ (x0:_):Loc (lenOf x0):=by
 unfold lenOf
 repeat' (first|exact Ah _|exact Af|exact Az _|apply Ae|apply Ar|apply AC|apply Ao|apply Ay|apply Ax|apply AA|apply AD|apply AE|apply Aw|intro _|split)
theorem Rw (x0:_)(x1:_)(x2:_):Loc (Ef x0 x1 x2):=by
 unfold Ef
 repeat' (first|exact Ah _|exact Af|exact Az _|exact Bj _ _|exact EO _ _|exact Dv _|apply Ae|apply Ar|apply AC|apply Ao|apply Ay|apply Ax|apply AA|apply AD|apply AE|apply Aw|intro _|split)
theorem Ae_ (x0:_)(x1:_)(x2:_)(x3:_):Loc (ET x0 x1 x2 x3):=by
 unfold ET
 repeat' (first|exact Ah _|exact Af|exact Az _|exact Bj _ _|exact G0 _ _|apply Ae|apply Ar|apply AC|apply Ao|apply Ay|apply Ax|apply AA|apply AD|apply AE|apply Aw|intro _|split)
theorem Fq (x0:_):Loc (asA x0):=by
 unfold asA
 repeat' (first|exact Ah _|exact Af|exact Az _|apply Ae|apply Ar|apply AC|apply Ao|apply Ay|apply Ax|apply AA|apply AD|apply AE|apply Aw|intro _|split)
theorem Kj (x0:_)(x1:_)(x2:_):Loc (bnd x0 x1 x2):=by
 unfold bnd
 repeat' (first|exact Ah _|exact Af|exact Az _|apply Ae|apply Ar|apply AC|apply Ao|apply Ay|apply Ax|apply AA|apply AD|apply AE|apply Aw|intro _|split)
theorem MD (x0:_):Loc (ptrA x0):=by
 unfold ptrA
 repeat' (first|exact Ah _|exact Af|exact Az _|apply Ae|apply Ar|apply AC|apply Ao|apply Ay|apply Ax|apply AA|apply AD|apply AE|apply Aw|intro _|split)
theorem Gw (x0:_)(x1:_)(x2:_):Loc (pSl x0 x1 x2):=by
 unfold pSl
 repeat' (first|exact Ah _|exact Af|exact Az _|apply Ae|apply Ar|apply AC|apply Ao|apply Ay|apply Ax|apply AA|apply AD|apply AE|apply Aw|intro _|split)
theorem IN (x0:_):Loc (pN x0):=by
 unfold pN
 repeat' (first|exact Ah _|exact Af|exact Az _|apply Ae|apply Ar|apply AC|apply Ao|apply Ay|apply Ax|apply AA|apply AD|apply AE|apply Aw|intro _|split)
theorem Z4 (x0:_)(x1:_)(x2:_)(x3:_)(x4:_):Loc (F8 x0 x1 x2 x3 x4):=by
 unfold F8
 repeat' (first|exact Ah _|exact Af|exact Az _|exact Gw _ _ _|exact Kj _ _ _|apply Ae|apply Ar|apply AC|apply Ao|apply Ay|apply Ax|apply AA|apply AD|apply AE|apply Aw|intro _|split)
theorem EW_ (x0:_)(x1:_)(x2:_)(x3:_)(x4:_)(x5:_):Loc (slSl x0 x1 x2 x3 x4 x5):=by
 unfold slSl
 repeat' (first|exact Ah _|exact Af|exact Az _|exact Gw _ _ _|exact Kj _ _ _|apply Ae|apply Ar|apply AC|apply Ao|apply Ay|apply Ax|apply AA|apply AD|apply AE|apply Aw|intro _|split)
theorem Kb_ (x0:_)(x1:_)(x2:_):Loc (F0 x0 x1 x2):=by
 unfold F0
 repeat' (first|exact Ah _|exact Af|exact Az _|exact Kj _ _ _|apply Ae|apply Ar|apply AC|apply Ao|apply Ay|apply Ax|apply AA|apply AD|apply AE|apply Aw|intro _|split)
theorem Ir_ (x0:_)(x1:_)(x2:_)(x3:_)(x4:_):Loc (BK x0 x1 x2 x3 x4):=by
 unfold BK
 repeat' (first|exact Ah _|exact Af|exact Az _|exact Kb_ _ _ _|exact EW_ _ _ _ _ _ _|exact Z4 _ _ _ _ _|exact Kj _ _ _|exact Bj _ _|apply Ae|apply Ar|apply AC|apply Ao|apply Ay|apply Ax|apply AA|apply AD|apply AE|apply Aw|intro _|split)
theorem Tl (x0:_)(x1:_)(x2:_):Loc (srcL x0 x1 x2):=by
 unfold srcL
 repeat' (first|exact Ah _|exact Af|exact Az _|exact EO _ _|apply Ae|apply Ar|apply AC|apply Ao|apply Ay|apply Ax|apply AA|apply AD|apply AE|apply Aw|intro _|split)
theorem GH_ (x0:_)(x1:_)(x2:_):Loc (appN x0 x1 x2):=by
 unfold appN
 repeat' (first|exact Ah _|exact Af|exact Az _|apply Ae|apply Ar|apply AC|apply Ao|apply Ay|apply Ax|apply AA|apply AD|apply AE|apply Aw|intro _|split)
theorem X7 (x0:_)(x1:_)(x2:_)(x3:_):Loc (appL x0 x1 x2 x3):=by
 unfold appL
 repeat' (first|exact Ah _|exact Af|exact Az _|exact Tl _ _ _|apply Ae|apply Ar|apply AC|apply Ao|apply Ay|apply Ax|apply AA|apply AD|apply AE|apply Aw|intro _|split)
theorem Ky_ (x0:_)(x1:_)(x2:_):Loc (oldL x0 x1 x2):=by
 unfold oldL
 repeat' (first|exact Ah _|exact Af|exact Az _|exact EO _ _|apply Ae|apply Ar|apply AC|apply Ao|apply Ay|apply Ax|apply AA|apply AD|apply AE|apply Aw|intro _|split)
theorem CS_ (x0:_)(x1:_)(x2:_):Loc (EG x0 x1 x2):=by
 unfold EG
 repeat' (first|exact Ah _|exact Af|exact Az _|exact Uo _ _|apply Ae|apply Ar|apply AC|apply Ao|apply Ay|apply Ax|apply AA|apply AD|apply AE|apply Aw|intro _|split)
theorem Cu_ (x0:_)(x1:_)(x2:_)(x3:_):Loc (CJ x0 x1 x2 x3):=by
 unfold CJ
 repeat' (first|exact Ah _|exact Af|exact Az _|exact CS_ _ _ _|exact B1 _ _|exact Cm _|apply Ae|apply Ar|apply AC|apply Ao|apply Ay|apply Ax|apply AA|apply AD|apply AE|apply Aw|intro _|split)
theorem Fo_ (x0:_)(x1:_)(x2:_)(x3:_)(x4:_)(x5:_)(x6:_):Loc (grow x0 x1 x2 x3 x4 x5 x6):=by
 unfold grow
 repeat' (first|exact Ah _|exact Af|exact Az _|exact Cu_ _ _ _ _|exact Ky_ _ _ _|exact Gw _ _ _|exact EJ _|exact B1 _ _|apply Ae|apply Ar|apply AC|apply Ao|apply Ay|apply Ax|apply AA|apply AD|apply AE|apply Aw|intro _|split)
theorem EQ_ (x0:_)(x1:_)(x2:_)(x3:_)(x4:_)(x5:_):Loc (D3 x0 x1 x2 x3 x4 x5):=by
 unfold D3
 repeat' (first|exact Ah _|exact Af|exact Az _|exact Gw _ _ _|exact G0 _ _|apply Ae|apply Ar|apply AC|apply Ao|apply Ay|apply Ax|apply AA|apply AD|apply AE|apply Aw|intro _|split)
theorem Xo (x0:_)(x1:_)(x2:_)(x3:_)(x4:_):Loc (B3 x0 x1 x2 x3 x4):=by
 unfold B3
 repeat' (first|exact Ah _|exact Af|exact Az _|exact EQ_ _ _ _ _ _ _|exact Fo_ _ _ _ _ _ _ _|exact X7 _ _ _ _|exact GH_ _ _ _|exact Bj _ _|apply Ae|apply Ar|apply AC|apply Ao|apply Ay|apply Ax|apply AA|apply AD|apply AE|apply Aw|intro _|split)
theorem XR (x0:_)(x1:_)(x2:_):Loc (Cq x0 x1 x2):=by
 unfold Cq
 repeat' (first|exact Ah _|exact Af|exact Az _|exact Bj _ _|apply Ae|apply Ar|apply AC|apply Ao|apply Ay|apply Ax|apply AA|apply AD|apply AE|apply Aw|intro _|split)
theorem WB (x0:_)(x1:_)(x2:_)(x3:_):Loc (Dj x0 x1 x2 x3):=by
 unfold Dj
 repeat' (first|exact Ah _|exact Af|exact Az _|exact Bj _ _|exact EJ _|exact B1 _ _|apply Ae|apply Ar|apply AC|apply Ao|apply Ay|apply Ax|apply AA|apply AD|apply AE|apply Aw|intro _|split)
theorem NN (x0:_)(x1:_)(x2:_)(x3:_):Loc (DJ x0 x1 x2 x3):=by
 unfold DJ
 repeat' (first|exact Ah _|exact Af|exact Az _|exact Bj _ _|apply Ae|apply Ar|apply AC|apply Ao|apply Ay|apply Ax|apply AA|apply AD|apply AE|apply Aw|intro _|split)
theorem IN_ (x0:_)(x1:_)(x2:_)(x3:_)(x4:_):Loc (Ep x0 x1 x2 x3 x4):=by
 unfold Ep
 repeat' (first|exact Ah _|exact Af|exact Az _|exact Tl _ _ _|exact IN _|exact Lf_ _|exact Bj _ _|exact G0 _ _|apply Ae|apply Ar|apply AC|apply Ao|apply Ay|apply Ax|apply AA|apply AD|apply AE|apply Aw|intro _|split)
theorem DQ (x0:_):Loc (mapAt x0):=by
 unfold mapAt
 repeat' (first|exact Ah _|exact Af|exact Az _|exact Cm _|apply Ae|apply Ar|apply AC|apply Ao|apply Ay|apply Ax|apply AA|apply AD|apply AE|apply Aw|intro _|split)
theorem YD (x0:_):Loc (DE x0):=by
 unfold DE
 repeat' (first|exact Ah _|exact Af|exact Az _|exact DQ _|exact IN _|apply Ae|apply Ar|apply AC|apply Ao|apply Ay|apply Ax|apply AA|apply AD|apply AE|apply Aw|intro _|split)
theorem ZJ (x0:_)(x1:_)(x2:_):Loc (aLen x0 x1 x2):=by
 unfold aLen
 repeat' (first|exact Ah _|exact Af|exact Az _|exact YD _|exact IN _|exact Bj _ _|apply Ae|apply Ar|apply AC|apply Ao|apply Ay|apply Ax|apply AA|apply AD|apply AE|apply Aw|intro _|split)
theorem Ze (x0:_)(x1:_)(x2:_):Loc (aCap x0 x1 x2):=by
 unfold aCap
 repeat' (first|exact Ah _|exact Af|exact Az _|exact IN _|exact Bj _ _|apply Ae|apply Ar|apply AC|apply Ao|apply Ay|apply Ax|apply AA|apply AD|apply AE|apply Aw|intro _|split)
theorem Yh (x0:_)(x1:_)(x2:_):Loc (Fk x0 x1 x2):=by
 unfold Fk
 repeat' (first|exact Ah _|exact Af|exact Az _|exact Bj _ _|exact G0 _ _|apply Ae|apply Ar|apply AC|apply Ao|apply Ay|apply Ax|apply AA|apply AD|apply AE|apply Aw|intro _|split)
theorem O2 (x0:_):Loc (zeroV x0):=by
 unfold zeroV
 repeat' (first|exact Ah _|exact Af|exact Az _|apply Ae|apply Ar|apply AC|apply Ao|apply Ay|apply Ax|apply AA|apply AD|apply AE|apply Aw|intro _|split)
theorem Fc (E:_)(e:_)(t:_)(k:_)(es:_):Loc (B5 E e t k es):=Ar _ (Ao _ fun _=>Ah _)
theorem L7 (x0:_)(x1:_)(x2:_):Loc (C5 x0 x1 x2):=by
 unfold C5
 repeat' (first|exact Ah _|exact Af|exact Az _|apply Ae|apply Ar|apply AC|apply Ao|apply Ay|apply Ax|apply AA|apply AD|apply AE|apply Aw|intro _|split)
theorem Mi (x0:_)(x1:_):Loc (zeroOf x0 x1):=by
 unfold zeroOf
 repeat' (first|exact Ah _|exact Af|exact Az _|exact O2 _|exact Bj _ _|apply Ae|apply Ar|apply AC|apply Ao|apply Ay|apply Ax|apply AA|apply AD|apply AE|apply Aw|intro _|split)
theorem LB_ (E:_)(a:_)(b:_)(k:_)(c:_):Loc (KY E a b k c):=Ae (Fc _ _ _ _ _) fun r=>by
 cases r with
 |none=>exact Ae (Mi _ _) fun _=>L7 _ _ _
 |some j=>exact Af
theorem X5 (E:_)(a:_)(b:_)(k:_)(c:_)(es:_):Loc (C4 E a b k c es):=Ae (Fc _ _ _ _ _) fun r=>by
 cases r with
 |none=>exact Ae (Mi _ _) fun _=>L7 _ _ _
 |some j=>exact Ao _ fun _=>L7 _ _ _
theorem G7 (x0:_)(x1:_):Loc (mapT x0 x1):=by
 unfold mapT
 repeat' (first|exact Ah _|exact Af|exact Az _|exact Bj _ _|apply Ae|apply Ar|apply AC|apply Ao|apply Ay|apply Ax|apply AA|apply AD|apply AE|apply Aw|intro _|split)
theorem AG_ (E:_)(t:_)(c:_)(x:_)(k:_):Loc (CH E t c x k):=Ae (G7 _ _) fun ke=>by
 cases x with
 |map m=>
  cases m with
  |none=>exact LB_ _ _ _ _ _
  |some l=>exact Ae (DQ _) fun p=>X5 _ _ _ _ _ _
 |_=>exact Af
theorem DT_ (E:_)(t:_)(k:_)(x:_)(l:_)(p:_):Loc (putE E t k x l p):=Ae (Fc _ _ _ _ _) fun r=>by
 cases r with
 |none=>exact B1 _ _
 |some j=>exact Ao _ fun _=>Ar _ (B1 _ _)
theorem Pe (E:_)(t:_)(m:_)(k:_)(x:_):Loc (Dg E t m k x):=Ae (G7 _ _) fun ke=>by
 cases m with
 |map m=>
  cases m with
  |none=>exact Af
  |some l=>exact Ae (DQ _) fun p=>Ae (DT_ _ _ _ _ _ _) fun _=>Ah _
 |_=>exact Af
theorem JZ_ (E:_)(a:_)(b:_)(k:_)(l:_)(p:_):Loc (entE E a b k l p):=Ae (Fc _ _ _ _ _) fun r=>by
 cases r with
 |none=>exact Ae (Mi _ _) fun _=>Ae (B1 _ _) fun _=>Ah _
 |some j=>exact Ao _ fun _=>Ar _ (Ae (B1 _ _) fun _=>Ah _)
theorem KG_ (E:_)(t:_)(m:_)(k:_):Loc (Gq E t m k):=Ae (G7 _ _) fun ke=>by
 cases m with
 |map m=>
  cases m with
  |none=>exact Af
  |some l=>exact Ae (DQ _) fun p=>JZ_ _ _ _ _ _ _
 |_=>exact Af
theorem Jb_ (x0:_)(x1:_)(x2:_):Loc (D2 x0 x1 x2):=by
 unfold D2
 repeat' (first|exact Ah _|exact Af|exact Az _|exact DQ _|exact B1 _ _|apply Ae|apply Ar|apply AC|apply Ao|apply Ay|apply Ax|apply AA|apply AD|apply AE|apply Aw|intro _|split)
theorem SS:Loc (Cw):=by
 unfold Cw
 repeat' (first|exact Ah _|exact Af|exact Az _|exact Fa _|apply Ae|apply Ar|apply AC|apply Ao|apply Ay|apply Ax|apply AA|apply AD|apply AE|apply Aw|intro _|split)
theorem LZ_ (x0:_)(x1:_)(x2:_):Loc (EE x0 x1 x2):=by
 unfold EE
 repeat' (first|exact Ah _|exact Af|exact Az _|exact SS|exact G7 _ _|apply Ae|apply Ar|apply AC|apply Ao|apply Ay|apply Ax|apply AA|apply AD|apply AE|apply Aw|intro _|split)
theorem Xn (E:_)(t:_)(m:_)(k:_):Loc (kDel E t m k):=Ae (G7 _ _) fun ke=>by
 cases m with
 |map m=>
  cases m with
  |none=>exact Ae (Fc _ _ _ _ _) fun _=>Ah _
  |some l=>exact Ae (DQ _) fun p=>Ae (Fc _ _ _ _ _) fun r=>by cases r<;>exact Ae (B1 _ _) fun _=>Ah _
 |_=>exact Af
theorem W8 (x0:_)(x1:_)(x2:_)(x3:_):Loc (A6 x0 x1 x2 x3):=by
 unfold A6
 repeat' (first|exact Ah _|exact Af|exact Az _|exact Xn _ _ _ _|exact Yh _ _ _|exact Ze _ _ _|exact ZJ _ _ _|exact IN_ _ _ _ _ _|exact Xo _ _ _ _ _|exact GD _|apply Ae|apply Ar|apply AC|apply Ao|apply Ay|apply Ax|apply AA|apply AD|apply AE|apply Aw|intro _|split)
theorem Yy (x0:_)(x1:_)(x2:_)(x3:_):Loc (idxN x0 x1 x2 x3):=by
 unfold idxN
 repeat' (first|exact Ah _|exact Af|exact Az _|exact MD _|exact Bj _ _|apply Ae|apply Ar|apply AC|apply Ao|apply Ay|apply Ax|apply AA|apply AD|apply AE|apply Aw|intro _|split)
theorem K0 (x0:_):Loc (asN x0):=by
 unfold asN
 repeat' (first|exact Ah _|exact Af|exact Az _|apply Ae|apply Ar|apply AC|apply Ao|apply Ay|apply Ax|apply AA|apply AD|apply AE|apply Aw|intro _|split)
theorem Bv_ (x0:_)(x1:_)(x2:_):Loc (BC x0 x1 x2):=by
 unfold BC
 repeat' (first|exact Ah _|exact Af|exact Az _|apply Ae|apply Ar|apply AC|apply Ao|apply Ay|apply Ax|apply AA|apply AD|apply AE|apply Aw|intro _|split)
theorem VD (x0:_):Loc (ptrN x0):=by
 unfold ptrN
 repeat' (first|exact Ah _|exact Af|exact Az _|apply Ae|apply Ar|apply AC|apply Ao|apply Ay|apply Ax|apply AA|apply AD|apply AE|apply Aw|intro _|split)
theorem WR (x0:_)(x1:_):Loc (Db x0 x1):=by
 unfold Db
 repeat' (first|exact Ah _|exact Af|exact Az _|exact VD _|exact Bj _ _|exact EJ _|apply Ae|apply Ar|apply AC|apply Ao|apply Ay|apply Ax|apply AA|apply AD|apply AE|apply Aw|intro _|split)
theorem KD_ (x0:_):Loc (kBox x0):=by
 unfold kBox
 repeat' (first|exact Ah _|exact Af|exact Az _|exact VD _|exact EJ _|apply Ae|apply Ar|apply AC|apply Ao|apply Ay|apply Ax|apply AA|apply AD|apply AE|apply Aw|intro _|split)
theorem Gp_ (x0:_)(x1:_)(x2:_):Loc (A3 x0 x1 x2):=by
 unfold A3
 repeat' (first|exact Ah _|exact Af|exact Az _|exact Fq _|exact Rw _ _ _|apply Ae|apply Ar|apply AC|apply Ao|apply Ay|apply Ax|apply AA|apply AD|apply AE|apply Aw|intro _|split)
theorem YW (x0:_)(x1:_)(x2:_)(x3:_):Loc (BU x0 x1 x2 x3):=by
 unfold BU
 repeat' (first|exact Ah _|exact Af|exact Az _|exact Fq _|exact Ae_ _ _ _ _|apply Ae|apply Ar|apply AC|apply Ao|apply Ay|apply Ax|apply AA|apply AD|apply AE|apply Aw|intro _|split)
theorem FC_ (x0:_):Loc (kNil x0):=by
 unfold kNil
 repeat' (first|exact Ah _|exact Af|exact Az _|apply Ae|apply Ar|apply AC|apply Ao|apply Ay|apply Ax|apply AA|apply AD|apply AE|apply Aw|intro _|split)
theorem IH_ (b:Bool):Loc (pB b):=by cases b<;>exact Ah _
theorem KL (x0:_)(x1:_)(x2:_):Loc (Cu x0 x1 x2):=by
 unfold Cu
 repeat' (first|exact Ah _|exact Af|exact Az _|exact GD _|apply Ae|apply Ar|apply AC|apply Ao|apply Ay|apply Ax|apply AA|apply AD|apply AE|apply Aw|intro _|split)
theorem BC_ (P:Program)(v:Value):Loc (xorU P v):=by
 have h:=KL P .xor v
 cases v with
 |int k n=>
  cases n with
  |negSucc m=>exact KL P .xor (.int k (.negSucc m))
  |ofNat m=>
   show Loc (Option.rec (motive:=fun _=>M Value) (Cu P .xor (.int k (.ofNat m))) (fun x=>M.pure x) (notK k m))
   exact Aw _ (KL _ _ _) fun _=>Ah _
 |_=>exact h
theorem Df_ (x0:_)(x1:_)(x2:_):Loc (kUn x0 x1 x2):=by
 unfold kUn
 repeat' (first|exact Ah _|exact Af|exact Az _|exact BC_ _ _|exact KL _ _ _|exact IH_ _|apply Ae|apply Ar|apply AC|apply Ao|apply Ay|apply Ax|apply AA|apply AD|apply AE|apply Aw|intro _|split)
theorem Dt_ (x0:_)(x1:_):Loc (strOf x0 x1):=by
 unfold strOf
 repeat' (first|exact Ah _|exact Af|exact Az _|exact EO _ _|apply Ae|apply Ar|apply AC|apply Ao|apply Ay|apply Ax|apply AA|apply AD|apply AE|apply Aw|intro _|split)
theorem Ww (x0:_)(x1:_)(x2:_)(x3:_)(x4:_):Loc (Hn x0 x1 x2 x3 x4):=by
 unfold Hn
 repeat' (first|exact Ah _|exact Af|exact Az _|exact Dt_ _ _|exact Bj _ _|apply Ae|apply Ar|apply AC|apply Ao|apply Ay|apply Ax|apply AA|apply AD|apply AE|apply Aw|intro _|split)
theorem WH (x0:_)(x1:_)(x2:_)(x3:_)(x4:_):Loc (GW x0 x1 x2 x3 x4):=by
 unfold GW
 repeat' (first|exact Ah _|exact Af|exact Az _|exact GD _|exact Bj _ _|apply Ae|apply Ar|apply AC|apply Ao|apply Ay|apply Ax|apply AA|apply AD|apply AE|apply Aw|intro _|split)
theorem Mh (x0:_)(x1:_)(x2:_)(x3:_):Loc (Dp x0 x1 x2 x3):=by
 unfold Dp
 repeat' (first|exact Ah _|exact Af|exact Az _|exact WH _ _ _ _ _|exact Ww _ _ _ _ _|exact GD _|apply Ae|apply Ar|apply AC|apply Ao|apply Ay|apply Ax|apply AA|apply AD|apply AE|apply Aw|intro _|split)
theorem Ro (x0:_)(x1:_):Loc (rowN x0 x1):=by
 unfold rowN
 repeat' (first|exact Ah _|exact Af|exact Az _|exact Gw _ _ _|exact EJ _|exact B1 _ _|apply Ae|apply Ar|apply AC|apply Ao|apply Ay|apply Ax|apply AA|apply AD|apply AE|apply Aw|intro _|split)
theorem LO_ (l:List UInt8):Loc (D4 l):=by
 unfold D4
 rw[If]
 exact Ay _ fun n=>Ro _ _
theorem Lj_ (x0:_)(x1:_)(x2:_)(x3:_):Loc (FK x0 x1 x2 x3):=by
 unfold FK
 repeat' (first|exact Ah _|exact Af|exact Az _|exact LO_ _|exact Mh _ _ _ _|exact Bj _ _|apply Ae|apply Ar|apply AC|apply Ao|apply Ay|apply Ax|apply AA|apply AD|apply AE|apply Aw|intro _|split)
theorem JG_ (x0:_)(x1:_)(x2:_)(x3:_)(x4:_)(x5:_):Loc (EL x0 x1 x2 x3 x4 x5):=by
 unfold EL
 repeat' (first|exact Ah _|exact Af|exact Az _|exact Mh _ _ _ _|exact Bj _ _|exact EO _ _|exact Cm _|apply Ae|apply Ar|apply AC|apply Ao|apply Ay|apply Ax|apply AA|apply AD|apply AE|apply Aw|intro _|split)
theorem Kn_ (x0:_)(x1:_)(x2:_)(x3:_):Loc (D1 x0 x1 x2 x3):=by
 unfold D1
 repeat' (first|exact Ah _|exact Af|exact Az _|exact JG_ _ _ _ _ _ _|exact Lj_ _ _ _ _|exact Mh _ _ _ _|apply Ae|apply Ar|apply AC|apply Ao|apply Ay|apply Ax|apply AA|apply AD|apply AE|apply Aw|intro _|split)
theorem Ju_ (x0:_)(x1:_):Loc (F7 x0 x1):=by
 unfold F7
 repeat' (first|exact Ah _|exact Af|exact Az _|apply Ae|apply Ar|apply AC|apply Ao|apply Ay|apply Ax|apply AA|apply AD|apply AE|apply Aw|intro _|split)
theorem CK_ (x0:_)(x1:_)(x2:_):Loc (Ew x0 x1 x2):=by
 unfold Ew
 repeat' (first|exact Ah _|exact Af|exact Az _|exact Ju_ _ _|exact Bj _ _|apply Ae|apply Ar|apply AC|apply Ao|apply Ay|apply Ax|apply AA|apply AD|apply AE|apply Aw|intro _|split)
theorem KF_ (x0:_)(x1:_)(x2:_):Loc (Em x0 x1 x2):=by
 unfold Em
 repeat' (first|exact Ah _|exact Af|exact Az _|exact Bj _ _|apply Ae|apply Ar|apply AC|apply Ao|apply Ay|apply Ax|apply AA|apply AD|apply AE|apply Aw|intro _|split)
theorem LG_ (x0:_)(x1:_)(x2:_)(x3:_):Loc (mkSl x0 x1 x2 x3):=by
 unfold mkSl
 repeat' (first|exact Ah _|exact Af|exact Az _|exact Bj _ _|exact EJ _|apply Ae|apply Ar|apply AC|apply Ao|apply Ay|apply Ax|apply AA|apply AD|apply AE|apply Aw|intro _|split)
theorem Ak_ (x0:_)(x1:_)(x2:_)(x3:_):Loc (Do x0 x1 x2 x3):=by
 unfold Do
 repeat' (first|exact Ah _|exact Af|exact Az _|exact LG_ _ _ _ _|exact K0 _|exact Bj _ _|apply Ae|apply Ar|apply AC|apply Ao|apply Ay|apply Ax|apply AA|apply AD|apply AE|apply Aw|intro _|split)
theorem J9 (x0:_)(x1:_)(x2:_):Loc (Cr x0 x1 x2):=by
 unfold Cr
 repeat' (first|exact Ah _|exact Af|exact Az _|exact Bj _ _|apply Ae|apply Ar|apply AC|apply Ao|apply Ay|apply Ax|apply AA|apply AD|apply AE|apply Aw|intro _|split)
theorem LC_ (x0:_)(x1:_)(x2:_)(x3:_):Loc (kFld x0 x1 x2 x3):=by
 unfold kFld
 repeat' (first|exact Ah _|exact Af|exact Az _|exact J9 _ _ _|exact MD _|exact Fq _|exact Bj _ _|apply Ae|apply Ar|apply AC|apply Ao|apply Ay|apply Ax|apply AA|apply AD|apply AE|apply Aw|intro _|split)
theorem PL (x0:_):Loc (asCs x0):=by
 unfold asCs
 repeat' (first|exact Ah _|exact Af|exact Az _|apply Ae|apply Ar|apply AC|apply Ao|apply Ay|apply Ax|apply AA|apply AD|apply AE|apply Aw|intro _|split)
theorem MI_ (x0:_)(x1:_)(x2:_)(x3:_):Loc (EF x0 x1 x2 x3):=by
 unfold EF
 repeat' (first|exact Ah _|exact Af|exact Az _|exact PL _|exact J9 _ _ _|exact NN _ _ _ _|exact Bj _ _|apply Ae|apply Ar|apply AC|apply Ao|apply Ay|apply Ax|apply AA|apply AD|apply AE|apply Aw|intro _|split)
theorem Ku_ (x0:_)(x1:_)(x2:_)(x3:_):Loc (BS x0 x1 x2 x3):=by
 unfold BS
 repeat' (first|exact Ah _|exact Af|exact Az _|exact K0 _|exact Yy _ _ _ _|exact Bj _ _|apply Ae|apply Ar|apply AC|apply Ao|apply Ay|apply Ax|apply AA|apply AD|apply AE|apply Aw|intro _|split)
theorem AA_ (x0:_)(x1:_)(x2:_)(x3:_):Loc (idxV x0 x1 x2 x3):=by
 unfold idxV
 repeat' (first|exact Ah _|exact Af|exact Az _|exact NN _ _ _ _|exact Bj _ _|apply Ae|apply Ar|apply AC|apply Ao|apply Ay|apply Ax|apply AA|apply AD|apply AE|apply Aw|intro _|split)
theorem Jk_ (x0:_)(x1:_)(x2:_)(x3:_):Loc (kIdx x0 x1 x2 x3):=by
 unfold kIdx
 repeat' (first|exact Ah _|exact Af|exact Az _|exact AA_ _ _ _ _|exact K0 _|exact Bj _ _|apply Ae|apply Ar|apply AC|apply Ao|apply Ay|apply Ax|apply AA|apply AD|apply AE|apply Aw|intro _|split)
theorem Hr_ (x0:_)(x1:_):Loc (kExt x0 x1):=by
 unfold kExt
 repeat' (first|exact Ah _|exact Af|exact Az _|apply Ae|apply Ar|apply AC|apply Ao|apply Ay|apply Ax|apply AA|apply AD|apply AE|apply Aw|intro _|split)
theorem DO_ (x0:_)(x1:_)(x2:_):Loc (okV x0 x1 x2):=by
 unfold okV
 repeat' (first|exact Ah _|exact Af|exact Az _|apply Ae|apply Ar|apply AC|apply Ao|apply Ay|apply Ax|apply AA|apply AD|apply AE|apply Aw|intro _|split)
theorem AK_ (x0:_)(x1:_)(x2:_):Loc (CV x0 x1 x2):=by
 unfold CV
 repeat' (first|exact Ah _|exact Af|exact Az _|exact Bj _ _|exact Fa _|apply Ae|apply Ar|apply AC|apply Ao|apply Ay|apply Ax|apply AA|apply AD|apply AE|apply Aw|intro _|split)
theorem Kp_ (x0:_)(x1:_)(x2:_):Loc (sitN x0 x1 x2):=by
 unfold sitN
 repeat' (first|exact Ah _|exact Af|exact Az _|exact B1 _ _|apply Ae|apply Ar|apply AC|apply Ao|apply Ay|apply Ax|apply AA|apply AD|apply AE|apply Aw|intro _|split)
theorem EU_ (x0:_):Loc (De x0):=by
 unfold De
 repeat' (first|exact Ah _|exact Af|exact Az _|exact Kp_ _ _ _|exact Cm _|apply Ae|apply Ar|apply AC|apply Ao|apply Ay|apply Ax|apply AA|apply AD|apply AE|apply Aw|intro _|split)
theorem LT_ (x0:_)(x1:_)(x2:_)(x3:_):Loc (Ev x0 x1 x2 x3):=by
 unfold Ev
 repeat' (first|exact Ah _|exact Af|exact Az _|exact DO_ _ _ _|exact O2 _|exact Bj _ _|apply Ae|apply Ar|apply AC|apply Ao|apply Ay|apply Ax|apply AA|apply AD|apply AE|apply Aw|intro _|split)
theorem Gh_:Loc (Gp):=by
 unfold Gp
 repeat' (first|exact Ah _|exact Af|exact Az _|exact JE _|exact GK|apply Ae|apply Ar|apply AC|apply Ao|apply Ay|apply Ax|apply AA|apply AD|apply AE|apply Aw|intro _|split)
theorem KU_ (x0:_)(x1:_):Loc (Hr x0 x1):=by
 unfold Hr
 repeat' (first|exact Ah _|exact Af|exact Az _|exact JE _|exact GK|apply Ae|apply Ar|apply AC|apply Ao|apply Ay|apply Ax|apply AA|apply AD|apply AE|apply Aw|intro _|split)
inductive ChR (r:Inj):List PanicEntry→List PanicEntry→Prop
 |nil:ChR r [] []
 |cons {e e':PanicEntry} {l l':List PanicEntry}:VR r e.v e'.v→e'.recovered=e.recovered→e'.goexit=e.goexit→ChR r l l'→ChR r (e::l) (e'::l')
theorem ChR.mono {r r':Inj}(h:r.le r'){l l':List PanicEntry}(k:ChR r l l'):ChR r' l l':=by
 induction k with
 |nil=>exact .nil
 |cons a b c _ ih=>exact .cons (a.mono h) b c ih
theorem ChR.append {r:Inj}{a a' b b':List PanicEntry}(h:ChR r a a')(k:ChR r b b'):ChR r (a++b) (a'++b'):=by
 induction h with
 |nil=>exact k
 |cons x y z _ ih=>exact .cons x y z ih
inductive MoR (r:Inj):FrameMode→FrameMode→Prop
 |run:MoR r .run .run
 |ret:MoR r .returning .returning
 |pan {c c':List PanicEntry}:ChR r c c'→MoR r (.panicking c) (.panicking c')
theorem MoR.mono {r r':Inj}(h:r.le r'){m m':FrameMode}(k:MoR r m m'):MoR r' m m':=by
 cases k with
 |run=>exact .run
 |ret=>exact .ret
 |pan c=>exact .pan (c.mono h)
inductive DfR (r:Inj):Deferred→Deferred→Prop
 |fn {f f':Fn} {c c' a a':Array Value}:FnR r f f'→VRs r c.toList c'.toList→VRs r a.toList a'.toList→DfR r ⟨.fn f c,a⟩ ⟨.fn f' c',a'⟩
 |coll {b b' d:Nat}:r.blk b=some (b',d)→DfR r ⟨.collected b, #[]⟩ ⟨.collected b', #[]⟩
theorem DfR.mono {r r':Inj}(h:r.le r'){m m':Deferred}(k:DfR r m m'):DfR r' m m':=by
 cases k with
 |fn a b c=>exact .fn (a.mono h) (b.mono h) (c.mono h)
 |coll a=>exact .coll (h.1 _ _ a)
inductive DfsR (r:Inj):List Deferred→List Deferred→Prop
 |nil:DfsR r [] []
 |cons {e e':Deferred} {l l':List Deferred}:DfR r e e'→DfsR r l l'→DfsR r (e::l) (e'::l')
theorem DfsR.mono {r r':Inj}(h:r.le r'){l l':List Deferred}(k:DfsR r l l'):DfsR r' l l':=by
 induction k with
 |nil=>exact .nil
 |cons a _ ih=>exact .cons (a.mono h) ih
def CxR (r:Inj)(base:List Deferred×List Frame)(cx:Ctx)(b:Frame)(dfs:List Deferred)(cs:List Frame):Prop:=
 match cx with
 | .no=>dfs=base.1∧cs=base.2
 | .cx up d=>
  (match up with
   |none=>b.kind= .normal∧cs=base.2
   |some m=>b.kind= .deferred∧ ∃c rest m',base.2=c::rest∧cs={c with mode:=m'}::rest∧MoR r m m')∧
  (match d with
   |none=>b.roundOf≠none∧dfs=[]
   |some l=>b.roundOf=none∧DfsR r l dfs)
theorem CxR.mono {r r':Inj}(h:r.le r'){base:List Deferred×List Frame}{cx:Ctx}{b:Frame}{dfs:List Deferred}{cs:List Frame}(k:CxR r base cx b dfs cs):CxR r' base cx b dfs cs:=by
 unfold CxR at *
 cases cx with
 |no=>exact k
 |cx up d=>
  obtain⟨k1,k2⟩:=k
  constructor
  ·cases up with
   |none=>exact k1
   |some m=>obtain⟨q1,c,rest,m',q2,q3,q4⟩:=k1;exact⟨q1,c,rest,m',q2,q3,q4.mono h⟩
  ·cases d with
   |none=>exact k2
   |some l=>exact⟨k2.1,k2.2.mono h⟩
def frm (b:Frame)(t:Array Value)(d:List Deferred)(todo:List Item):Frame:={fn:=b.fn,tmps:=t,todo,defers:=d,mode:= .run,kind:=b.kind,roundOf:=b.roundOf}
def putT (t:Array Value)(dst:Option Nat)(v:Value):Array Value:=
 match dst with
 |some d=>t.setIfInBounds d v
 |none=>t
theorem Me (b:Frame)(t:Array Value)(d:List Deferred)(todo:List Item):(frm b t d todo).eval=Act.eval ⟨t,d⟩:=funext fun x=>by cases x<;>rfl
theorem C7 (b:Frame)(t:Array Value)(d:List Deferred){ops:Array Oper}{i:Nat}{o:Oper}(ho:ops[i]?=some o)(rest:List Nat)(k:List Item)(v:Value):
  (frm b t d (.inRegion ops (i::rest)::k)).finish v=frm b (putT t o.dst v) d (.inRegion ops rest::k):=by
 cases h:o.dst<;>simp[Frame.finish,frm,putT,ho,h]
section
variable {P:Program}{b:Frame}{t:Array Value}{d:List Deferred}{k:List Item}{cs:List Frame}{w:World}{ops:Array Oper}
theorem Dr {i:Nat}{rest:List Nat}{o:Oper}(ho:ops[i]?=some o)(hw:Region.wanted o (yielded ops t)=true)(hd:b.roundOf=none∨ ∀c,o.op≠ .defer c):
  stepG P true {frame:=frm b t d (.inRegion ops (i::rest)::k),callers:=cs,status:= .running,dying:=none} w=
   stepG.apply P true (frm b t d (.inRegion ops (i::rest)::k)) cs none (execOp (Act.eval ⟨t,d⟩) o) w:=by
 have he:=Me b t d (.inRegion ops (i::rest)::k)
 have e1:stepG P true {frame:=frm b t d (.inRegion ops (i::rest)::k),callers:=cs,status:= .running,dying:=none} w=
   stepG.oper P true (frm b t d (.inRegion ops (i::rest)::k)) cs none w:=by
  simp[stepG,stepG.exec,frm,ho,hw]
 rw[e1]
 have e2:(frm b t d (.inRegion ops (i::rest)::k)).oper?=some o:=ho
 unfold stepG.oper
 simp only[e2,he]
 split
 ·rename_i l c h1 h2
  rcases hd with hd|hd
  ·rw[show(frm b t d (.inRegion ops (i::rest)::k)).roundOf=b.roundOf from rfl,hd]at h1
   cases h1
  ·exact absurd h2 (hd c)
 ·rfl
theorem Lh_ {id:Nat}:step P (lone (frm b t d (.code (.region id ops false)::k)) cs w)= .next (lone (frm b t d (.inRegion ops (List.range ops.size)::k)) cs w):=
 step_lone_go (by simp[stepG,stepG.exec,frm])
theorem Mi_ {id:Nat}:
  step P (lone (frm b t d (.code (.region id ops true)::k)) cs w)=
   .next (lone (frm b t d (.inRegion ops (Region.schedule (P.follows .mixedOrders) ops (w.tape w.drawn (.order b.fn id)))::k)) cs {w with drawn:=w.drawn+1}):=
 step_lone_go (by simp[stepG,stepG.exec,frm,choose,Sem.run,Question.forced,Question.cut])
theorem HA_:step P (lone (frm b t d (.inRegion ops []::k)) cs w)= .next (lone (frm b t d k) cs w):=
 step_lone_go (by simp[stepG,stepG.exec,frm])
theorem FN_ {i:Nat}{o:Oper}{rest:List Nat}(ho:ops[i]?=some o)(h:Region.wanted o (yielded ops t)=false):
  step P (lone (frm b t d (.inRegion ops (i::rest)::k)) cs w)= .next (lone (frm b (putT t o.dst undef) d (.inRegion ops rest::k)) cs w):=by
 rw[←C7 b t d ho]
 exact step_lone_go (by simp[stepG,stepG.exec,frm,ho,h])
end
def Ends (P:Program)(r:Inj)(out:Out Value)(m:Machine)(c:Frame)(cs:List Frame)(w':World):Prop:=
 match out with
 | .inl v=> ∃v',VR r v v'∧Steps P m (lone (c.finish v') cs w')
 | .inr ch=> ∃ch',ChR r ch ch'∧Steps P m (lone (c.raise ch') cs w')
def LB (P:Program)(w0 w:World)(r:Inj)(s:St)(f:Nat)(args':List Value)(out:Out Value)(s':St):Prop:=
 ∃v v' w' r',out= .inl v∧VR r' v v'∧Goes w0 r s s' r' w'∧s'.lim=s.lim∧s'.cx=s.cx∧(callFunc f args'.toArray).run P w= .ok (.value v') w'
structure CallOK (E:Env)(call:Ac):Prop where
 loc: ∀f args,Loc (call f args)
 ok: ∀{w0 w:World} {r:Inj} {f:Nat} {args args':List Value} {s:St} {out:Out Value} {s':St},call f args s=rOf out s'→Rel w0 r s.mem w→Bnd s→A8 r s.next s'.next→VRs r args args'→
  ((∀w,(callFunc f args'.toArray).run E.P w= .ok (.enter f args'.toArray) w)∧
  ∀c cs,∃w' r',Goes w0 r s s' r' w'∧s'.lim=s.lim∧s'.cx=s.cx∧Ends E.P r' out (lone (Frame.enter E.P f args'.toArray .normal) (c::cs) w) c cs w')∨
  (E.ext.get f≠none∧LB E.P w0 w r s f args' out s')
structure RoundOK (E:Env)(round:Ac):Prop where
 loc: ∀l args,Loc (round l args)
 ok: ∀{w0 w:World} {r:Inj} {l l' d:Nat} {args args':List Value} {s:St} {out:Out Value} {s':St},round l args s=rOf out s'→Rel w0 r s.mem w→Bnd s→A8 r s.next s'.next→VRs r args args'→r.blk l=some (l',d)→
  ∃f tm as bd,(Instr.yield l' args'.toArray).run E.P w= .ok (.round l' f tm as bd) w∧
  ∀c cs,∃w' r',Goes w0 r s s' r' w'∧s'.lim=s.lim∧s'.cx=s.cx∧Ends E.P r' out (lone (Frame.round l' f tm as bd .normal) (c::cs) w) c cs w'
def Mx (P:Program)(r:Inj)(out:Out Value)(m:Machine)(b:Frame)(t:Array Value)(dfs:List Deferred)(ops:Array Oper)(o:Oper)(rest:List Nat)(k:List Item)(cs:List Frame)(w':World):Prop:=
 match out with
 | .inl v=> ∃v',VR r v v'∧Steps P m (lone (frm b (putT t o.dst v') dfs (.inRegion ops rest::k)) cs w')
 | .inr ch=> ∃ch' td,ChR r ch ch'∧Steps P m (lone {frm b t dfs td with mode:= .panicking ch'} cs w')
def OpS (E:Env)(o:Oper)(c:Cl OpT)(ds:List Nat):Prop:=
 ∃f,c= .mk f∧(∀call round,CallOK E call→RoundOK E round→ ∀rho tm,Loc (f call round rho tm))∧
  ∀call round,CallOK E call→RoundOK E round→ ∀(w0 w:World) (r:Inj) (U:Nat→Prop) rho tm (b:Frame) (t:Array Value) (dfs:List Deferred) (cs:List Frame) (base:List Deferred×List Frame) (s:St) (out:Out Value) (s':St),
   SlR r U ds rho tm t→(∀t,Operand.tmp t∈o.op.operands.toList→U t)→Rel w0 r s.mem w→CxR r base s.cx b dfs cs→Bnd s→A8 r s.next s'.next→f call round rho tm s=rOf out s'→
   ∀(ops:Array Oper) i rest k,ops[i]?=some o→Region.wanted o (yielded ops t)=true→
    ∃w' r' dfs' cs',Goes w0 r s s' r' w'∧CxR r' base s'.cx b dfs' cs'∧s'.lim=s.lim∧
     Mx E.P r' out (lone (frm b t dfs (.inRegion ops (i::rest)::k)) cs w) b t dfs' ops o rest k cs' w'
theorem OpS.ofV {E:Env}{o:Oper}{c:Cl OpT}{ds:List Nat}(h:OpV E o c ds)(hd: ∀c,o.op≠ .defer c)(hl: ∀f,c= .mk f→ ∀call round rho tm,Loc (f call round rho tm)):OpS E o c ds:=by
 obtain⟨f,h1,h2,h3⟩:=h
 refine⟨f,h1,fun call round _ _=>hl f h1 call round, ?_⟩
 intro call round hc hro w0 w r U rho tm b t dfs cs base s out s' hs hu hr hx hb hf e ops i rest k ho hw
 cases out with
 |inr ch=>exact((h2 call round rho tm).no _ _ _ e).elim
 |inl v=>
  obtain⟨v',w',r',k1,k2,k3,k4,k5⟩:=h3 call round w0 w r U rho tm ⟨t,dfs⟩ s v s' hs hu hr e hf
  refine⟨w',r',dfs,cs,k2,by rw[k5];exact hx.mono k2.le,k4,v',k3, .one (step_lone_go ?_)⟩
  rw[Dr ho hw (.inr hd),←C7 b t dfs ho]
  rcases k1 with k1|⟨k1,rfl⟩<;>simp[stepG.apply,k1]
theorem EX_ (b:Frame)(t:Array Value)(d:List Deferred)(td:List Item)(ch:List PanicEntry):(frm b t d td).raise ch={frm b t d td with mode:= .panicking ch}:=rfl
section
variable {E:Env}{ds:List Nat}{o:Oper}
theorem VR.func_inv {r:Inj}{f:Fn}{a c:Array Value}{v':Value}(h:VR r (.func f a c) v'): ∃f' a' c',v'= .func f' a' c'∧FnR r f f'∧VRs r a.toList a'.toList∧VRs r c.toList c'.toList:=by
 cases h with
 |func h1 h2 h3 h4 h5=>exact⟨_,_,_,rfl,h1,VRs.ofArr h2 h3,VRs.ofArr h4 h5⟩
theorem G5 (ρ:Operand→Value){c:Call}{ty:TypeId}{x:Operand}{f:Fn}{a cap:Array Value}(hc:c.callee= .value x)(hx:ρ x= .func f a cap):
  resolve ρ c ty=pure {target:= .fn f cap,args:=a++c.args.map ρ}:=by
 unfold resolve
 simp only[hc,hx,Deferred.ofValue]
theorem Kf_ {x:Operand}{c:Call}(ho:o.op= .call c)(hc:c.callee= .value x):OpS E o (La ds x c.args.toList) ds:=by
 obtain⟨g,h1,h2⟩:=Bo ds x
 obtain⟨g',h3,h4⟩:=CZ ds c.args.toList
 refine⟨fun call round rho tm=>M.on (g rho tm) fun f=>M.on (g' rho tm) fun l=>A9 call round f l,by unfold La;simp only[h1,h3], ?_, ?_⟩
 ·intro call round hc1 hc2 rho tm
  refine Ao _ fun f=>Ao _ fun l=> ?_
  unfold A9
  split
  ·exact hc1.loc _ _
  ·exact Ar _ (hc2.loc _ _)
  ·exact Af
 ·intro call round hc1 hc2 w0 w r U rho tm b t dfs cs base s out s' hs hu hr hx hb hf e ops i rest k hoi hw
  have on': ∀{α β:Type} {y:Option α} {f:α→M β} {o:Out β} {s s':St},M.on y f s=rOf o s'→ ∃a,y=some a∧f a s=rOf o s':=by
   intro α β y f o s s' h
   cases y with
   |none=>exact(AU h).elim
   |some a=>exact⟨a,rfl,h⟩
  obtain⟨fv,e1,e⟩:=on' e
  obtain⟨l,e2,e⟩:=on' e
  have hfv:=h2 _ _ _ _ ⟨t,dfs⟩ _ hs (fun t q=>hu t (by simp[ho,Op.operands,Call.operands,hc]at q ⊢;simp[q])) e1
  have hl:VRs r l (c.args.toList.map (Act.eval ⟨t,dfs⟩)):=h4 _ _ _ _ ⟨t,dfs⟩ _ hs (fun t q=>hu t (by simp[ho,Op.operands,Call.operands]at q ⊢;simp[q])) e2
  have hmap:c.args.map (Act.eval ⟨t,dfs⟩)=(c.args.toList.map (Act.eval ⟨t,dfs⟩)).toArray:=by rw[←List.map_toArray]
  have hd: ∀c,o.op≠ .defer c:=by rw[ho];intro c h;cases h
  unfold A9 at e
  split at e
  ·rename_i f first cap _
   obtain⟨f',a',c',q1,q2,q3,q4⟩:=hfv.func_inv
   cases f' with
   |func f'=>
    simp only[FnR]at q2
    subst q2
    have e1:(a'++c.args.map (Act.eval ⟨t,dfs⟩)++c')=(a'.toList++(c.args.toList.map (Act.eval ⟨t,dfs⟩)++c'.toList)).toArray:=by
     rw[hmap];simp
    rcases hc1.ok e hr hb hf (args':=a'.toList++(c.args.toList.map (Act.eval ⟨t,dfs⟩)++c'.toList)) (q3.append (hl.append q4))with⟨k1,k2⟩|⟨_,v,v',w',r',rfl,g1,g2,g3,g4,g5⟩
    case inr=>
     have hrun:(execOp (Act.eval ⟨t,dfs⟩) o).run E.P w= .ok (.value v') w':=by
      simp only[execOp,ho,G5 _ hc q1]
      simp only[invoke,Sem.run_bind,Sem.run_pure,Result.andThen_ok,e1,g5]
     refine⟨w',r',dfs,cs,g2,by rw[g4];exact hx.mono g2.le,g3,v',g1, .one (step_lone_go ?_)⟩
     rw[Dr hoi hw (.inr hd),←C7 b t dfs hoi]
     simp[stepG.apply,hrun]
    obtain⟨w',r',g1,g2,g3,g4⟩:=k2 (frm b t dfs (.inRegion ops (i::rest)::k)) cs
    have henter:step E.P (lone (frm b t dfs (.inRegion ops (i::rest)::k)) cs w)=
      .next (lone (Frame.enter E.P f (a'.toList++(c.args.toList.map (Act.eval ⟨t,dfs⟩)++c'.toList)).toArray .normal) (frm b t dfs (.inRegion ops (i::rest)::k)::cs) w):=by
     refine step_lone_go ?_
     rw[Dr hoi hw (.inr hd)]
     have hrun:(execOp (Act.eval ⟨t,dfs⟩) o).run E.P w= .ok (.enter f (a'.toList++(c.args.toList.map (Act.eval ⟨t,dfs⟩)++c'.toList)).toArray) w:=by
      simp only[execOp,ho,G5 _ hc q1]
      simp only[invoke,Sem.run_bind,Sem.run_pure,Result.andThen_ok,e1,k1]
     simp[stepG.apply,hrun,frm]
    refine⟨w',r',dfs,cs,g1,by rw[g3];exact hx.mono g1.le,g2, ?_⟩
    unfold Ends at g4
    cases out with
    |inl v=>
     obtain⟨v',p1,p2⟩:=g4
     rw[C7 b t dfs hoi]at p2
     exact⟨v',p1, .head henter p2⟩
    |inr ch=>
     obtain⟨ch',p1,p2⟩:=g4
     exact⟨ch',_,p1, .head henter p2⟩
   |_=>simp only[FnR]at q2
  ·rename_i lp first cap _
   obtain⟨f',a',c',q1,q2,q3,q4⟩:=hfv.func_inv
   cases f' with
   |yield lp'=>
    obtain⟨dd,q2⟩:=q2
    cases hemp:first.isEmpty with
    |false=>rw[hemp]at e;exact(AU e).elim
    |true=>
     rw[hemp]at e
     have e':round lp l s=rOf out s':=e
     have hfe:first= #[]:=by simpa using hemp
     subst hfe
     have ha':a'= #[]:=by have:=q3.1;simp at this;simpa using this.symm
     subst ha'
     obtain⟨fn,tmn,as,bd,k1,k2⟩:=hc2.ok e' hr hb hf hl q2
     obtain⟨w',r',g1,g2,g3,g4⟩:=k2 (frm b t dfs (.inRegion ops (i::rest)::k)) cs
     have henter:step E.P (lone (frm b t dfs (.inRegion ops (i::rest)::k)) cs w)=
       .next (lone (Frame.round lp' fn tmn as bd .normal) (frm b t dfs (.inRegion ops (i::rest)::k)::cs) w):=by
      refine step_lone_go ?_
      rw[Dr hoi hw (.inr hd)]
      have hrun:(execOp (Act.eval ⟨t,dfs⟩) o).run E.P w= .ok (.round lp' fn tmn as bd) w:=by
       simp only[execOp,ho,G5 _ hc q1]
       have e1:(#[]++c.args.map (Act.eval ⟨t,dfs⟩))=(c.args.toList.map (Act.eval ⟨t,dfs⟩)).toArray:=by
        rw[hmap];simp
       simp only[invoke,Sem.run_bind,Sem.run_pure,Result.andThen_ok,e1,k1]
      simp[stepG.apply,hrun,frm]
     refine⟨w',r',dfs,cs,g1,by rw[g3];exact hx.mono g1.le,g2, ?_⟩
     unfold Ends at g4
     cases out with
     |inl v=>
      obtain⟨v',p1,p2⟩:=g4
      rw[C7 b t dfs hoi]at p2
      exact⟨v',p1, .head henter p2⟩
     |inr ch=>
      obtain⟨ch',p1,p2⟩:=g4
      exact⟨ch',_,p1, .head henter p2⟩
   |_=>simp only[FnR]at q2
  ·exact(AU e).elim
theorem UY (s:FieldStep)(a:Addr):Loc (HB E s a):=Ae (Bj _ _) fun _i=>Ae (J9 _ _ _) fun _p=>Ar _ (Ae (MD _) fun _v=>Ah _)
theorem Gr_ (s:FieldStep)(cs:List Value):Loc (I8 E s cs):=Ae (Bj _ _) fun _i=>Ae (J9 _ _ _) fun _p=>Ae (NN _ _ _ _) fun _v=>Ah _
theorem EG_ (s:FieldStep)(v:Value)(b:Bool):Loc (DD E s v b):=by
 unfold DD
 split
 ·exact Ae (Fq _) fun a=>Ae (UY _ _) fun p=>Ah _
 ·exact Ae (Fq _) fun a=>Ae (UY _ _) fun p=>Ah _
 ·exact Ae (PL _) fun a=>Ae (Gr_ _ _) fun p=>Ah _
 ·exact Af
theorem UQ: ∀(l:List FieldStep) (t:Nat) (v:Value) (b:Bool),Loc (GF E l t v b)
 |[],_,_,_=>Ah _
 |s::l,_,v,b=>Ae (EG_ s v b) fun _p=>UQ l _ _ _
theorem DE_ (t:Nat)(v:Value)(name:String):Loc (DS E t v name):=Ao _ fun _m=>Ao _ fun _fp=>Ae (UQ _ _ _ _) fun _q=>Ae (Bj _ _) fun _i=>Ar _ (Ah _)
theorem Rc (s:FieldStep)(a:Addr):NoPan (HB E s a):=Ag (Bh _ _) fun _i=>Ag (JY _ _ _) fun _p=>Au _ (Ag (Nq _) fun _v=>An _)
theorem Zg (s:FieldStep)(cs:List Value):NoPan (I8 E s cs):=Ag (Bh _ _) fun _i=>Ag (JY _ _ _) fun _p=>Ag (MB _ _ _ _) fun _v=>An _
theorem Zr (s:FieldStep)(v:Value)(b:Bool):NoPan (DD E s v b):=by
 unfold DD
 split
 ·exact Ag (E9 _) fun a=>Ag (Rc _ _) fun p=>An _
 ·exact Ag (E9 _) fun a=>Ag (Rc _ _) fun p=>An _
 ·exact Ag (Uw _) fun a=>Ag (Zg _ _) fun p=>An _
 ·exact Ap
theorem UC: ∀(l:List FieldStep) (t:Nat) (v:Value) (b:Bool),NoPan (GF E l t v b)
 |[],_,_,_=>An _
 |s::l,_,v,b=>Ag (Zr s v b) fun _p=>UC l _ _ _
theorem Y8 (t:Nat)(v:Value)(name:String):NoPan (DS E t v name):=Aq _ fun _m=>Aq _ fun _fp=>Ag (UC _ _ _ _) fun _q=>Ag (Bh _ _) fun _i=>Au _ (An _)
def PlR (r:Inj)(b:Bool)(v:Value)(p:Place):Prop:=
 match b,p with
 |false, .val v'=>VR r v v'
 |true, .var a'=> ∃a,v= .pointer (some a)∧AR r a a'
 |_,_=>False
theorem SL {w:World}{r:Inj}{s s':St}{st:FieldStep}{a a2:Addr}{p:Nat×Value}(he:EnvTy E)(h:HB E st a s= .some p s')(ha:AR r a a2):
  s=s'∧ ∃fs fd a3,(underlying st.struct).run E.P w= .ok (.struct fs) w∧fs[st.index]?=some fd∧p.1=fd.type∧(fieldPlace a2 fd).run E.P w= .ok a3 w∧PlR r true p.2 (.var a3):=by
 obtain⟨i,s1,h1,h2⟩:=bind_some h
 obtain⟨hi,rfl⟩:=A4 h1 he
 obtain⟨q,s2,h5,h6⟩:=bind_some h2
 obtain⟨h7,h8⟩:=Bg h6
 obtain⟨v,s3,h9,h10⟩:=bind_some h8
 obtain⟨rfl,rfl⟩:=H6 h9
 obtain⟨rfl,rfl⟩:=Al h10
 obtain⟨rfl,fs,fd,fi,hu,hfd,hfi,rfl⟩:=I3 he h5
 have hz:fi.size≠0:=by
  intro h0
  simp[h0]at h7
 refine⟨rfl,fs,fd,a2.add fd.offset,by rw[hi.run_und,hu],hfd,rfl, ?_,_,rfl,ha.add _⟩
 simp[fieldPlace,hfi.run_size,hz]
theorem Dp_ {w:World}{r:Inj}{s s':St}{st:FieldStep}{cs:List Value}{cs':Array Value}{p:Nat×Value}(he:EnvTy E)(h:I8 E st cs s= .some p s')(hc:VRs r cs cs'.toList):
  s=s'∧ ∃fs fd v',(underlying st.struct).run E.P w= .ok (.struct fs) w∧fs[st.index]?=some fd∧p.1=fd.type∧(part fd.type cs' fd.offset).run E.P w= .ok v' w∧VR r p.2 v':=by
 obtain⟨i,s1,h1,h2⟩:=bind_some h
 obtain⟨hi,rfl⟩:=A4 h1 he
 obtain⟨q,s2,h5,h6⟩:=bind_some h2
 obtain⟨v,s3,h9,h10⟩:=bind_some h6
 obtain⟨rfl,rfl⟩:=Al h10
 obtain⟨rfl,fs,fd,fi,hu,hfd,hfi,rfl⟩:=I3 he h5
 obtain⟨rfl,v',g1,g2⟩:=K2 (w:=w) he h9 hc
 exact⟨rfl,fs,fd,v',by rw[hi.run_und,hu],hfd,rfl,g1,g2⟩
theorem KE_ {w:World}{r:Inj}{s s':St}{st:FieldStep}{v:Value}{b:Bool}{p:Nat×Value×Bool}(he:EnvTy E)(h:DD E st v b s= .some p s'){pl:Place}(hp:PlR r b v pl)(t:Nat)(rest:List FieldStep):
  s=s'∧ ∃pl',(follow (st::rest) t pl).run E.P w=(follow rest p.1 pl').run E.P w∧PlR r p.2.2 p.2.1 pl':=by
 unfold DD at h
 generalize e:st.deref=dr at h
 match dr,b,h,hp with
 |true,false,h,hp=>
  obtain⟨a,s1,h1,h2⟩:=bind_some h
  obtain⟨rfl,rfl⟩:=Fm h1
  obtain⟨q,s2,h3,h4⟩:=bind_some h2
  obtain⟨rfl,rfl⟩:=Al h4
  cases pl with
  |var a'=>exact hp.elim
  |val v'=>
   obtain⟨a2,rfl,ha2⟩:=VR.ptr_inv hp
   obtain⟨rfl,fs,fd,a3,g1,g2,g3,g4,g5⟩:=SL (w:=w) he h3 ha2
   refine⟨rfl, .var a3, ?_,g5⟩
   show(follow (st::rest) t _).run E.P w=(follow rest q.1 _).run E.P w
   rw[g3]
   simp[follow,g1,g2,e,Place.get,asAddr,g4]
 |false,true,h,hp=>
  obtain⟨a,s1,h1,h2⟩:=bind_some h
  obtain⟨rfl,rfl⟩:=Fm h1
  obtain⟨q,s2,h3,h4⟩:=bind_some h2
  obtain⟨rfl,rfl⟩:=Al h4
  cases pl with
  |val v'=>exact hp.elim
  |var a2=>
   obtain⟨a',q1,ha2⟩:=hp
   cases q1
   obtain⟨rfl,fs,fd,a3,g1,g2,g3,g4,g5⟩:=SL (w:=w) he h3 ha2
   refine⟨rfl, .var a3, ?_,g5⟩
   show(follow (st::rest) t _).run E.P w=(follow rest q.1 _).run E.P w
   rw[g3]
   simp[follow,g1,g2,e,g4]
 |false,false,h,hp=>
  obtain⟨cs,s1,h1,h2⟩:=bind_some h
  obtain⟨⟨c,rfl,rfl⟩,rfl⟩:=SI h1
  obtain⟨q,s2,h3,h4⟩:=bind_some h2
  obtain⟨rfl,rfl⟩:=Al h4
  cases pl with
  |var a'=>exact hp.elim
  |val v'=>
   obtain⟨c',rfl,hc⟩:=VR.agg_inv hp
   obtain⟨rfl,fs,fd,v2,g1,g2,g3,g4,g5⟩:=Dp_ (w:=w) he h3 hc
   refine⟨rfl, .val v2, ?_,g5⟩
   show(follow (st::rest) t _).run E.P w=(follow rest q.1 _).run E.P w
   rw[g3]
   simp[follow,g1,g2,e,g4]
 |true,true,h,hp=>cases h
theorem Q9 {w:World}{r:Inj}(he:EnvTy E): ∀{l:List FieldStep} {t:Nat} {v:Value} {b:Bool} {pl:Place} {s s':St} {p:Nat×Value×Bool},GF E l t v b s= .some p s'→PlR r b v pl→
  s=s'∧ ∃pl',(follow l t pl).run E.P w= .ok (p.1,pl') w∧PlR r p.2.2 p.2.1 pl'
 |[],t,v,b,pl,s,s',p,h,hp=>by
  obtain⟨rfl,rfl⟩:=Al (show M.pure (t,v,b) s= .some p s' from h)
  exact⟨rfl,pl,by simp[follow],hp⟩
 |st::l,t,v,b,pl,s,s',p,h,hp=>by
  obtain⟨q,s1,h1,h2⟩:=bind_some (show M.bind (DD E st v b) (fun p=>GF E l p.1 p.2.1 p.2.2) s= .some p s' from h)
  obtain⟨rfl,pl1,g1,g2⟩:=KE_ (w:=w) he h1 hp t l
  obtain⟨rfl,pl2,g3,g4⟩:=Q9 (w:=w) he h2 g2
  exact⟨rfl,pl2,by rw[g1,g3],g4⟩
theorem Jh_ {w:World}{r:Inj}(he:EnvTy E){t n:Nat}{v v':Value}{name:String}{s s':St}{p:Nat×Value}(h:DS E t v name s= .some p s')(hv:VR r v v'):
  s=s'∧ ∃x,(method (n+1) t v' name).run E.P w= .ok (p.1,x) w∧VR r p.2 x:=by
 obtain⟨m,h1,h⟩:=Bu h
 obtain⟨fp,h2,h⟩:=Bu h
 obtain⟨q,s1,h3,h⟩:=bind_some h
 obtain⟨i,s2,h4,h⟩:=bind_some h
 obtain⟨hi,rfl⟩:=A4 h4 he
 obtain⟨h5,h6⟩:=Bg h
 obtain⟨rfl,rfl⟩:=Al h6
 obtain⟨rfl,pl,g1,g2⟩:=Q9 (w:=w) (r:=r) he h3 (pl:= .val v') hv
 obtain⟨info,h7,h8⟩:=CT (show onO (E.P.info? t) (fun i=>i.methods.toList.find? fun m=>m.name==name)=some m from h1)
 have h9:info.methods.find? (fun m=>m.name==name)=some m:=by rw[←Array.find?_toList];exact h8
 obtain⟨f,pr⟩:=fp
 have key: ∃x,(∀wr,(receiverAt q.1 pl pr wr).run E.P w= .ok x w)∧VR r q.2.1 x:=by
  have hu:=hi.run_und (w:=w)
  generalize i.u=u at h5 hu
  obtain⟨q1,q2,q3⟩:=q
  simp only at h5 hu g2 ⊢
  unfold VF at h5
  split at h5
  ·rename_i e
   rw[Bool.and_eq_true,Bool.not_eq_true']at h5
   obtain⟨h5a,h6a⟩:=h5
   subst h5a
   subst h6a
   cases pl with
   |var a=>exact g2.elim
   |val x=>exact⟨x,fun wr=>by simp[receiverAt,hu,Place.get],g2⟩
  ·rename_i hne
   have h5':=eq_of_beq h5
   subst h5'
   have hne2: ∀e,u≠ .pointer e:=fun e he=>hne e he
   cases pr with
   |true=>
    cases pl with
    |val x=>exact g2.elim
    |var a=>
     obtain⟨a1,rfl,ha⟩:=g2
     refine⟨.pointer (some a), ?_,ha.ptr⟩
     intro wr
     cases u<;>first|exact absurd rfl (hne2 _)|simp[receiverAt,hu]
   |false=>
    cases pl with
    |var a=>exact g2.elim
    |val x=>
     refine⟨x, ?_,g2⟩
     intro wr
     cases u<;>first|exact absurd rfl (hne2 _)|simp[receiverAt,hu,Place.get]
 obtain⟨x,k1,k2⟩:=key
 refine⟨rfl,x, ?_,k2⟩
 have hti:(typeInfo t).run E.P w= .ok info w:=by simp[typeInfo,program,Sem.run,h7]
 simp[method,hti,h9,g1,h2,k1]
theorem AM_ (he:EnvTy E){x:Operand}{name:String}{c:Call}(ho:o.op= .call c)(hc:c.callee= .invoke x name):OpS E o (Nf E ds x name c.args.toList) ds:=by
 obtain⟨g,h1,h2⟩:=Bo ds x
 obtain⟨g',h3,h4⟩:=CZ ds c.args.toList
 refine⟨fun call round rho tm=>M.on (g rho tm) fun f=>M.on (g' rho tm) fun l=>Jf E call name f l,by unfold Nf;simp only[h1,h3], ?_, ?_⟩
 ·intro call round hc1 hc2 rho tm
  refine Ao _ fun f=>Ao _ fun l=> ?_
  unfold Jf
  split
  ·exact Ae (DE_ _ _ _) fun p=>hc1.loc _ _
  ·exact Af
 ·intro call round hc1 hc2 w0 w r U rho tm b t dfs cs base s out s' hs hu hr hx hb hf e ops i rest k hoi hw
  have on': ∀{α β:Type} {y:Option α} {f:α→M β} {o:Out β} {s s':St},M.on y f s=rOf o s'→ ∃a,y=some a∧f a s=rOf o s':=by
   intro α β y f o s s' h
   cases y with
   |none=>exact(AU h).elim
   |some a=>exact⟨a,rfl,h⟩
  obtain⟨fv,e1,e⟩:=on' e
  obtain⟨l,e2,e⟩:=on' e
  have hfv:=h2 _ _ _ _ ⟨t,dfs⟩ _ hs (fun t q=>hu t (by simp[ho,Op.operands,Call.operands,hc]at q ⊢;simp[q])) e1
  have hl:VRs r l (c.args.toList.map (Act.eval ⟨t,dfs⟩)):=h4 _ _ _ _ ⟨t,dfs⟩ _ hs (fun t q=>hu t (by simp[ho,Op.operands,Call.operands]at q ⊢;simp[q])) e2
  have hmap:c.args.map (Act.eval ⟨t,dfs⟩)=(c.args.toList.map (Act.eval ⟨t,dfs⟩)).toArray:=by rw[←List.map_toArray]
  have hd: ∀c,o.op≠ .defer c:=by rw[ho];intro c h;cases h
  unfold Jf at e
  split at e
  ·rename_i ty v _
   have hbind: ∃p s1,DS E ty v name s= .some p s1∧call p.1 (p.2::l) s1=rOf out s':=by
    have e':(match DS E ty v name s with| .none=>R.none| .some p s1=>call p.1 (p.2::l) s1| .pan c s1=> .pan c s1)=rOf out s':=by
     rw[←e]
     unfold M.bind
     cases DS E ty v name s<;>rfl
    cases e3:DS E ty v name s with
    |none=>rw[e3]at e';exact(AU e').elim
    |some p s1=>rw[e3]at e';exact⟨p,s1,rfl,e'⟩
    |pan c s1=>exact((Y8 _ _ _).no _ _ _ e3).elim
   obtain⟨p,s1,e3,e4⟩:=hbind
   have inv: ∀{z:Value},VR r (.iface ty v) z→ ∃v',z= .iface ty v'∧VR r v v':=by
    intro z hz
    cases hz with
    |iface h=>exact⟨_,rfl,h⟩
   obtain⟨v',hrecv,hv⟩:=inv hfv
   ·skip
    have hfuel: ∀z:Nat,z+Made.depth=(z+99)+1:=fun z=>rfl
    obtain⟨rfl,rv,m1,m2⟩:=Jh_ (w:=w) (n:=E.P.types.size+99) he e3 hv
    have hm: ∀(args:Array Value),(callMethod (.iface ty v') name args).run E.P w=(callFunc p.1 (#[rv]++args)).run E.P w:=by
     intro args
     unfold callMethod
     simp only[Sem.run_bind,run_program,Result.andThen_ok]
     rw[hfuel,m1]
     simp only[Result.andThen_ok]
    have e1:(#[rv]++c.args.map (Act.eval ⟨t,dfs⟩))=(rv::c.args.toList.map (Act.eval ⟨t,dfs⟩)).toArray:=by
     rw[hmap];simp
    have hexec:(execOp (Act.eval ⟨t,dfs⟩) o).run E.P w=(callFunc p.1 (rv::c.args.toList.map (Act.eval ⟨t,dfs⟩)).toArray).run E.P w:=by
     rw[←e1,←hm]
     simp only[execOp,ho,resolve,hc,hrecv]
     have hz: ∀(y:Value) (l:Array Value),(#[y]++l)[0]?=some y:=fun y l=>(Array.getElem?_append_left (by simp)).trans rfl
     have hz2: ∀(y:Value) (l:Array Value),(#[y]++l).extract 1 (#[y]++l).size=l:=fun y l=>by
      simp[Array.extract_append]
     simp only[invoke,Sem.run_bind,Sem.run_pure,Result.andThen_ok,hz,hz2]
    rcases hc1.ok e4 hr hb hf (args':=rv::c.args.toList.map (Act.eval ⟨t,dfs⟩)) (.cons m2 hl)with⟨k1,k2⟩|⟨_,v,v',w',r',rfl,g1,g2,g3,g4,g5⟩
    case inr=>
     refine⟨w',r',dfs,cs,g2,by rw[g4];exact hx.mono g2.le,g3,v',g1, .one (step_lone_go ?_)⟩
     rw[Dr hoi hw (.inr hd),←C7 b t dfs hoi]
     rw[g5]at hexec
     simp[stepG.apply,hexec]
    obtain⟨w',r',g1,g2,g3,g4⟩:=k2 (frm b t dfs (.inRegion ops (i::rest)::k)) cs
    have henter:step E.P (lone (frm b t dfs (.inRegion ops (i::rest)::k)) cs w)=
      .next (lone (Frame.enter E.P p.1 (rv::c.args.toList.map (Act.eval ⟨t,dfs⟩)).toArray .normal) (frm b t dfs (.inRegion ops (i::rest)::k)::cs) w):=by
     refine step_lone_go ?_
     rw[Dr hoi hw (.inr hd)]
     rw[k1]at hexec
     simp[stepG.apply,hexec,frm]
    refine⟨w',r',dfs,cs,g1,by rw[g3];exact hx.mono g1.le,g2, ?_⟩
    unfold Ends at g4
    cases out with
    |inl v=>
     obtain⟨v',p1,p2⟩:=g4
     rw[C7 b t dfs hoi]at p2
     exact⟨v',p1, .head henter p2⟩
    |inr ch=>
     obtain⟨ch',p1,p2⟩:=g4
     exact⟨ch',_,p1, .head henter p2⟩
  ·exact(AU e).elim
end
section
variable {E:Env}{ds:List Nat}{o:Oper}
theorem Dq {α:Type}{g:Option α}{f:α→M Value}(h: ∀a,Loc (f a)):Loc (fun s=>Option.rec (motive:=fun _=>R Value) .none (fun a=>f a s) g):=by
 cases g with
 |none=>exact QN
 |some a=>exact h a
theorem EK_ {α:Type}{x:Option α}{f:α→St→R Value}{s s':St}{out:Out Value}(h:Option.rec (motive:=fun _=>R Value) .none (fun a=>f a s) x=rOf out s'): ∃a,x=some a∧f a s=rOf out s':=by
 cases x with
 |none=>exact(AU h).elim
 |some a=>exact⟨a,rfl,h⟩
theorem GV_ {α:Type}{b:Bool}{m:M α}{o:Out α}{s s':St}(h:M.chk b m s=rOf o s'):b=true∧m s=rOf o s':=by
 cases b with
 |false=>exact(AU h).elim
 |true=>exact⟨rfl,h⟩
theorem F5 {α β:Type}{y:Option α}{f:α→M β}{o:Out β}{s s':St}(h:M.on y f s=rOf o s'): ∃a,y=some a∧f a s=rOf o s':=by
 cases y with
 |none=>exact(AU h).elim
 |some a=>exact⟨a,rfl,h⟩
theorem BB {α β:Type}{m:M α}{f:α→M β}{o:Out β}{s s':St}(h:M.bind m f s=rOf o s'):(∃a s1,m s= .some a s1∧f a s1=rOf o s')∨ ∃c,m s= .pan c s'∧o= .inr c:=by
 unfold M.bind at h
 cases e:m s with
 |none=>rw[e]at h;exact(AU h).elim
 |some a s1=>rw[e]at h;exact .inl ⟨a,s1,rfl,h⟩
 |pan c s1=>
  rw[e]at h
  obtain⟨rfl,rfl⟩:=Ge h
  exact .inr ⟨c,rfl,rfl⟩
theorem Ot {β:Type}{f:Ctx→M β}{s:St}:M.bind getCx f s=f s.cx s:=rfl
theorem BH_ {β:Type}{x:Ctx}{f:Unit→M β}{s:St}:M.bind (putCx x) f s=f () ⟨s.mem,s.next,s.lim,s.rd,s.wr,x⟩:=rfl
theorem IO_ {x:Operand}(ho:o.op= .panic x):OpS E o (Be ds x Rr) ds:=by
 obtain⟨g,h1,h2⟩:=Bo ds x
 refine⟨_,by unfold Be;rw[h1],fun call round _ _ rho tm=>Dq fun a=> ?_, ?_⟩
 ·cases a<;>first|exact K9 _|exact Af
 ·intro call round hc1 hc2 w0 w r U rho tm b t dfs cs base s out s' hs hu hr hx hb hf e ops i rest k hoi hw
  obtain⟨v,e1,e⟩:=EK_ e
  have hv:VR r v (Act.eval ⟨t,dfs⟩ x):=h2 _ _ _ _ ⟨t,dfs⟩ _ hs (fun t q=>hu t (by simp[ho,Op.operands]at q ⊢;simp[q])) e1
  have hd: ∀c,o.op≠ .defer c:=by rw[ho];intro c h;cases h
  cases v with
  |iface ty y=>
   obtain⟨rfl,rfl⟩:=Ge (show R.pan [{v:= .iface ty y,recovered:=false}] s=rOf out s' from e)
   cases hv':Act.eval ⟨t,dfs⟩ x with
   |iface ty' y'=>
    rw[hv']at hv
    refine⟨w,r,dfs,cs, .of_rel rfl hr,hx,rfl,[{v:= .iface ty' y',recovered:=false}], .inRegion ops (i::rest)::k, .cons hv rfl rfl .nil, .one (step_lone_go ?_)⟩
    rw[Dr hoi hw (.inr hd)]
    simp only[execOp,ho,hv']
    rw[←EX_]
    simp[stepG.apply,Instr.panic,goPanic,Sem.run]
   |_=>rw[hv']at hv;cases hv
  |_=>exact(AU e).elim
theorem Cw_ {c:Call}(ho:o.op= .call c)(hc:c.callee= .builtin .recover):OpS E o (.mk fun _ _ _ _=>Gp) ds:=by
 refine⟨_,rfl,fun _ _ _ _ _ _=>Gh_, ?_⟩
 intro call round hc1 hc2 w0 w r U rho tm b t dfs cs base s out s' hs hu hr hx hb hf e ops i rest k hoi hw
 have hd: ∀c,o.op≠ .defer c:=by rw[ho];intro c h;cases h
 have hrun:(execOp (Act.eval ⟨t,dfs⟩) o).run E.P w= .ok .recover w:=by
  simp[execOp,ho,resolve,hc,invoke,builtin]
 have key: ∀{v v':Value} {cs':List Frame},b.roundOf=none→((tryRecover (frm b t dfs (.inRegion ops (i::rest)::k)) cs=some (v',cs'))∨(tryRecover (frm b t dfs (.inRegion ops (i::rest)::k)) cs=none∧v'= .nilIface∧cs'=cs))→
   step E.P (lone (frm b t dfs (.inRegion ops (i::rest)::k)) cs w)= .next (lone (frm b (putT t o.dst v') dfs (.inRegion ops rest::k)) cs' w):=by
  intro v v' cs' hro htr
  refine step_lone_go ?_
  rw[Dr hoi hw (.inr hd),←C7 b t dfs hoi]
  have hro':(frm b t dfs (.inRegion ops (i::rest)::k)).roundOf=none:=hro
  rcases htr with htr|⟨htr,rfl,rfl⟩<;>simp[stepG.apply,hrun,hro',htr]
 unfold Gp at e
 rw[Ot]at e
 have fin:(∃m d,s.cx= .cx (some m) (some d))∨(∃d,s.cx= .cx none (some d)):=by
  cases hcx:s.cx with
  |no=>rw[hcx]at e;exact(AU e).elim
  |cx up d=>
   cases d with
   |none=>rw[hcx]at e;cases up<;>exact(AU e).elim
   |some d=>cases up with
    |none=>exact .inr ⟨d,rfl⟩
    |some m=>exact .inl ⟨m,d,rfl⟩
 rcases fin with⟨m,d,hcx⟩|⟨d,hcx⟩
 ·rw[hcx]at hx e
  unfold CxR at hx
  obtain⟨⟨q1,c0,rest0,m',q2,q3,q4⟩,q5,q6⟩:=hx
  have htry:=tryRecover_deferred (fr:=frm b t dfs (.inRegion ops (i::rest)::k)) q1 cs
  cases hrm:recM m with
  |none=>
   replace e:Option.rec (motive:=fun _=>M Value) (M.pure .nilIface) (fun p=>M.bind (putCx (.cx (some p.2) (some d))) fun _=>M.pure p.1) (recM m) s=rOf out s':=e
   rw[hrm]at e
   obtain⟨rfl,rfl⟩:=Bd (show R.some .nilIface s=rOf out s' from e)
   refine⟨w,r,dfs,cs, .of_rel rfl hr, ?_,rfl, .nilIface, .nilIface, .one (key (v:= .nilIface) q5 (.inr ⟨?_,rfl,rfl⟩))⟩
   ·rw[hcx];exact⟨⟨q1,c0,rest0,m',q2,q3,q4⟩,q5,q6⟩
   ·rw[htry,q3]
    cases q4 with
    |run=>rfl
    |ret=>rfl
    |pan hch=>
     cases hch with
     |nil=>rfl
     | @cons e0 e1 l0 l1 p1 p2 p3 p4=>
      obtain⟨ev,er,eg⟩:=e0
      obtain⟨ev',er',eg'⟩:=e1
      simp only at p1 p2 p3
      subst p2
      subst p3
      cases er'<;>cases eg'<;>first|rfl|(simp[recM]at hrm)
  |some p=>
   replace e:Option.rec (motive:=fun _=>M Value) (M.pure .nilIface) (fun p=>M.bind (putCx (.cx (some p.2) (some d))) fun _=>M.pure p.1) (recM m) s=rOf out s':=e
   rw[hrm]at e
   obtain⟨pv,pm⟩:=p
   obtain⟨rfl,rfl⟩:=Bd (show R.some pv ⟨s.mem,s.next,s.lim,s.rd,s.wr, .cx (some pm) (some d)⟩=rOf out s' from e)
   unfold recM at hrm
   split at hrm
   ·rename_i v older
    simp only[Option.some.injEq,Prod.mk.injEq]at hrm
    obtain⟨rfl,rfl⟩:=hrm
    cases q4 with
    |pan hch=>
     cases hch with
     | @cons _ e1 _ l1 p1 p2 p3 p4=>
      obtain⟨ev,er,eg⟩:=e1
      simp only at p1 p2 p3
      subst p2
      subst p3
      refine⟨w,r,dfs,{c0 with mode:= .panicking ({v:=ev,recovered:=true}::l1)}::rest0, .of_rel rfl hr, ?_,rfl,ev,p1, .one (key (v:=v) q5 (.inl ?_))⟩
      ·exact⟨⟨q1,c0,rest0,_,q2,rfl, .pan (.cons p1 rfl rfl p4)⟩,q5,q6⟩
      ·rw[htry,q3];rfl
   ·cases hrm
 ·rw[hcx]at hx e
  unfold CxR at hx
  obtain⟨⟨q1,q2⟩,q5,q6⟩:=hx
  obtain⟨rfl,rfl⟩:=Bd (show R.some .nilIface s=rOf out s' from e)
  refine⟨w,r,dfs,cs, .of_rel rfl hr, ?_,rfl, .nilIface, .nilIface, .one (key (v:= .nilIface) q5 (.inr ⟨?_,rfl,rfl⟩))⟩
  ·rw[hcx];exact⟨⟨q1,q2⟩,q5,q6⟩
  ·have hk:(frm b t dfs (.inRegion ops (i::rest)::k)).kind= .normal:=q1
   unfold tryRecover
   rw[hk]
theorem EN_ {x:Operand}{c:Call}(ho:o.op= .defer c)(hc:c.callee= .value x):OpS E o (Ic ds c) ds:=by
 obtain⟨g,h1,h2⟩:=Bo ds x
 obtain⟨g',h3,h4⟩:=CZ ds c.args.toList
 refine⟨fun call round rho tm=>M.on (g rho tm) fun f=>M.on (g' rho tm) fun l=>Hr f l,by unfold Ic;simp only[hc,h1,h3], ?_, ?_⟩
 ·intro call round _ _ rho tm
  exact Ao _ fun f=>Ao _ fun l=>KU_ _ _
 ·intro call round hc1 hc2 w0 w r U rho tm b t dfs cs base s out s' hs hu hr hx hb hf e ops i rest k hoi hw
  obtain⟨fv,e1,e⟩:=F5 e
  obtain⟨l,e2,e⟩:=F5 e
  have hfv:=h2 _ _ _ _ ⟨t,dfs⟩ _ hs (fun t q=>hu t (by simp[ho,Op.operands,Call.operands,hc]at q ⊢;simp[q])) e1
  have hl:VRs r l (c.args.toList.map (Act.eval ⟨t,dfs⟩)):=h4 _ _ _ _ ⟨t,dfs⟩ _ hs (fun t q=>hu t (by simp[ho,Op.operands,Call.operands]at q ⊢;simp[q])) e2
  have hmap:c.args.map (Act.eval ⟨t,dfs⟩)=(c.args.toList.map (Act.eval ⟨t,dfs⟩)).toArray:=by rw[←List.map_toArray]
  unfold Hr at e
  rw[Ot]at e
  have fin: ∃up d fn first cap,s.cx= .cx up (some d)∧fv= .func fn first cap:=by
   cases hcx:s.cx with
   |no=>rw[hcx]at e;cases fv<;>exact(AU e).elim
   |cx up d=>
    cases d with
    |none=>rw[hcx]at e;cases fv<;>exact(AU e).elim
    |some d=>cases fv with
     |func fn first cap=>exact⟨up,d,fn,first,cap,rfl,rfl⟩
     |_=>rw[hcx]at e;exact(AU e).elim
  obtain⟨up,d,fn,first,cap,hcx,rfl⟩:=fin
  ·rw[hcx]at e
   obtain⟨f',a',c',q1,q2,q3,q4⟩:=hfv.func_inv
   obtain⟨rfl,rfl⟩:=Bd (show R.some undef ⟨s.mem,s.next,s.lim,s.rd,s.wr, .cx up (some ({target:= .fn fn cap,args:=first++l.toArray}::d))⟩=rOf out s' from e)
   rw[hcx]at hx
   unfold CxR at hx
   obtain⟨p1,p2,p3⟩:=hx
   refine⟨w,r,{target:= .fn f' c',args:=a'++c.args.map (Act.eval ⟨t,dfs⟩)}::dfs,cs, .of_rel rfl hr,⟨p1,p2, .cons (.fn q2 q4 ?_) p3⟩,rfl,undef, .undef, .one (step_lone_go ?_)⟩
   ·rw[hmap];simpa using q3.append hl
   ·rw[Dr hoi hw (.inl p2)]
    simp only[execOp,ho,G5 _ hc q1]
    rw[←C7 b t _ hoi]
    simp[stepG.apply,frm]
theorem Uz {k:Int→Int→St→R Value}{slow:Value→Value→M Value}(hk: ∀a b,Loc (k a b))(hs: ∀x y,Loc (slow x y))(x y:Value):Loc (int2 k slow x y):=by
 unfold int2 BZ
 cases x
 case int k1 a=>
  cases y
  case int k2 b=>
   cases h1:Dk k1 with
   |false=>simp only[h1];exact hs _ _
   |true=>
    cases h2:Dk k2 with
    |false=>simp only[h1,h2];exact hs _ _
    |true=>simp only[h1,h2];exact hk a b
  all_goals exact hs _ _
 all_goals exact hs _ _
theorem LU {k:BY}{slow:Value→Value→M Value}(hs: ∀x y,Loc (slow x y))(x y:Value):Loc (int3 k slow x y):=by
 unfold int3 BZ
 cases x
 case int k1 a=>
  cases y
  case int k2 b=>
   cases a with
   |negSucc m=>exact hs _ _
   |ofNat m=>
    cases b with
    |negSucc n=>exact hs _ _
    |ofNat n=>
     simp only
     cases k k1 k2 m n with
     |none=>exact hs _ _
     |some u=>exact Ah _
  all_goals exact hs _ _
 all_goals exact hs _ _
theorem FM_ {op:BinOp}{t:Nat}{x y:Operand}{f:Value→Value→M Value}(h:aBin E op t x y= .mk f): ∀a b,Loc (f a b):=by
 have slow: ∀op a b,Loc (Bi E op t x y a b):=fun op a b=>Il_ _ _ _ _ _ _ _
 have rI': ∀n,Loc (rI n):=fun n=>by
  have:rI n=(M.pure (.int .i64 (wrap64 n)):M Value):=by funext s;unfold rI;rw[B0];rfl
  rw[this];exact Ah _
 have rB': ∀b,Loc (rB b):=fun b=>by cases b<;>exact Ah _
 intro a b
 cases op<;>cases h<;>first|exact slow _ _ _|exact LU (slow _) _ _|exact Uz (fun a b=>rI' _) (LU (slow _)) _ _|exact Uz (fun a b=>rB' _) (LU (slow _)) _ _
theorem OM {x:Operand}: ∀f,DW ds x= .mk f→ ∀call round rho tm,Loc (f call round rho tm):=by
 obtain⟨g,h1,_⟩:=Bo ds x
 intro f h
 unfold DW at h
 rw[h1]at h
 cases h
 exact fun _ _ _ _=>Dq (f:=fun a=>M.pure a) fun a=>Ah a
theorem B9 {x:Operand}{k:Value→M Value}(hk: ∀a,Loc (k a)): ∀f,Be ds x k= .mk f→ ∀call round rho tm,Loc (f call round rho tm):=by
 obtain⟨g,h1,_⟩:=Bo ds x
 intro f h
 unfold Be at h
 rw[h1]at h
 cases h
 exact fun _ _ _ _=>Dq hk
theorem D9 {x y:Operand}{k:Value→Value→M Value}(hk: ∀a b,Loc (k a b)): ∀f,BO ds x y k= .mk f→ ∀call round rho tm,Loc (f call round rho tm):=by
 obtain⟨g,h1,_⟩:=Bo ds x
 obtain⟨g',h2,_⟩:=Bo ds y
 intro f h
 unfold BO at h
 rw[h1,h2]at h
 cases h
 exact fun _ _ rho tm=>Dq (f:=fun a s=>Option.rec (motive:=fun _=>R Value) .none (fun b=>k a b s) (g' rho tm)) fun a=>Dq (hk a)
theorem Ad_ {l:List Operand}{k:List Value→M Value}(hk: ∀a,Loc (k a)): ∀f,FJ ds l k= .mk f→ ∀call round rho tm,Loc (f call round rho tm):=by
 obtain⟨g,h1,_⟩:=CZ ds l
 intro f h
 unfold FJ at h
 rw[h1]at h
 cases h
 exact fun _ _ _ _=>Dq hk
theorem KI_ {l l':List Operand}{k:List Value→List Value→M Value}(hk: ∀a b,Loc (k a b)): ∀f,Gd ds l l' k= .mk f→ ∀call round rho tm,Loc (f call round rho tm):=by
 obtain⟨g,h1,_⟩:=CZ ds l
 obtain⟨g',h2,_⟩:=CZ ds l'
 intro f h
 unfold Gd at h
 rw[h1,h2]at h
 cases h
 exact fun _ _ rho tm=>Dq (f:=fun a s=>Option.rec (motive:=fun _=>R Value) .none (fun b=>k a b s) (g' rho tm)) fun a=>Dq (hk a)
theorem UW {l:List (Nat×Operand)}{k:List (Nat×Value)→M Value}(hk: ∀a,Loc (k a)): ∀f,DB ds l k= .mk f→ ∀call round rho tm,Loc (f call round rho tm):=by
 obtain⟨g,h1,_⟩:=Mg ds l
 intro f h
 unfold DB at h
 rw[h1]at h
 cases h
 exact fun _ _ _ _=>Dq hk
theorem I2 {x y z:Operand}{k:Value→Value→Value→M Value}(hk: ∀a b c,Loc (k a b c)): ∀f,Cg ds x y z k= .mk f→ ∀call round rho tm,Loc (f call round rho tm):=by
 obtain⟨g,h1,_⟩:=Bo ds x
 obtain⟨g',h2,_⟩:=Bo ds y
 obtain⟨g2,h3,_⟩:=Bo ds z
 intro f h
 unfold Cg at h
 rw[h1,h2,h3]at h
 cases h
 exact fun _ _ rho tm=>Ao _ fun a=>Ao _ fun b=>Ao _ fun c=>hk a b c
theorem KS_ {t:Nat}{x:Operand}{lo hi mx:Option Operand}: ∀f,G3 E ds t x lo hi mx= .mk f→ ∀call round rho tm,Loc (f call round rho tm):=by
 cases mx with
 |some m=>intro f h;cases h;exact fun _ _ _ _=>Af
 |none=>
  obtain⟨g,h1,_⟩:=Bo ds x
  obtain⟨g',h2,_⟩:=KM ds lo
  obtain⟨g2,h3,_⟩:=KM ds hi
  intro f h
  unfold G3 Oo at h
  simp only[h1,h2,h3]at h
  cases h
  exact fun _ _ rho tm=>Ao _ fun a=>Ao _ fun b=>Ao _ fun c=>Ir_ _ _ _ _ _
theorem Sz:OpS E o Iu ds:=⟨_,rfl,fun _ _ _ _ _ _=>Af,fun _call _round _ _ _w0 _w _r _U _rho _tm _b _t _dfs _cs _base _s _out _s' _hs _hu _hr _hx _hb _hf e=>(AU e).elim⟩
theorem Xe (he:EnvTy E)(o:Oper)(ds:List Nat):OpS E o (CY E ds o.op) ds:=by
 have nd: ∀{p:Op},o.op=p→(∀c,p≠ .defer c)→ ∀c,o.op≠ .defer c:=fun h k c=>by rw[h];exact k c
 generalize hop:o.op=op
 unfold CY
 split
 ·exact .ofV (II_ hop) (nd hop (by intro c h;cases h)) OM
 ·exact .ofV (Ej_ hop) (nd hop (by intro c h;cases h)) OM
 ·exact .ofV (Ar_ hop) (nd hop (by intro c h;cases h)) (I2 Bv_)
 ·exact .ofV (Xj hop he) (nd hop (by intro c h;cases h)) (by intro f h;cases h;exact fun _ _ _ _=>WR _ _)
 ·exact .ofV (Ba_ hop) (nd hop (by intro c h;cases h)) (B9 KD_)
 ·exact .ofV (As_ hop he) (nd hop (by intro c h;cases h)) (UW fun a=>XR _ _ _)
 ·exact .ofV (FZ_ hop he) (nd hop (by intro c h;cases h)) (UW fun a=>WB _ _ _ _)
 ·exact .ofV (Xi hop he) (nd hop (by intro c h;cases h)) (B9 fun a=>Gp_ _ _ _)
 ·exact .ofV (Fj_ hop he) (nd hop (by intro c h;cases h)) (D9 fun a b=>YW _ _ _ _)
 ·exact .ofV (Xr hop) (nd hop (by intro c h;cases h)) (B9 FC_)
 ·refine .ofV (GC_ hop he) (nd hop (by intro c h;cases h)) ?_
  rename_i op t x y yt
  generalize hc:aBin E op t x y=c
  obtain⟨f⟩:=c
  exact D9 (FM_ hc)
 ·exact .ofV (Lo_ hop) (nd hop (by intro c h;cases h)) (B9 fun a=>Df_ _ _ _)
 ·exact .ofV (CY_ hop he) (nd hop (by intro c h;cases h)) (B9 fun a=>Kn_ _ _ _ _)
 ·exact .ofV (Wx hop he) (nd hop (by intro c h;cases h)) (B9 fun a=>CK_ _ _ _)
 ·exact .ofV (Yk hop he) (nd hop (by intro c h;cases h)) (B9 fun a=>KF_ _ _ _)
 ·exact .ofV (BR_ hop) (nd hop (by intro c h;cases h)) (KI_ fun a b=>Ah _)
 ·exact .ofV (Jl_ hop he) (nd hop (by intro c h;cases h)) (D9 fun a b=>Ak_ _ _ _ _)
 ·exact .ofV (Xz hop he) (nd hop (by intro c h;cases h)) KS_
 ·exact .ofV (GO_ hop he) (nd hop (by intro c h;cases h)) (B9 fun a=>LC_ _ _ _ _)
 ·exact .ofV (Ko_ hop he) (nd hop (by intro c h;cases h)) (B9 fun a=>MI_ _ _ _ _)
 ·exact .ofV (Cq_ hop he) (nd hop (by intro c h;cases h)) (D9 fun a b=>Ku_ _ _ _ _)
 ·exact .ofV (XF hop he) (nd hop (by intro c h;cases h)) (D9 fun a b=>Jk_ _ _ _ _)
 ·exact .ofV (IJ_ hop) (nd hop (by intro c h;cases h)) (B9 fun a=>Hr_ _ _)
 ·rename_i c
  cases hc:c.callee with
  |value f=>unfold EQ;simp only[hc];exact Kf_ hop hc
  |invoke a b=>unfold EQ;simp only[hc];exact AM_ he hop hc
  |builtin bi=>
   by_cases hbr:bi= .recover
   ·subst hbr;unfold EQ;simp only[hc];exact Cw_ hop hc
   ·have:EQ E ds c=FJ ds c.args.toList (A6 E bi c.argTypes.toList):=by
     unfold EQ
     rw[hc]
     cases bi<;>first|rfl|exact absurd rfl hbr
    rw[this]
    exact .ofV (AP_ hop hc hbr he) (nd hop (by intro c h;cases h)) (Ad_ fun a=>W8 _ _ _ _)
 ·exact IO_ hop
 ·rename_i c
  cases hc:c.callee with
  |value f=>exact EN_ hop hc
  |_=>unfold Ic;simp only[hc];exact Sz
 ·exact .ofV (Dg_ hop he) (nd hop (by intro c h;cases h)) (B9 fun a=>LT_ _ _ _ _)
 ·exact .ofV (LL_ hop he) (nd hop (by intro c h;cases h)) (B9 fun a=>AK_ _ _ _)
 ·exact .ofV (ZP hop) (nd hop (by intro c h;cases h)) (B9 fun a=>EU_ _)
 ·exact .ofV (Dr_ hop) (nd hop (by intro c h;cases h)) (by intro f h;cases h;exact fun _ _ _ _=>SS)
 ·exact .ofV (Hm_ hop he) (nd hop (by intro c h;cases h)) (B9 fun a=>LZ_ _ _ _)
 ·exact .ofV (YX hop he) (nd hop (by intro c h;cases h)) (D9 fun a b=>AG_ _ _ _ _ _)
 ·exact .ofV (CJ_ hop he) (nd hop (by intro c h;cases h)) (I2 fun a b c=>Pe _ _ _ _ _)
 ·exact .ofV (JM_ hop he) (nd hop (by intro c h;cases h)) (I2 fun a b c=>Pe _ _ _ _ _)
 ·exact .ofV (Ch_ hop he) (nd hop (by intro c h;cases h)) (D9 fun a b=>KG_ _ _ _ _)
 ·exact .ofV (Dz_ hop) (nd hop (by intro c h;cases h)) (I2 fun a b c=>Jb_ _ _ _)
 ·exact Sz
end
end Go.Proofs.Ytjfhmacppabehaa.Am
