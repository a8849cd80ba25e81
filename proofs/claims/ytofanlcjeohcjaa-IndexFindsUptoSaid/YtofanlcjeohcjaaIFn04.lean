import Derived.Test.YtofanlcjeohcjaaIFn03
import Derived.Recover
namespace Go.Proofs.Ytofanlcjeohcjaa.Am
open Go.RowKit
section
variable {E:Env}{ds:List Nat}{o:Oper}
theorem Yx {x:Operand}(ho:o.op= .move x):OpV E o (Ek ds x) ds:=PC (by simp[ho,Op.operands]) fun a=>by simp only[execOp,ho]
theorem BQ_ {x:Operand}(ho:o.op= .assign x):OpV E o (Ek ds x) ds:=PC (by simp[ho,Op.operands]) fun a=>by simp only[execOp,ho]
theorem HK_ {e:Nat}(ho:o.op= .alloc e)(he:EnvTy E):OpV E o (.mk fun _ _ _ _=>BY E e) ds:=by
 refine⟨_,rfl,fun _ _ _ _=>HG_ _ _, ?_⟩
 intro call round w0 w r U rho tm a s v s' hs hu hr h hf
 exact(GF_ he h hr hf).val (by simp only[execOp,ho];rfl)
theorem Gx_ {e:Nat}{x:Operand}(ho:o.op= .box e x):OpV E o (Bo ds x kBox) ds:=
 CH (m:=Instr.box e) (by simp[ho,Op.operands]) (fun a=>by simp only[execOp,ho];rfl) VZ fun h hr hf hx=>Yb h hr hf hx
theorem YE {t:Nat}{ps:Array (Nat×Operand)}(ho:o.op= .build t ps)(he:EnvTy E):OpV E o (D2 ds ps.toList (CI E t)) ds:=
 Qn (m:=fun l=>Instr.build t l.toArray) (by simp[ho,Op.operands]) (fun a=>by simp only[execOp,ho];rw[←List.map_toArray];rfl) (GJ_ _ _) fun h hr hf hx=>CI_ he h hr (by simpa using hx)
theorem BE_ {t n:Nat}{ps:Array (Nat×Operand)}(ho:o.op= .buildSlice t n ps)(he:EnvTy E):OpV E o (D2 ds ps.toList (Cs E t n)) ds:=
 Qn (m:=fun l=>Instr.buildSlice t n l.toArray) (by simp[ho,Op.operands]) (fun a=>by simp only[execOp,ho];rw[←List.map_toArray];rfl) (Zx _ _ _) fun h hr hf hx=>Hh_ he h hr hf (by simpa using hx)
theorem Fq_ {t:Nat}{x:Operand}(ho:o.op= .load t x)(he:EnvTy E):OpV E o (Bo ds x (A4 E t)) ds:=
 CH (m:=Instr.loadAt t) (by simp[ho,Op.operands]) (fun a=>by simp only[execOp,ho];rfl) (YF _ _) fun h hr hf hx=>Cf_ he h hr hx
theorem Wn {t:Nat}{x y:Operand}(ho:o.op= .store t x y)(he:EnvTy E):OpV E o (B4 ds x y (BH E t)) ds:=by
 obtain⟨g,h1,h2⟩:=Bz ds x
 obtain⟨g',h3,h4⟩:=Bz ds y
 refine⟨_,by unfold B4;rw[h1,h3],fun _ _ rho tm=>CY (g:=g rho tm) (f:=fun a s=>Option.rec (motive:=fun _=>R Value) .none (fun b=>BH E t a b s) (g' rho tm)) fun a=>CY (Dq_ _ _ a), ?_⟩
 intro call round w0 w r U rho tm a s v s' hs hu hr h hf
 obtain⟨y,e1,e2⟩:=C4 (f:=fun a s=>Option.rec (motive:=fun _=>R Value) .none (fun b=>BH E t a b s) (g' rho tm)) h
 obtain⟨z,e3,e4⟩:=C4 e2
 obtain⟨rfl,w',k1,k2,k3,k4,k5⟩:=Bj_ he e4 hr (h2 _ _ _ _ _ _ hs (fun t q=>hu t (by simp[ho,Op.operands]at q ⊢;simp[q])) e1) (h4 _ _ _ _ _ _ hs (fun t q=>hu t (by simp[ho,Op.operands]at q ⊢;simp[q])) e3)
 refine⟨undef,w',r, .inr ⟨?_,rfl⟩, .of_rel k3 k2, .tuple rfl (fun i v v' e=>by simp at e),k4,k5⟩
 simp[execOp,ho,k1]
theorem Eg_ {x:Operand}(ho:o.op= .nilCheck x):OpV E o (Bo ds x kNil) ds:=by
 obtain⟨g,h1,h2⟩:=Bz ds x
 refine⟨_,by unfold Bo;rw[h1],fun _ _ rho tm=>CY (g:=g rho tm) JV_, ?_⟩
 intro call round w0 w r U rho tm a s v s' hs hu hr h hf
 obtain⟨y,e1,e2⟩:=C4 h
 have hx:=h2 _ _ _ _ _ _ hs (fun t q=>hu t (by simp[ho,Op.operands]at q ⊢;simp[q])) e1
 obtain⟨rfl,rfl,e3⟩:=Ak_ (P:=E.P) (w:=w) (a:=a) ho rfl e2 hx
 exact⟨_,w,r, .inl e3, .of_rel rfl hr,hx,rfl,rfl⟩
theorem BN_ {op:BinOp}{t yt:Nat}{x y:Operand}(ho:o.op= .binOp op t x y yt)(he:EnvTy E):OpV E o (Cl.rec (motive:=fun _=>Cl OpT) (fun f=>B4 ds x y f) (aBin E op t x y)) ds:=by
 generalize hc:aBin E op t x y=c
 obtain⟨f⟩:=c
 refine Gy (m:=fun y' z'=>do eqGuard op t x y y' z';binOp op t y' z') (by simp[ho,Op.operands]) (fun a=>by simp only[execOp,ho];rfl) (fun y' z'=> ?_) fun h hr hf hx hy=>FK_ hc he h hr hx hy
 have slow: ∀op,NoPan (Bm E op t x y y' z'):=fun op=>GX_ _ _ _ _ _ _ _
 have fast3: ∀(k:Cf) op,NoPan (int3 k (Bm E op t x y) y' z'):=fun k op=>⟨fun s c s' e=>by
  unfold int3 Cn at e
  cases y'<;>simp only at e
  case int k1 a=>
   cases z'<;>simp only at e
   case int k2 b=>
    cases a with
    |negSucc m=>exact(slow op).no _ _ _ e
    |ofNat m=>
     cases b with
     |negSucc m=>exact(slow op).no _ _ _ e
     |ofNat n=>
      simp only at e
      cases e1:k k1 k2 m n with
      |none=>rw[e1]at e;exact(slow op).no _ _ _ e
      |some u=>rw[e1]at e;cases e
   all_goals exact(slow op).no _ _ _ e
  all_goals exact(slow op).no _ _ _ e⟩
 have fast2: ∀(k:Int→Int→St→R Value) (k3:Cf) op,(∀a b,NoPan (k a b))→NoPan (int2 k (int3 k3 (Bm E op t x y)) y' z'):=fun k k3 op hk=>⟨fun s c s' e=>by
  have f3:=fast3 k3 op
  unfold int2 Cn at e
  cases y'<;>simp only at e
  case int k1 a=>
   cases z'<;>simp only at e
   case int k2 b=>
    cases e1:DD k1 with
    |false=>rw[e1]at e;exact f3.no _ _ _ e
    |true=>
     cases e2:DD k2 with
     |false=>rw[e1,e2]at e;exact f3.no _ _ _ e
     |true=>rw[e1,e2]at e;exact(hk a b).no _ _ _ e
   all_goals exact f3.no _ _ _ e
  all_goals exact f3.no _ _ _ e⟩
 have rI': ∀n,NoPan (rI n):=fun n=>⟨fun s c s' e=>by unfold rI at e;rw[D9]at e;cases e⟩
 have rB': ∀b,NoPan (rB b):=fun b=>⟨fun s c s' e=>by cases b<;>cases e⟩
 cases op<;>cases hc<;>first|exact slow _|exact fast3 _ _|exact fast2 _ _ _ fun a b=>rI' _|exact fast2 _ _ _ fun a b=>rB' _
theorem FH_ {op:UnOp}{t:Nat}{x:Operand}(ho:o.op= .unOp op t x):OpV E o (Bo ds x (kUn E.P op)) ds:=
 CH (m:=Op.unary op) (by simp[ho,Op.operands]) (fun a=>by simp only[execOp,ho];rfl) (ZW _ _) fun h hr hf hx=>DJ_ h hr hx
theorem EC_ {s d:Nat}{x:Operand}(ho:o.op= .convert s d x)(he:EnvTy E):OpV E o (Bo ds x (D4 E s d)) ds:=
 CH (m:=convert s d) (by simp[ho,Op.operands]) (fun a=>by simp only[execOp,ho];rfl) (FL_ _ _ _) fun h hr hf hx=>Hs_ he h hr hf hx
theorem Do_ {t:Nat}{x:Operand}(ho:o.op= .sliceToArrayPointer t x)(he:EnvTy E):OpV E o (Bo ds x (EW E t)) ds:=
 CH (m:=Instr.arrayAt t) (by simp[ho,Op.operands]) (fun a=>by simp only[execOp,ho];rfl) (KH_ _ _) fun h hr hf hx=>HP_ he h hr hx
theorem VD {t:Nat}{x:Operand}(ho:o.op= .makeInterface t x)(he:EnvTy E):OpV E o (Bo ds x (EF E t)) ds:=
 CH (m:=Instr.makeInterface t) (by simp[ho,Op.operands]) (fun a=>by simp only[execOp,ho];rfl) (Hl_ _ _) fun h hr hf hx=>XU he h hr hx
theorem BV_ {t:Nat}{x y:Operand}(ho:o.op= .makeSlice t x y)(he:EnvTy E):OpV E o (B4 ds x y (D8 E t)) ds:=
 Gy (m:=Instr.makeSlice t) (by simp[ho,Op.operands]) (fun a=>by simp only[execOp,ho];rfl) (Kh_ _ _) fun h hr hf hx hy=>Ij_ he h hr hf hx hy
theorem WL {t f:Nat}{x:Operand}(ho:o.op= .fieldAddr t x f)(he:EnvTy E):OpV E o (Bo ds x fun a=>kFld E t a f) ds:=
 CH (m:=fun x=>Instr.fieldAt t x f) (by simp[ho,Op.operands]) (fun a=>by simp only[execOp,ho];rfl) (fun y=>ZG _ _ y _) fun h hr hf hx=>AR_ he h hr hx
theorem Af_ {t f:Nat}{x:Operand}(ho:o.op= .field t x f)(he:EnvTy E):OpV E o (Bo ds x fun a=>EJ E t a f) ds:=
 CH (m:=fun x=>Instr.field t x f) (by simp[ho,Op.operands]) (fun a=>by simp only[execOp,ho];rfl) (fun y=>IG_ _ _ y _) fun h hr hf hx=>Ah_ he h hr hx
theorem Zs {t:Nat}{x y:Operand}(ho:o.op= .indexAddr t x y)(he:EnvTy E):OpV E o (B4 ds x y (Bk E t)) ds:=
 Gy (m:=Instr.indexAt t) (by simp[ho,Op.operands]) (fun a=>by simp only[execOp,ho];rfl) (Lb_ _ _) fun h hr hf hx hy=>Ea_ he h hr hx hy
theorem BY_ {t:Nat}{x y:Operand}(ho:o.op= .index t x y)(he:EnvTy E):OpV E o (B4 ds x y (kIdx E t)) ds:=
 Gy (m:=Instr.index t) (by simp[ho,Op.operands]) (fun a=>by simp only[execOp,ho];rfl) (GL_ _ _) fun h hr hf hx hy=>VY he h hr hx hy
theorem Gm_ {k:Nat}{x:Operand}(ho:o.op= .extract x k):OpV E o (Bo ds x (kExt k)) ds:=
 CH (m:=fun x=>Instr.extract x k) (by simp[ho,Op.operands]) (fun a=>by simp only[execOp,ho];rfl) (VS _) fun h hr hf hx=>XK h hr hx
theorem Ev_ {xt t:Nat}{c:Bool}{x:Operand}(ho:o.op= .typeAssert x xt t c)(he:EnvTy E):OpV E o (Bo ds x (EE E t c)) ds:=
 CH (m:=fun x=>Instr.typeAssert x xt t c) (by simp[ho,Op.operands]) (fun a=>by simp only[execOp,ho];rfl) (Zb _ _ _) fun h hr hf hx=>Jn_ he h hr hx
end
section
variable {E:Env}{ds:List Nat}{o:Oper}
theorem Ke_ {x y z:Operand}(ho:o.op= .pick x y z):OpV E o (CE ds x y z B9) ds:=by
 obtain⟨g,h1,h2⟩:=Bz ds x
 obtain⟨g',h3,h4⟩:=Bz ds y
 obtain⟨g2,h5,h6⟩:=Bz ds z
 refine⟨_,by unfold CE;rw[h1,h3,h5],fun _ _ rho tm=>AG _ fun a=>AG _ fun b=>AG _ fun c=>Z1 _ _ _, ?_⟩
 intro call round w0 w r U rho tm a s v s' hs hu hr h hf
 obtain⟨x',e1,h⟩:=BA h
 obtain⟨y',e2,h⟩:=BA h
 obtain⟨z',e3,h⟩:=BA h
 obtain⟨rfl,t,k1,k2⟩:=CF_ h (h2 _ _ _ _ _ _ hs (fun t q=>hu t (by simp[ho,Op.operands]at q ⊢;simp[q])) e1) (h4 _ _ _ _ _ _ hs (fun t q=>hu t (by simp[ho,Op.operands]at q ⊢;simp[q])) e2) (h6 _ _ _ _ _ _ hs (fun t q=>hu t (by simp[ho,Op.operands]at q ⊢;simp[q])) e3)
 refine⟨_,w,r, .inl ?_, .of_rel rfl hr,k2,rfl,rfl⟩
 simp only[execOp,ho,k1]
 cases t<;>simp[asBool]
theorem XL {t:Nat}{x:Operand}{lo hi mx:Option Operand}(ho:o.op= .slice t x lo hi mx)(he:EnvTy E):OpV E o (HF E ds t x lo hi mx) ds:=by
 cases mx with
 |some m=>
  exact⟨_,rfl,fun _ _ _ _=>AE,fun call round w0 w r U rho tm a s v s' hs hu hr h hf=>by cases h⟩
 |none=>
  obtain⟨g,h1,h2⟩:=Bz ds x
  obtain⟨g',h3,h4⟩:=IJ ds lo
  obtain⟨g2,h5,h6⟩:=IJ ds hi
  refine⟨fun _ _ rho tm=>M.on (g rho tm) fun a=>M.on (g' rho tm) fun b=>M.on (g2 rho tm) fun c=>Dq E t a b c,by unfold HF Ly;simp only[h1,h3,h5],fun _ _ rho tm=>AG _ fun a=>AG _ fun b=>AG _ fun c=>Kn_ _ _ _ _ _, ?_⟩
  intro call round w0 w r U rho tm a s v s' hs hu hr h hf
  obtain⟨x',e1,h⟩:=BA h
  obtain⟨y',e2,h⟩:=BA h
  obtain⟨z',e3,h⟩:=BA h
  exact(IK_ he h hr (h2 _ _ _ _ _ _ hs (fun t q=>hu t (by simp[ho,Op.operands]at q ⊢;simp[q])) e1) (h4 _ _ _ _ _ _ hs (fun t q=>hu t (by simp[ho,Op.operands]at q ⊢;simp[q])) e2) (h6 _ _ _ _ _ _ hs (fun t q=>hu t (by simp[ho,Op.operands]at q ⊢;simp[q])) e3)).val (by simp only[execOp,ho];rfl)
theorem IY_ {t:Nat}(ho:o.op= .makeMap t none):OpV E o (.mk fun _ _ _ _=>Dp) ds:=by
 refine⟨_,rfl,fun _ _ _ _=>PL, ?_⟩
 intro call round w0 w r U rho tm a s v s' hs hu hr h hf
 exact(SV h hr hf).val (by simp only[execOp,ho];rfl)
theorem JJ_ {t:Nat}{x:Operand}(ho:o.op= .makeMap t (some x))(he:EnvTy E):OpV E o (Bo ds x (EQ E t)) ds:=
 CH (m:=fun x=>Instr.makeMap t (some x)) (by simp[ho,Op.operands]) (fun a=>by simp only[execOp,ho];rfl) (By_ _ _) fun h hr hf hx=>JH_ he h hr hf hx
theorem Y3 {t:Nat}{c:Bool}{x y:Operand}(ho:o.op= .lookup t x y c)(he:EnvTy E):OpV E o (B4 ds x y (EL E t c)) ds:=
 Gy (m:=fun x y=>Instr.lookup t x y c) (by simp[ho,Op.operands]) (fun a=>by simp only[execOp,ho];rfl) (In_ _ _ _) fun h hr hf hx hy=>VQ he h hr hx hy
theorem CP_ {t:Nat}{x y:Operand}(ho:o.op= .mapEntry t x y)(he:EnvTy E):OpV E o (B4 ds x y (H3 E t)) ds:=
 Gy (m:=Instr.mapEntry t) (by simp[ho,Op.operands]) (fun a=>by simp only[execOp,ho];rfl) (Ho_ _ _) fun h hr hf hx hy=>DS_ he h hr hx hy
theorem Nk {x y z:Operand}{k:Value→Value→Value→M Value}{m:Value→Value→Value→Sem Unit}(hx:o.op.operands.toList=[x,y,z])(ho: ∀a:Act,execOp a.eval o=(do m (a.eval x) (a.eval y) (a.eval z);pure .skip))(np: ∀x y z,NoPan (k x y z))
  (hk: ∀{w0 w:World} {r:Inj} {x x' y y' z z':Value} {s v s'},k x y z s= .some v s'→Rel w0 r s.mem w→VR r x x'→VR r y y'→VR r z z'→v=undef∧ ∃w',(m x' y' z').run E.P w= .ok () w'∧Goes w0 r s s' r w'∧s'.lim=s.lim∧s'.cx=s.cx):OpV E o (CE ds x y z k) ds:=by
 obtain⟨g,h1,h2⟩:=Bz ds x
 obtain⟨g',h3,h4⟩:=Bz ds y
 obtain⟨g2,h5,h6⟩:=Bz ds z
 refine⟨_,by unfold CE;rw[h1,h3,h5],fun _ _ rho tm=>AG _ fun a=>AG _ fun b=>AG _ fun c=>np _ _ _, ?_⟩
 intro call round w0 w r U rho tm a s v s' hs hu hr h hf
 obtain⟨x',e1,h⟩:=BA h
 obtain⟨y',e2,h⟩:=BA h
 obtain⟨z',e3,h⟩:=BA h
 obtain⟨rfl,w',k1,k2,k3,k4⟩:=hk h hr (h2 _ _ _ _ _ _ hs (fun t q=>hu t (by rw[hx];simp at q ⊢;simp[q])) e1) (h4 _ _ _ _ _ _ hs (fun t q=>hu t (by rw[hx];simp at q ⊢;simp[q])) e2) (h6 _ _ _ _ _ _ hs (fun t q=>hu t (by rw[hx];simp at q ⊢;simp[q])) e3)
 refine⟨undef,w',r, .inr ⟨?_,rfl⟩,k2, .undef,k3,k4⟩
 rw[ho]
 simp[k1]
theorem Zy {t:Nat}{x y z:Operand}(ho:o.op= .mapUpdate t x y z)(he:EnvTy E):OpV E o (CE ds x y z (DB E t)) ds:=
 Nk (m:=Instr.mapUpdate t) (by simp[ho,Op.operands]) (fun a=>by simp only[execOp,ho]) (Rq _ _) fun h hr hx hy hz=>RY he h hr hx hy hz
theorem It_ {t:Nat}{x y z:Operand}(ho:o.op= .insert t x y z)(he:EnvTy E):OpV E o (CE ds x y z (DB E t)) ds:=
 Nk (m:=Instr.mapUpdate t) (by simp[ho,Op.operands]) (fun a=>by simp only[execOp,ho]) (Rq _ _) fun h hr hx hy hz=>RY he h hr hx hy hz
theorem WS {t:Nat}{x y z:Operand}(ho:o.op= .entryStore t x y z):OpV E o (CE ds x y z D6) ds:=
 Nk (m:=Instr.entryStore t) (by simp[ho,Op.operands]) (fun a=>by simp only[execOp,ho]) ID_ fun h hr hx hy hz=>Jq_ h hr hx hy hz
theorem XS {t:Nat}{x:Operand}(ho:o.op= .range t x)(he:EnvTy E):OpV E o (Bo ds x (Es E t)) ds:=
 CH (m:=Instr.range t) (by simp[ho,Op.operands]) (fun a=>by simp only[execOp,ho];rfl) (W6 _ _) fun h hr hf hx=>Ft_ he h hr hf hx
theorem DW_ {x:Operand}(ho:o.op= .next x true):OpV E o (Bo ds x DZ) ds:=
 CH (m:=fun x=>Instr.next x true o.type) (by simp[ho,Op.operands]) (fun a=>by simp only[execOp,ho];rfl) LB_ fun h hr hf hx=>ZT h hr hx
theorem SP {α β:Type}(f:α→β)(a:Array α):a.map f=(a.toList.map f).toArray:=by rw[←List.map_toArray]
theorem VRs.func {r:Inj}{f:Nat}{a a' c c':List Value}(h:VRs r a a')(k:VRs r c c'):VR r (.func (.func f) a.toArray c.toArray) (.func (.func f) a'.toArray c'.toArray):=
 .func rfl (by simpa using h.1) (fun i v v' e e'=>h.2 i v v' (by simpa using e) (by simpa using e')) (by simpa using k.1) (fun i v v' e e'=>k.2 i v v' (by simpa using e) (by simpa using e'))
theorem Kq_ {f:Nat}{first cap:Array Operand}(ho:o.op= .makeFunc (.func f) first cap):OpV E o (Hu ds first.toList cap.toList fun x c=>M.pure (.func (.func f) x.toArray c.toArray)) ds:=by
 obtain⟨g,h1,h2⟩:=Di ds first.toList
 obtain⟨g',h3,h4⟩:=Di ds cap.toList
 refine⟨_,by unfold Hu;rw[h1,h3],fun _ _ rho tm=>CY (g:=g rho tm) (f:=fun(a:List Value) s=>Option.rec (motive:=fun _=>R Value) .none (fun(b:List Value)=>M.pure (Value.func (.func f) a.toArray b.toArray) s) (g' rho tm)) fun a=>CY (f:=fun(b:List Value)=>M.pure (Value.func (.func f) a.toArray b.toArray)) fun b=>AD _, ?_⟩
 intro call round w0 w r U rho tm a s v s' hs hu hr h hf
 obtain⟨x',e1,h⟩:=C4 (f:=fun(a:List Value) s=>Option.rec (motive:=fun _=>R Value) .none (fun(b:List Value)=>M.pure (Value.func (.func f) a.toArray b.toArray) s) (g' rho tm)) h
 obtain⟨y',e2,h⟩:=C4 (f:=fun(b:List Value)=>M.pure (Value.func (.func f) x'.toArray b.toArray)) h
 obtain⟨rfl,rfl⟩:=AB h
 refine⟨_,w,r, .inl ?_, .of_rel rfl hr,(h2 _ _ _ _ _ _ hs (fun t q=>hu t (by simp[ho,Op.operands]at q ⊢;simp[q])) e1).func (h4 _ _ _ _ _ _ hs (fun t q=>hu t (by simp[ho,Op.operands]at q ⊢;simp[q])) e2),rfl,rfl⟩
 simp[execOp,ho,Instr.makeFunc]
 exact⟨SP _ _,SP _ _⟩
theorem Gy_ {b:Builtin}{c:Call}(ho:o.op= .call c)(hb:c.callee= .builtin b)(hn:b≠ .recover)(he:EnvTy E):OpV E o (Ff ds c.args.toList (Bi E b c.argTypes.toList)) ds:=by
 obtain⟨g,h1,h2⟩:=Di ds c.args.toList
 refine⟨_,by unfold Ff;rw[h1],fun _ _ rho tm=>CY (g:=g rho tm) (V5 _ _ _), ?_⟩
 intro call round w0 w r U rho tm a s v s' hs hu hr h hf
 obtain⟨l,e1,h⟩:=C4 h
 have hl:VRs r l (c.args.toList.map a.eval):=h2 _ _ _ _ _ _ hs (fun t q=>hu t (by simp[ho,Op.operands,Call.operands]at q ⊢;simp[q])) e1
 have key: ∀{m:Sem Value},Yields E w0 r s s' v w m→(∀(cs:Array Bool) w,(builtin b c.argTypes o.type cs (c.args.map a.eval)).run E.P w=(Ct m).run E.P w)→
   ∃v' w' r',((execOp a.eval o).run E.P w= .ok (.value v') w'∨((execOp a.eval o).run E.P w= .ok .skip w'∧v'=undef))∧Goes w0 r s s' r' w'∧VR r' v v'∧s'.lim=s.lim∧s'.cx=s.cx:=by
  intro m hy hm
  obtain⟨v',w',r',k1,k2,k3,k4,k5⟩:=hy
  refine⟨v',w',r', .inl ?_,k2,k3,k4,k5⟩
  simp only[execOp,ho,resolve,hb,invoke,Sem.run_bind,Sem.run_pure,Result.andThen_ok,hm,Ct,k1]
 generalize hts:c.argTypes.toList=ts at h
 have hmap:c.args.map a.eval=(c.args.toList.map a.eval).toArray:=by rw[←List.map_toArray]
 have ht0: ∀{t:Nat} {l:List Nat},c.argTypes.toList=t::l→c.argTypes[0]?=some t:=by
  intro t l e;rw[←Array.getElem?_toList,e];rfl
 have ht1: ∀{t t2:Nat} {l:List Nat},c.argTypes.toList=t::t2::l→c.argTypes[1]?=some t2:=by
  intro t t2 l e;rw[←Array.getElem?_toList,e];rfl
 unfold Bi at h
 split at h
 ·rename_i t ts' x
  obtain⟨x',l',q1,q2,q3⟩:=hl.inv
  have:=q3.inv_nil
  subst this
  refine key (Bb_ (ty:=o.type) (ht0 hts) he h hr q2) fun cs w=> ?_
  rw[hmap,q1];simp[builtin,Ct]
 ·rename_i t ts' x
  obtain⟨x',l',q1,q2,q3⟩:=hl.inv
  have:=q3.inv_nil
  subst this
  refine key (XQ (ty:=o.type) (ht0 hts) he h hr q2) fun cs w=> ?_
  rw[hmap,q1];simp[builtin,Ct]
 ·obtain⟨y',l1,q1,q2,q3⟩:=hl.inv
  obtain⟨x',l',q4,q5,q6⟩:=q3.inv
  have:=q6.inv_nil
  subst this
  subst q4
  refine key (Ai_ (ty:=o.type) (ht0 hts) (ht1 hts) he h hr hf q2 q5) fun cs w=> ?_
  rw[hmap,q1];simp[builtin,Ct]
 ·obtain⟨y',l1,q1,q2,q3⟩:=hl.inv
  obtain⟨x',l',q4,q5,q6⟩:=q3.inv
  have:=q6.inv_nil
  subst this
  subst q4
  refine key (Ch_ (ty:=o.type) (ht0 hts) he h hr q2 q5) fun cs w=> ?_
  rw[hmap,q1];simp[builtin,Ct]
 ·obtain⟨y',l1,q1,q2,q3⟩:=hl.inv
  obtain⟨x',l',q4,q5,q6⟩:=q3.inv
  have:=q6.inv_nil
  subst this
  subst q4
  refine key (KB_ (ty:=o.type) (ht0 hts) he h hr q2 q5) fun cs w=> ?_
  rw[hmap,q1];simp[builtin,Ct]
 ·obtain⟨x',l',q1,q2,q3⟩:=hl.inv
  have:=q3.inv_nil
  subst this
  refine key (Bu_ (ty:=o.type) (ht0 hts) he h hr q2) fun cs w=> ?_
  rw[hmap,q1];simp[builtin,Ct]
 ·refine key (Dg_ (ts:=c.argTypes) (ty:=o.type) h hr hl) fun cs w=> ?_
  rw[hmap];simp[builtin,Ct]
 ·refine key (Zp (ts:=c.argTypes) (ty:=o.type) h hr hl) fun cs w=> ?_
  rw[hmap];simp[builtin,Ct]
 ·cases h
end
abbrev Out (α:Type):Type:=Sum α (List PanicEntry)
def rOf {α:Type}(o:Out α)(s:St):R α:=
 match o with
 | .inl a=> .some a s
 | .inr c=> .pan c s
def Bnd (s:St):Prop:=s.lim≤s.next
structure LocG {α:Type}(m:M α)(s:St)(o:Out α)(s':St)(Rd Wr:Nat→Prop)(dr dw:List Nat):Prop where
 rd:s'.rd=dr++s.rd
 wr:s'.wr=dw++s.wr
 nxt:s.next≤s'.next
 lim:s'.lim=s.lim
 bnd:Bnd s'
 rlt: ∀l,Rd l→l<s'.next
 wlt: ∀l,Wr l→l<s'.next
 old: ∀l,¬Wr l→T.get s'.mem l=T.get s.mem l
 any: ∀t:St,t.next=s.next→t.lim=s.lim→t.cx=s.cx→(∀l,Rd l∨Wr l→T.get t.mem l=T.get s.mem l)→
  ∃t',m t=rOf o t'∧t'.next=s'.next∧t'.lim=s'.lim∧t'.cx=s'.cx∧t'.rd=dr++t.rd∧t'.wr=dw++t.wr∧
   (∀l,Wr l→T.get t'.mem l=T.get s'.mem l)∧(∀l,¬Wr l→T.get t'.mem l=T.get t.mem l)
def CG {α:Type}(m:M α)(s:St)(o:Out α)(s':St):Prop:=
 ∃Rd Wr dr dw,LocG m s o s' Rd Wr dr dw∧(∀l,Rd l→l<s.lim→l∈dr)∧(∀l,Wr l→l<s.lim→l∈dw)
structure Loc {α:Type}(m:M α):Prop where
 at': ∀s o s',m s=rOf o s'→Bnd s→CG m s o s'
theorem LocG.seq {α β:Type}{m:M α}{n C:M β}{s s1 s':St}{o1:Out α}{o:Out β}{R1 W1 R2 W2:Nat→Prop}{r1 w1 r2 w2:List Nat}
  (h:LocG m s o1 s1 R1 W1 r1 w1) (k:LocG n s1 o s' R2 W2 r2 w2) (hC: ∀t t1,m t=rOf o1 t1→C t=n t1):LocG C s o s' (fun l=>R1 l∨R2 l) (fun l=>W1 l∨W2 l) (r2++r1) (w2++w1) where
 rd:=by rw[k.rd,h.rd,List.append_assoc]
 wr:=by rw[k.wr,h.wr,List.append_assoc]
 nxt:=Nat.le_trans h.nxt k.nxt
 lim:=k.lim.trans h.lim
 bnd:=k.bnd
 rlt:=fun l e=>e.elim (fun e=>Nat.lt_of_lt_of_le (h.rlt l e) k.nxt) (k.rlt l)
 wlt:=fun l e=>e.elim (fun e=>Nat.lt_of_lt_of_le (h.wlt l e) k.nxt) (k.wlt l)
 old:=fun l e=>(k.old l fun x=>e (.inr x)).trans (h.old l fun x=>e (.inl x))
 any:=fun t e1 e2 e3 e4=>by
  obtain⟨t1,q1,q2,q3,q4,q5,q6,q7,q8⟩:=h.any t e1 e2 e3 fun l e=>e4 l (e.elim (fun e=> .inl (.inl e)) (fun e=> .inr (.inl e)))
  obtain⟨t2,p1,p2,p3,p4,p5,p6,p7,p8⟩:=k.any t1 q2 q3 q4 (fun l e=>by
   by_cases hw:W1 l
   ·exact q7 l hw
   ·rw[q8 l hw,h.old l hw]
    exact e4 l (e.elim (fun e=> .inl (.inr e)) (fun e=> .inr (.inr e))))
  refine⟨t2,(hC t t1 q1).trans p1,p2,p3,p4,by rw[p5,q5,List.append_assoc],by rw[p6,q6,List.append_assoc],fun l e=> ?_,fun l e=>(p8 l fun x=>e (.inr x)).trans (q8 l fun x=>e (.inl x))⟩
  by_cases hw:W2 l
  ·exact p7 l hw
  ·rw[p8 l hw,k.old l hw]
   exact e.elim (q7 l) (fun x=>absurd x hw)
theorem CG.bnd {α:Type}{m:M α}{s s':St}{o:Out α}(h:CG m s o s'):Bnd s':=let ⟨_,_,_,_,e,_⟩:=h;e.bnd
theorem CG.lim {α:Type}{m:M α}{s s':St}{o:Out α}(h:CG m s o s'):s'.lim=s.lim:=let ⟨_,_,_,_,e,_⟩:=h;e.lim
theorem CG.next {α:Type}{m:M α}{s s':St}{o:Out α}(h:CG m s o s'):s.next≤s'.next:=let ⟨_,_,_,_,e,_⟩:=h;e.nxt
theorem CG.seq {α β:Type}{m:M α}{n C:M β}{s s1 s':St}{o1:Out α}{o:Out β}(h:CG m s o1 s1)(k:CG n s1 o s')(hC: ∀t t1,m t=rOf o1 t1→C t=n t1):CG C s o s':=by
 obtain⟨R1,W1,r1,w1,h1,h2,h3⟩:=h
 obtain⟨R2,W2,r2,w2,k1,k2,k3⟩:=k
 refine⟨_,_,_,_,h1.seq k1 hC,fun l e x=> ?_,fun l e x=> ?_⟩
 ·exact e.elim (fun e=>List.mem_append_right _ (h2 l e x)) (fun e=>List.mem_append_left _ (k2 l e (by rw[h1.lim];exact x)))
 ·exact e.elim (fun e=>List.mem_append_right _ (h3 l e x)) (fun e=>List.mem_append_left _ (k3 l e (by rw[h1.lim];exact x)))
theorem Bu {α:Type}{o:Out α}{a:α}{s s':St}(h:R.some a s=rOf o s'):o= .inl a∧s'=s:=by cases o<;>cases h;exact⟨rfl,rfl⟩
theorem HJ {α:Type}{o:Out α}{c:List PanicEntry}{s s':St}(h:R.pan c s=rOf o s'):o= .inr c∧s'=s:=by cases o<;>cases h;exact⟨rfl,rfl⟩
theorem A7 {α:Type}{o:Out α}{s':St}(h:R.none=rOf o s'):False:=by cases o<;>cases h
theorem CG.quiet {α:Type}{m:M α}{s:St}{o:Out α}(hb:Bnd s)(h: ∀t:St,t.cx=s.cx→m t=rOf o t):CG m s o s:=
 ⟨fun _=>False,fun _=>False,[],[],⟨rfl,rfl,Nat.le_refl _,rfl,hb,fun _ e=>e.elim,fun _ e=>e.elim,fun _ _=>rfl,
  fun t e1 e2 e3 _=>⟨t,h t e3,e1,e2,e3,rfl,rfl,fun _ e=>e.elim,fun _ _=>rfl⟩⟩,fun _ e=>e.elim,fun _ e=>e.elim⟩
theorem AA {α:Type}(a:α):Loc (M.pure a):=⟨fun s o s' h hb=>by
 obtain⟨rfl,rfl⟩:=Bu h
 exact .quiet hb fun t _=>rfl⟩
theorem Az {α:Type}:Loc (M.fail:M α):=⟨fun s o s' h hb=>(A7 h).elim⟩
theorem AN {α:Type}(x:Option α):Loc (M.ofOpt x):=by
 cases x with
 |none=>exact Az
 |some a=>exact AA a
theorem Im {α β:Type}{m:M α}{f:α→M β}{g:List PanicEntry→M β}(h:Loc m)(kf: ∀a,Loc (f a))(kg: ∀c,Loc (g c)):
  Loc (fun s=>R.rec (motive:=fun _=>R β) .none (fun a s=>f a s) (fun c s=>g c s) (m s)):=⟨fun s o s' e hb=>by
 cases e1:m s with
 |none=>rw[e1]at e;exact(A7 e).elim
 |some a s1=>
  rw[e1]at e
  have h1:=h.at' s (.inl a) s1 e1 hb
  exact h1.seq ((kf a).at' s1 o s' e h1.bnd) fun t t1 q=>by rw[q];rfl
 |pan c s1=>
  rw[e1]at e
  have h1:=h.at' s (.inr c) s1 e1 hb
  exact h1.seq ((kg c).at' s1 o s' e h1.bnd) fun t t1 q=>by rw[q];rfl⟩
theorem Ng {α:Type}(c:List PanicEntry):Loc (fun s=>R.pan c s:M α):=⟨fun s o s' h hb=>by
 obtain⟨rfl,rfl⟩:=HJ h
 exact .quiet hb fun t _=>rfl⟩
theorem Up {α:Type}:Loc (fun _=>R.none:M α):=⟨fun s o s' h hb=>(A7 h).elim⟩
theorem Ax {α β:Type}{m:M α}{f:α→M β}(h:Loc m)(k: ∀a,Loc (f a)):Loc (M.bind m f):=Im h k fun c=>Ng c
theorem EB {α:Type}{m:M α}(h:Loc m):Loc (noP m):=Im h (fun a=>AA a) fun _=>Up
theorem AH {α:Type}(b:Bool){m:M α}(h:Loc m):Loc (M.chk b m):=by
 cases b with
 |false=>exact Az
 |true=>exact h
theorem AO {α:Type}(b:Bool){m n:M α}(h:Loc m)(k:Loc n):Loc (M.if b m n):=by cases b<;>assumption
theorem AC {α β:Type}(x:Option α){f:α→M β}(k: ∀a,Loc (f a)):Loc (M.on x f):=by
 cases x with
 |none=>exact Az
 |some a=>exact k a
theorem AL {α:Type}(n:Nat){f:Nat→M α}(k: ∀a,Loc (f a)):Loc (fN n f):=by rw[A3];exact k _
theorem AW {α:Type}(n:Int){f:Int→M α}(k: ∀a,Loc (f a)):Loc (fI n f):=by rw[D9];exact k _
theorem AM {α:Type}(n:Addr){f:Addr→M α}(k: ∀a,Loc (f a)):Loc (fA n f):=by rw[CW];exact k _
theorem AT {α:Type}(v:Value){f:IntKind→Int→M α}{d:M α}(h: ∀k n,Loc (f k n))(k:Loc d):Loc (Cn v f d):=by
 cases v<;>first|exact h _ _|exact k
theorem AV {α:Type}(b:Bool){m n:M α}(h:Loc m)(k:Loc n):Loc (Bool.rec (motive:=fun _=>M α) m n b):=by cases b<;>assumption
theorem AK {α β:Type}(x:Option α){m:M β}{f:α→M β}(h:Loc m)(k: ∀a,Loc (f a)):Loc (Option.rec (motive:=fun _=>M β) m (fun a=>f a) x):=by
 cases x with
 |none=>exact h
 |some a=>exact k a
theorem JA (loc lim:Nat)(l:List Nat):notes loc lim l=if loc<lim then loc::l else l:=by
 unfold notes
 cases h:Nat.blt loc lim with
 |true=>rw[if_pos (BC h)]
 |false=>rw[if_neg];intro h2;rw[show Nat.blt loc lim=true from Nat.ble_eq_true_of_le h2]at h;cases h
theorem Ep (loc lim:Nat)(l:List Nat):notes loc lim l=notes loc lim []++l:=by
 rw[JA,JA]
 split<;>rfl
theorem M9 {loc lim:Nat}(h:loc<lim):loc∈notes loc lim []:=by rw[JA,if_pos h];exact List.mem_cons_self
theorem P8 (loc:Nat)(s:St):rdC loc s=if loc<s.next then match T.get s.mem loc with|none=> .none|some c=> .some c ⟨s.mem,s.next,s.lim,notes loc s.lim s.rd,s.wr,s.cx⟩else .none:=by
 obtain⟨mem,next,lim,rd,wr,cx⟩:=s
 unfold rdC
 simp only
 cases hb:Nat.blt loc next with
 |false=>rw[if_neg];intro h2;rw[show Nat.blt loc next=true from Nat.ble_eq_true_of_le h2]at hb;cases hb
 |true=>
  rw[if_pos (BC hb)]
  cases T.get mem loc<;>rfl
theorem TU (loc:Nat)(c:Cell)(s:St):wrC loc c s=if loc<s.next then .some () ⟨T.set s.mem loc c,s.next,s.lim,s.rd,notes loc s.lim s.wr,s.cx⟩else .none:=by
 obtain⟨mem,next,lim,rd,wr,cx⟩:=s
 unfold wrC
 obtain⟨v,l,r,e⟩:=T.set_N mem loc c
 simp only[e]
 cases hb:Nat.blt loc next with
 |false=>rw[if_neg];intro h2;rw[show Nat.blt loc next=true from Nat.ble_eq_true_of_le h2]at hb;cases hb
 |true=>rw[if_pos (BC hb)]
theorem Ts (loc:Nat)(s:St):delC loc s=if loc<s.next then .some () ⟨T.del s.mem loc,s.next,s.lim,s.rd,notes loc s.lim s.wr,s.cx⟩else .none:=by
 obtain⟨mem,next,lim,rd,wr,cx⟩:=s
 unfold delC
 simp only
 cases hb:Nat.blt loc next with
 |false=>rw[if_neg];intro h2;rw[show Nat.blt loc next=true from Nat.ble_eq_true_of_le h2]at hb;cases hb
 |true=>rw[if_pos (BC hb)]
theorem OL (vs:List Value)(s:St):newL vs s= .some s.next ⟨layL s.next vs s.next s.mem,s.next+vs.length+1,s.lim,s.rd,s.wr,s.cx⟩:=by
 obtain⟨mem,next,lim,rd,wr,cx⟩:=s
 have h0:newL vs ⟨mem,next,lim,rd,wr,cx⟩=fN next fun b=>fN (Nat.succ (Nat.add b vs.length)) fun n=>R.some b (St.mk (layL b vs b mem) n lim rd wr cx):=rfl
 rw[h0,A3,A3]
 rfl
theorem Ra (o:AObj)(s:St):newO o s= .some s.next ⟨T.set s.mem s.next (.O o),s.next+1,s.lim,s.rd,s.wr,s.cx⟩:=by
 obtain⟨mem,next,lim,rd,wr,cx⟩:=s
 have h0:newO o ⟨mem,next,lim,rd,wr,cx⟩=fN next fun b=>fN (Nat.succ b) fun n=>R.some b (St.mk (T.set mem b (.O o)) n lim rd wr cx):=rfl
 rw[h0,A3,A3]
theorem CU (loc:Nat):Loc (rdC loc):=⟨fun s o s' h hb=>by
 rw[P8]at h
 split at h
 case isFalse=>exact(A7 h).elim
 case isTrue hl=>
  cases e:T.get s.mem loc with
  |none=>rw[e]at h;exact(A7 h).elim
  |some c=>
   rw[e]at h
   obtain⟨rfl,rfl⟩:=Bu h
   refine⟨fun l=>l=loc,fun _=>False,notes loc s.lim [],[],⟨Ep _ _ _,rfl,Nat.le_refl _,rfl,hb,fun l e1=>by rw[e1];exact hl,fun _ e=>e.elim,fun _ _=>rfl,fun t e1 e2 e3 e4=> ?_⟩,fun l e1 e2=> ?_,fun _ e=>e.elim⟩
   ·refine⟨⟨t.mem,t.next,t.lim,notes loc t.lim t.rd,t.wr,t.cx⟩, ?_,e1,e2,e3, ?_,rfl,fun _ e=>e.elim,fun _ _=>rfl⟩
    ·rw[P8,if_pos (by rw[e1];exact hl),e4 loc (.inl rfl),e];rfl
    ·rw[←e2];exact Ep _ _ _
   ·rw[e1];exact M9 (by rw[←e1];exact e2)⟩
theorem Co (loc:Nat)(c:Cell):Loc (wrC loc c):=⟨fun s o s' h hb=>by
 rw[TU]at h
 split at h
 case isFalse=>exact(A7 h).elim
 case isTrue hl=>
  obtain⟨rfl,rfl⟩:=Bu h
  refine⟨fun _=>False,fun l=>l=loc,[],notes loc s.lim [],⟨rfl,Ep _ _ _,Nat.le_refl _,rfl,hb,fun _ e=>e.elim,fun l e1=>by rw[e1];exact hl,fun l e=> ?_,fun t e1 e2 e3 e4=> ?_⟩,fun _ e=>e.elim,fun l e1 e2=> ?_⟩
  ·simp only[T.get_set,if_neg e]
  ·refine⟨⟨T.set t.mem loc c,t.next,t.lim,t.rd,notes loc t.lim t.wr,t.cx⟩, ?_,e1,e2,e3,rfl, ?_,fun l e=> ?_,fun l e=> ?_⟩
   ·rw[TU,if_pos (by rw[e1];exact hl)];rfl
   ·rw[←e2];exact Ep _ _ _
   ·simp only[T.get_set,if_pos e]
   ·simp only[T.get_set,if_neg e]
  ·rw[e1];exact M9 (by rw[←e1];exact e2)⟩
theorem Dp_ (loc:Nat):Loc (delC loc):=⟨fun s o s' h hb=>by
 rw[Ts]at h
 split at h
 case isFalse=>exact(A7 h).elim
 case isTrue hl=>
  obtain⟨rfl,rfl⟩:=Bu h
  refine⟨fun _=>False,fun l=>l=loc,[],notes loc s.lim [],⟨rfl,Ep _ _ _,Nat.le_refl _,rfl,hb,fun _ e=>e.elim,fun l e1=>by rw[e1];exact hl,fun l e=> ?_,fun t e1 e2 e3 e4=> ?_⟩,fun _ e=>e.elim,fun l e1 e2=> ?_⟩
  ·simp only[T.get_del,if_neg e]
  ·refine⟨⟨T.del t.mem loc,t.next,t.lim,t.rd,notes loc t.lim t.wr,t.cx⟩, ?_,e1,e2,e3,rfl, ?_,fun l e=> ?_,fun l e=> ?_⟩
   ·rw[Ts,if_pos (by rw[e1];exact hl)];rfl
   ·rw[←e2];exact Ep _ _ _
   ·simp only[T.get_del,if_pos e]
   ·simp only[T.get_del,if_neg e]
  ·rw[e1];exact M9 (by rw[←e1];exact e2)⟩
theorem Iv (b:Nat): ∀(vs:List Value) (loc:Nat) (t:T Cell) (k:Nat),T.get (layL b vs loc t) k=if loc≤k∧k<loc+vs.length then(vs[k-loc]?).map (.C b)else T.get t k
 |[],loc,t,k=>by rw[if_neg (fun e=>by have:=e.2;simp at this;omega)];rfl
 |v::vs,loc,t,k=>by
  have h0:layL b (v::vs) loc t=fN loc fun loc=>layL b vs (Nat.succ loc) (T.set t loc (.C b v)):=rfl
  rw[h0,A3,Iv b vs]
  by_cases h1:loc=k
  ·subst h1
   rw[if_neg (by omega),if_pos (by simp),T.get_set,if_pos rfl]
   simp
  ·by_cases h2:loc≤k∧k<loc+(v::vs).length
   ·have h3:k-loc=(k-Nat.succ loc)+1:=by omega
    rw[if_pos h2,if_pos (by simp at h2 ⊢;omega),h3,List.getElem?_cons_succ]
   ·rw[if_neg h2,if_neg (by simp at h2 ⊢;omega),T.get_set,if_neg (fun e=>h1 e.symm)]
theorem FQ (vs:List Value):Loc (newL vs):=⟨fun s o s' h hb=>by
 rw[OL]at h
 obtain⟨rfl,rfl⟩:=Bu h
 refine⟨fun _=>False,fun l=>s.next≤l∧l<s.next+vs.length,[],[],⟨rfl,rfl,by show s.next≤s.next+vs.length+1;omega,rfl, ?_,fun _ e=>e.elim,fun l e=> ?_,fun l e=> ?_,fun t e1 e2 e3 e4=> ?_⟩,fun _ e=>e.elim,fun l e1 e2=> ?_⟩
 ·show s.lim≤s.next+vs.length+1
  unfold Bnd at hb;omega
 ·show l<s.next+vs.length+1
  omega
 ·simp only[Iv,if_neg e]
 ·refine⟨⟨layL t.next vs t.next t.mem,t.next+vs.length+1,t.lim,t.rd,t.wr,t.cx⟩, ?_,by rw[e1],e2,e3,rfl,rfl,fun l e=> ?_,fun l e=> ?_⟩
  ·rw[OL,e1];rfl
  ·simp only[Iv,e1,if_pos e]
  ·simp only[Iv,e1,if_neg e]
 ·unfold Bnd at hb;omega⟩
theorem FM (x:AObj):Loc (newO x):=⟨fun s o s' h hb=>by
 rw[Ra]at h
 obtain⟨rfl,rfl⟩:=Bu h
 refine⟨fun _=>False,fun l=>l=s.next,[],[],⟨rfl,rfl,by show s.next≤s.next+1;omega,rfl, ?_,fun _ e=>e.elim,fun l e=> ?_,fun l e=> ?_,fun t e1 e2 e3 e4=> ?_⟩,fun _ e=>e.elim,fun l e1 e2=> ?_⟩
 ·show s.lim≤s.next+1
  unfold Bnd at hb;omega
 ·show l<s.next+1
  omega
 ·simp only[T.get_set,if_neg e]
 ·refine⟨⟨T.set t.mem t.next (.O x),t.next+1,t.lim,t.rd,t.wr,t.cx⟩, ?_,by rw[e1],e2,e3,rfl,rfl,fun l e=> ?_,fun l e=> ?_⟩
  ·rw[Ra,e1];rfl
  ·simp only[T.get_set,e1,if_pos e]
  ·simp only[T.get_set,e1,if_neg e]
 ·unfold Bnd at hb;omega⟩
theorem Hl:Loc getCx:=⟨fun s o s' h hb=>by
 obtain⟨rfl,rfl⟩:=Bu (show R.some s.cx s=rOf o s' from h)
 exact .quiet hb fun t e=>by rw[←e];rfl⟩
theorem Kj (x:Ctx):Loc (putCx x):=⟨fun s o s' h hb=>by
 obtain⟨rfl,rfl⟩:=Bu (show R.some () (St.mk s.mem s.next s.lim s.rd s.wr x)=rOf o s' from h)
 exact⟨fun _=>False,fun _=>False,[],[],⟨rfl,rfl,Nat.le_refl _,rfl,hb,fun _ e=>e.elim,fun _ e=>e.elim,fun _ _=>rfl,
  fun t e1 e2 e3 _=>⟨St.mk t.mem t.next t.lim t.rd t.wr x,rfl,e1,e2,rfl,rfl,rfl,fun _ e=>e.elim,fun _ _=>rfl⟩⟩,fun _ e=>e.elim,fun _ e=>e.elim⟩⟩
theorem Vf (a:Addr):Loc (rdV a):=by
 obtain⟨b,o,s⟩:=a
 cases s with
 |some x=>exact Az
 |none=>exact Ax (CU _) fun c=>AN _
theorem BZ_ (a:Addr)(v:Value):Loc (wrV a v):=by
 obtain⟨b,o,s⟩:=a
 cases s with
 |some x=>exact Az
 |none=>exact Ax (CU _) fun c=>AH _ (Co _ _)
theorem Eo: ∀(n:Nat) (a:Addr),Loc (rdL n a)
 |0,_=>AA _
 |n+1,a=>by
  have h0:rdL (n+1) a=fA a fun a=>M.bind (rdV a) fun v=>M.bind (rdL n ⟨a.block,Nat.succ a.off,a.spot⟩) fun l=>M.pure (v::l):=rfl
  rw[h0]
  exact AM _ fun a=>Ax (Vf a) fun v=>Ax (Eo n _) fun l=>AA _
theorem Ib: ∀(vs:List Value) (a:Addr),Loc (wrL vs a)
 |[],_=>AA _
 |v::vs,a=>by
  have h0:wrL (v::vs) a=fA a fun a=>M.bind (wrV a v) fun _=>wrL vs ⟨a.block,Nat.succ a.off,a.spot⟩:=rfl
  rw[h0]
  exact AM _ fun a=>Ax (BZ_ a v) fun v=>Ib vs _
theorem SZ: ∀(n l:Nat),Loc (CJ n l)
 |0,_=>AA _
 |n+1,l=>by
  have h0:CJ (n+1) l=M.bind (delC l) fun _=>CJ n (l+1):=rfl
  rw[h0]
  exact Ax (Dp_ l) fun _=>SZ n _
theorem Bt (x0:_)(x1:_):Loc (ti x0 x1):=by
 unfold ti
 repeat' (first|exact AA _|exact Az|exact AN _|apply Ax|apply AH|apply AO|apply AC|apply AL|apply AW|apply AM|apply AT|apply AV|apply AK|intro _|split)
theorem HG (x0:_):Loc (pV x0):=by
 unfold pV
 repeat' (first|exact AA _|exact Az|exact AN _|apply Ax|apply AH|apply AO|apply AC|apply AL|apply AW|apply AM|apply AT|apply AV|apply AK|intro _|split)
theorem KE_ (x0:_)(x1:_)(x2:_)(x3:_)(x4:_):Loc (HW x0 x1 x2 x3 x4):=by
 unfold HW
 repeat' (first|exact AA _|exact Az|exact AN _|exact Bt _ _|apply Ax|apply AH|apply AO|apply AC|apply AL|apply AW|apply AM|apply AT|apply AV|apply AK|intro _|split)
theorem XN (x0:_)(x1:_):Loc (E7 x0 x1):=by
 unfold E7
 repeat' (first|exact AA _|exact Az|exact AN _|apply Ax|apply AH|apply AO|apply AC|apply AL|apply AW|apply AM|apply AT|apply AV|apply AK|intro _|split)
theorem Yy (x0:_)(x1:_)(x2:_):Loc (FH x0 x1 x2):=by
 unfold FH
 repeat' (first|exact AA _|exact Az|exact AN _|exact XN _ _|apply Ax|apply AH|apply AO|apply AC|apply AL|apply AW|apply AM|apply AT|apply AV|apply AK|intro _|split)
theorem Ex_ (x0:_)(x1:_)(x2:_)(x3:_)(x4:_)(x5:_)(x6:_):Loc (Bm x0 x1 x2 x3 x4 x5 x6):=by
 unfold Bm
 repeat' (first|exact AA _|exact Az|exact AN _|exact Yy _ _ _|exact KE_ _ _ _ _ _|exact HG _|apply Ax|apply AH|apply AO|apply AC|apply AL|apply AW|apply AM|apply AT|apply AV|apply AK|intro _|split)
theorem Xc (x0:_):Loc (lenOf x0):=by
 unfold lenOf
 repeat' (first|exact AA _|exact Az|exact AN _|apply Ax|apply AH|apply AO|apply AC|apply AL|apply AW|apply AM|apply AT|apply AV|apply AK|intro _|split)
theorem Tr (x0:_)(x1:_)(x2:_):Loc (D3 x0 x1 x2):=by
 unfold D3
 repeat' (first|exact AA _|exact Az|exact AN _|exact Bt _ _|exact Eo _ _|exact Vf _|apply Ax|apply AH|apply AO|apply AC|apply AL|apply AW|apply AM|apply AT|apply AV|apply AK|intro _|split)
theorem Ao_ (x0:_)(x1:_)(x2:_)(x3:_):Loc (FA x0 x1 x2 x3):=by
 unfold FA
 repeat' (first|exact AA _|exact Az|exact AN _|exact Bt _ _|exact Ib _ _|apply Ax|apply AH|apply AO|apply AC|apply AL|apply AW|apply AM|apply AT|apply AV|apply AK|intro _|split)
theorem FX (x0:_):Loc (asA x0):=by
 unfold asA
 repeat' (first|exact AA _|exact Az|exact AN _|apply Ax|apply AH|apply AO|apply AC|apply AL|apply AW|apply AM|apply AT|apply AV|apply AK|intro _|split)
theorem Kh (x0:_)(x1:_)(x2:_):Loc (bnd x0 x1 x2):=by
 unfold bnd
 repeat' (first|exact AA _|exact Az|exact AN _|apply Ax|apply AH|apply AO|apply AC|apply AL|apply AW|apply AM|apply AT|apply AV|apply AK|intro _|split)
theorem Ml (x0:_):Loc (ptrA x0):=by
 unfold ptrA
 repeat' (first|exact AA _|exact Az|exact AN _|apply Ax|apply AH|apply AO|apply AC|apply AL|apply AW|apply AM|apply AT|apply AV|apply AK|intro _|split)
theorem Hm (x0:_)(x1:_)(x2:_):Loc (pSl x0 x1 x2):=by
 unfold pSl
 repeat' (first|exact AA _|exact Az|exact AN _|apply Ax|apply AH|apply AO|apply AC|apply AL|apply AW|apply AM|apply AT|apply AV|apply AK|intro _|split)
theorem IP (x0:_):Loc (pN x0):=by
 unfold pN
 repeat' (first|exact AA _|exact Az|exact AN _|apply Ax|apply AH|apply AO|apply AC|apply AL|apply AW|apply AM|apply AT|apply AV|apply AK|intro _|split)
theorem Xg (x0:_)(x1:_)(x2:_)(x3:_)(x4:_):Loc (FI x0 x1 x2 x3 x4):=by
 unfold FI
 repeat' (first|exact AA _|exact Az|exact AN _|exact Hm _ _ _|exact Kh _ _ _|apply Ax|apply AH|apply AO|apply AC|apply AL|apply AW|apply AM|apply AT|apply AV|apply AK|intro _|split)
theorem Jy_ (x0:_)(x1:_)(x2:_)(x3:_)(x4:_)(x5:_):Loc (slSl x0 x1 x2 x3 x4 x5):=by
 unfold slSl
 repeat' (first|exact AA _|exact Az|exact AN _|exact Hm _ _ _|exact Kh _ _ _|apply Ax|apply AH|apply AO|apply AC|apply AL|apply AW|apply AM|apply AT|apply AV|apply AK|intro _|split)
theorem Ap_ (x0:_)(x1:_)(x2:_):Loc (GM x0 x1 x2):=by
 unfold GM
 repeat' (first|exact AA _|exact Az|exact AN _|exact Kh _ _ _|apply Ax|apply AH|apply AO|apply AC|apply AL|apply AW|apply AM|apply AT|apply AV|apply AK|intro _|split)
theorem Fy_ (x0:_)(x1:_)(x2:_)(x3:_)(x4:_):Loc (Dq x0 x1 x2 x3 x4):=by
 unfold Dq
 repeat' (first|exact AA _|exact Az|exact AN _|exact Ap_ _ _ _|exact Jy_ _ _ _ _ _ _|exact Xg _ _ _ _ _|exact Kh _ _ _|exact Bt _ _|apply Ax|apply AH|apply AO|apply AC|apply AL|apply AW|apply AM|apply AT|apply AV|apply AK|intro _|split)
theorem Uf (x0:_)(x1:_)(x2:_):Loc (srcL x0 x1 x2):=by
 unfold srcL
 repeat' (first|exact AA _|exact Az|exact AN _|exact Eo _ _|apply Ax|apply AH|apply AO|apply AC|apply AL|apply AW|apply AM|apply AT|apply AV|apply AK|intro _|split)
theorem IC_ (x0:_)(x1:_)(x2:_):Loc (appN x0 x1 x2):=by
 unfold appN
 repeat' (first|exact AA _|exact Az|exact AN _|apply Ax|apply AH|apply AO|apply AC|apply AL|apply AW|apply AM|apply AT|apply AV|apply AK|intro _|split)
theorem WZ (x0:_)(x1:_)(x2:_)(x3:_):Loc (appL x0 x1 x2 x3):=by
 unfold appL
 repeat' (first|exact AA _|exact Az|exact AN _|exact Uf _ _ _|apply Ax|apply AH|apply AO|apply AC|apply AL|apply AW|apply AM|apply AT|apply AV|apply AK|intro _|split)
theorem LG_ (x0:_)(x1:_)(x2:_):Loc (oldL x0 x1 x2):=by
 unfold oldL
 repeat' (first|exact AA _|exact Az|exact AN _|exact Eo _ _|apply Ax|apply AH|apply AO|apply AC|apply AL|apply AW|apply AM|apply AT|apply AV|apply AK|intro _|split)
theorem V3 (x0:_)(x1:_)(x2:_):Loc (EN x0 x1 x2):=by
 unfold EN
 repeat' (first|exact AA _|exact Az|exact AN _|exact SZ _ _|apply Ax|apply AH|apply AO|apply AC|apply AL|apply AW|apply AM|apply AT|apply AV|apply AK|intro _|split)
theorem Aa_ (x0:_)(x1:_)(x2:_)(x3:_):Loc (C5 x0 x1 x2 x3):=by
 unfold C5
 repeat' (first|exact AA _|exact Az|exact AN _|exact V3 _ _ _|exact Co _ _|exact CU _|apply Ax|apply AH|apply AO|apply AC|apply AL|apply AW|apply AM|apply AT|apply AV|apply AK|intro _|split)
theorem Hr_ (x0:_)(x1:_)(x2:_)(x3:_)(x4:_)(x5:_)(x6:_):Loc (grow x0 x1 x2 x3 x4 x5 x6):=by
 unfold grow
 repeat' (first|exact AA _|exact Az|exact AN _|exact Aa_ _ _ _ _|exact LG_ _ _ _|exact Hm _ _ _|exact FQ _|exact Co _ _|apply Ax|apply AH|apply AO|apply AC|apply AL|apply AW|apply AM|apply AT|apply AV|apply AK|intro _|split)
theorem Jf_ (x0:_)(x1:_)(x2:_)(x3:_)(x4:_)(x5:_):Loc (E4 x0 x1 x2 x3 x4 x5):=by
 unfold E4
 repeat' (first|exact AA _|exact Az|exact AN _|exact Hm _ _ _|exact Ib _ _|apply Ax|apply AH|apply AO|apply AC|apply AL|apply AW|apply AM|apply AT|apply AV|apply AK|intro _|split)
theorem Dh_ (x0:_)(x1:_)(x2:_)(x3:_)(x4:_):Loc (CC x0 x1 x2 x3 x4):=by
 unfold CC
 repeat' (first|exact AA _|exact Az|exact AN _|exact Jf_ _ _ _ _ _ _|exact Hr_ _ _ _ _ _ _ _|exact WZ _ _ _ _|exact IC_ _ _ _|exact Bt _ _|apply Ax|apply AH|apply AO|apply AC|apply AL|apply AW|apply AM|apply AT|apply AV|apply AK|intro _|split)
theorem Cu_ (x0:_)(x1:_)(x2:_):Loc (CI x0 x1 x2):=by
 unfold CI
 repeat' (first|exact AA _|exact Az|exact AN _|exact Bt _ _|apply Ax|apply AH|apply AO|apply AC|apply AL|apply AW|apply AM|apply AT|apply AV|apply AK|intro _|split)
theorem Bq_ (x0:_)(x1:_)(x2:_)(x3:_):Loc (Cs x0 x1 x2 x3):=by
 unfold Cs
 repeat' (first|exact AA _|exact Az|exact AN _|exact Bt _ _|exact FQ _|exact Co _ _|apply Ax|apply AH|apply AO|apply AC|apply AL|apply AW|apply AM|apply AT|apply AV|apply AK|intro _|split)
theorem NN (x0:_)(x1:_)(x2:_)(x3:_):Loc (D5 x0 x1 x2 x3):=by
 unfold D5
 repeat' (first|exact AA _|exact Az|exact AN _|exact Bt _ _|apply Ax|apply AH|apply AO|apply AC|apply AL|apply AW|apply AM|apply AT|apply AV|apply AK|intro _|split)
theorem Gs_ (x0:_)(x1:_)(x2:_)(x3:_)(x4:_):Loc (E6 x0 x1 x2 x3 x4):=by
 unfold E6
 repeat' (first|exact AA _|exact Az|exact AN _|exact Uf _ _ _|exact IP _|exact Xc _|exact Bt _ _|exact Ib _ _|apply Ax|apply AH|apply AO|apply AC|apply AL|apply AW|apply AM|apply AT|apply AV|apply AK|intro _|split)
theorem Gr (x0:_):Loc (Cc x0):=by
 unfold Cc
 repeat' (first|exact AA _|exact Az|exact AN _|exact CU _|apply Ax|apply AH|apply AO|apply AC|apply AL|apply AW|apply AM|apply AT|apply AV|apply AK|intro _|split)
theorem AS_ (x0:_):Loc (FW x0):=by
 unfold FW
 repeat' (first|exact AA _|exact Az|exact AN _|exact Gr _|exact IP _|apply Ax|apply AH|apply AO|apply AC|apply AL|apply AW|apply AM|apply AT|apply AV|apply AK|intro _|split)
theorem JL_ (x0:_)(x1:_)(x2:_):Loc (aLen x0 x1 x2):=by
 unfold aLen
 repeat' (first|exact AA _|exact Az|exact AN _|exact AS_ _|exact IP _|exact Bt _ _|apply Ax|apply AH|apply AO|apply AC|apply AL|apply AW|apply AM|apply AT|apply AV|apply AK|intro _|split)
theorem Xy (x0:_)(x1:_)(x2:_):Loc (aCap x0 x1 x2):=by
 unfold aCap
 repeat' (first|exact AA _|exact Az|exact AN _|exact IP _|exact Bt _ _|apply Ax|apply AH|apply AO|apply AC|apply AL|apply AW|apply AM|apply AT|apply AV|apply AK|intro _|split)
theorem VX (x0:_)(x1:_)(x2:_):Loc (GN x0 x1 x2):=by
 unfold GN
 repeat' (first|exact AA _|exact Az|exact AN _|exact Bt _ _|exact Ib _ _|apply Ax|apply AH|apply AO|apply AC|apply AL|apply AW|apply AM|apply AT|apply AV|apply AK|intro _|split)
theorem Q9 (x0:_):Loc (zeroV x0):=by
 unfold zeroV
 repeat' (first|exact AA _|exact Az|exact AN _|apply Ax|apply AH|apply AO|apply AC|apply AL|apply AW|apply AM|apply AT|apply AV|apply AK|intro _|split)
theorem Fw (E:_)(e:_)(t:_)(k:_)(es:_):Loc (Cw E e t k es):=AH _ (AC _ fun _=>AA _)
theorem Lr (x0:_)(x1:_)(x2:_):Loc (Dj x0 x1 x2):=by
 unfold Dj
 repeat' (first|exact AA _|exact Az|exact AN _|apply Ax|apply AH|apply AO|apply AC|apply AL|apply AW|apply AM|apply AT|apply AV|apply AK|intro _|split)
theorem MR (x0:_)(x1:_):Loc (zeroOf x0 x1):=by
 unfold zeroOf
 repeat' (first|exact AA _|exact Az|exact AN _|exact Q9 _|exact Bt _ _|apply Ax|apply AH|apply AO|apply AC|apply AL|apply AW|apply AM|apply AT|apply AV|apply AK|intro _|split)
theorem Ey_ (E:_)(a:_)(b:_)(k:_)(c:_):Loc (N2 E a b k c):=Ax (Fw _ _ _ _ _) fun r=>by
 cases r with
 |none=>exact Ax (MR _ _) fun _=>Lr _ _ _
 |some j=>exact Az
theorem Fd_ (E:_)(a:_)(b:_)(k:_)(c:_)(es:_):Loc (EP E a b k c es):=Ax (Fw _ _ _ _ _) fun r=>by
 cases r with
 |none=>exact Ax (MR _ _) fun _=>Lr _ _ _
 |some j=>exact AC _ fun _=>Lr _ _ _
theorem Ic (x0:_)(x1:_):Loc (mapT x0 x1):=by
 unfold mapT
 repeat' (first|exact AA _|exact Az|exact AN _|exact Bt _ _|apply Ax|apply AH|apply AO|apply AC|apply AL|apply AW|apply AM|apply AT|apply AV|apply AK|intro _|split)
theorem De_ (E:_)(t:_)(c:_)(x:_)(k:_):Loc (EL E t c x k):=Ax (Ic _ _) fun ke=>by
 cases x with
 |map m=>
  cases m with
  |none=>exact Ey_ _ _ _ _ _
  |some l=>exact Ax (Gr _) fun p=>Fd_ _ _ _ _ _ _
 |_=>exact Az
theorem Lj_ (E:_)(t:_)(k:_)(x:_)(l:_)(p:_):Loc (putE E t k x l p):=Ax (Fw _ _ _ _ _) fun r=>by
 cases r with
 |none=>exact Co _ _
 |some j=>exact AC _ fun _=>AH _ (Co _ _)
theorem UD (E:_)(t:_)(m:_)(k:_)(x:_):Loc (DB E t m k x):=Ax (Ic _ _) fun ke=>by
 cases m with
 |map m=>
  cases m with
  |none=>exact Az
  |some l=>exact Ax (Gr _) fun p=>Ax (Lj_ _ _ _ _ _ _) fun _=>AA _
 |_=>exact Az
theorem Fi_ (E:_)(a:_)(b:_)(k:_)(l:_)(p:_):Loc (entE E a b k l p):=Ax (Fw _ _ _ _ _) fun r=>by
 cases r with
 |none=>exact Ax (MR _ _) fun _=>Ax (Co _ _) fun _=>AA _
 |some j=>exact AC _ fun _=>AH _ (Ax (Co _ _) fun _=>AA _)
theorem EQ_ (E:_)(t:_)(m:_)(k:_):Loc (H3 E t m k):=Ax (Ic _ _) fun ke=>by
 cases m with
 |map m=>
  cases m with
  |none=>exact Az
  |some l=>exact Ax (Gr _) fun p=>Fi_ _ _ _ _ _ _
 |_=>exact Az
theorem XO (x0:_)(x1:_)(x2:_):Loc (D6 x0 x1 x2):=by
 unfold D6
 repeat' (first|exact AA _|exact Az|exact AN _|exact Gr _|exact Co _ _|apply Ax|apply AH|apply AO|apply AC|apply AL|apply AW|apply AM|apply AT|apply AV|apply AK|intro _|split)
theorem Oo:Loc (Dp):=by
 unfold Dp
 repeat' (first|exact AA _|exact Az|exact AN _|exact FM _|apply Ax|apply AH|apply AO|apply AC|apply AL|apply AW|apply AM|apply AT|apply AV|apply AK|intro _|split)
theorem FT_ (x0:_)(x1:_)(x2:_):Loc (EQ x0 x1 x2):=by
 unfold EQ
 repeat' (first|exact AA _|exact Az|exact AN _|exact Oo|exact Ic _ _|apply Ax|apply AH|apply AO|apply AC|apply AL|apply AW|apply AM|apply AT|apply AV|apply AK|intro _|split)
theorem Ip_ (E:_)(t:_)(m:_)(k:_):Loc (kDel E t m k):=Ax (Ic _ _) fun ke=>by
 cases m with
 |map m=>
  cases m with
  |none=>exact Ax (Fw _ _ _ _ _) fun _=>AA _
  |some l=>exact Ax (Gr _) fun p=>Ax (Fw _ _ _ _ _) fun r=>by cases r<;>exact Ax (Co _ _) fun _=>AA _
 |_=>exact Az
theorem GG_ (x0:_)(x1:_)(x2:_)(x3:_):Loc (Bi x0 x1 x2 x3):=by
 unfold Bi
 repeat' (first|exact AA _|exact Az|exact AN _|exact Ip_ _ _ _ _|exact VX _ _ _|exact Xy _ _ _|exact JL_ _ _ _|exact Gs_ _ _ _ _ _|exact Dh_ _ _ _ _ _|exact HG _|apply Ax|apply AH|apply AO|apply AC|apply AL|apply AW|apply AM|apply AT|apply AV|apply AK|intro _|split)
theorem EY_ (x0:_)(x1:_)(x2:_)(x3:_):Loc (idxN x0 x1 x2 x3):=by
 unfold idxN
 repeat' (first|exact AA _|exact Az|exact AN _|exact Ml _|exact Bt _ _|apply Ax|apply AH|apply AO|apply AC|apply AL|apply AW|apply AM|apply AT|apply AV|apply AK|intro _|split)
theorem Lc (x0:_):Loc (asN x0):=by
 unfold asN
 repeat' (first|exact AA _|exact Az|exact AN _|apply Ax|apply AH|apply AO|apply AC|apply AL|apply AW|apply AM|apply AT|apply AV|apply AK|intro _|split)
theorem Bs_ (x0:_)(x1:_)(x2:_):Loc (B9 x0 x1 x2):=by
 unfold B9
 repeat' (first|exact AA _|exact Az|exact AN _|apply Ax|apply AH|apply AO|apply AC|apply AL|apply AW|apply AM|apply AT|apply AV|apply AK|intro _|split)
theorem Q0 (x0:_):Loc (ptrN x0):=by
 unfold ptrN
 repeat' (first|exact AA _|exact Az|exact AN _|apply Ax|apply AH|apply AO|apply AC|apply AL|apply AW|apply AM|apply AT|apply AV|apply AK|intro _|split)
theorem EL_ (x0:_)(x1:_):Loc (BY x0 x1):=by
 unfold BY
 repeat' (first|exact AA _|exact Az|exact AN _|exact Q0 _|exact Bt _ _|exact FQ _|apply Ax|apply AH|apply AO|apply AC|apply AL|apply AW|apply AM|apply AT|apply AV|apply AK|intro _|split)
theorem WE (x0:_):Loc (kBox x0):=by
 unfold kBox
 repeat' (first|exact AA _|exact Az|exact AN _|exact Q0 _|exact FQ _|apply Ax|apply AH|apply AO|apply AC|apply AL|apply AW|apply AM|apply AT|apply AV|apply AK|intro _|split)
theorem Z7 (x0:_)(x1:_)(x2:_):Loc (A4 x0 x1 x2):=by
 unfold A4
 repeat' (first|exact AA _|exact Az|exact AN _|exact FX _|exact Tr _ _ _|apply Ax|apply AH|apply AO|apply AC|apply AL|apply AW|apply AM|apply AT|apply AV|apply AK|intro _|split)
theorem Fn_ (x0:_)(x1:_)(x2:_)(x3:_):Loc (BH x0 x1 x2 x3):=by
 unfold BH
 repeat' (first|exact AA _|exact Az|exact AN _|exact FX _|exact Ao_ _ _ _ _|apply Ax|apply AH|apply AO|apply AC|apply AL|apply AW|apply AM|apply AT|apply AV|apply AK|intro _|split)
theorem Zi (x0:_):Loc (kNil x0):=by
 unfold kNil
 repeat' (first|exact AA _|exact Az|exact AN _|apply Ax|apply AH|apply AO|apply AC|apply AL|apply AW|apply AM|apply AT|apply AV|apply AK|intro _|split)
theorem Zz (b:Bool):Loc (pB b):=by cases b<;>exact AA _
theorem JY (x0:_)(x1:_)(x2:_):Loc (CR x0 x1 x2):=by
 unfold CR
 repeat' (first|exact AA _|exact Az|exact AN _|exact HG _|apply Ax|apply AH|apply AO|apply AC|apply AL|apply AW|apply AM|apply AT|apply AV|apply AK|intro _|split)
theorem X3 (P:Program)(v:Value):Loc (xorU P v):=by
 have h:=JY P .xor v
 cases v with
 |int k n=>
  cases n with
  |negSucc m=>exact JY P .xor (.int k (.negSucc m))
  |ofNat m=>
   show Loc (Option.rec (motive:=fun _=>M Value) (CR P .xor (.int k (.ofNat m))) (fun x=>M.pure x) (notK k m))
   exact AK _ (JY _ _ _) fun _=>AA _
 |_=>exact h
theorem DG_ (x0:_)(x1:_)(x2:_):Loc (kUn x0 x1 x2):=by
 unfold kUn
 repeat' (first|exact AA _|exact Az|exact AN _|exact X3 _ _|exact JY _ _ _|exact Zz _|apply Ax|apply AH|apply AO|apply AC|apply AL|apply AW|apply AM|apply AT|apply AV|apply AK|intro _|split)
theorem IS_ (x0:_)(x1:_):Loc (strOf x0 x1):=by
 unfold strOf
 repeat' (first|exact AA _|exact Az|exact AN _|exact Eo _ _|apply Ax|apply AH|apply AO|apply AC|apply AL|apply AW|apply AM|apply AT|apply AV|apply AK|intro _|split)
theorem IM_ (x0:_)(x1:_)(x2:_)(x3:_)(x4:_):Loc (Ht x0 x1 x2 x3 x4):=by
 unfold Ht
 repeat' (first|exact AA _|exact Az|exact AN _|exact IS_ _ _|exact Bt _ _|apply Ax|apply AH|apply AO|apply AC|apply AL|apply AW|apply AM|apply AT|apply AV|apply AK|intro _|split)
theorem Je_ (x0:_)(x1:_)(x2:_)(x3:_)(x4:_):Loc (GZ x0 x1 x2 x3 x4):=by
 unfold GZ
 repeat' (first|exact AA _|exact Az|exact AN _|exact HG _|exact Bt _ _|apply Ax|apply AH|apply AO|apply AC|apply AL|apply AW|apply AM|apply AT|apply AV|apply AK|intro _|split)
theorem MU (x0:_)(x1:_)(x2:_)(x3:_):Loc (DJ x0 x1 x2 x3):=by
 unfold DJ
 repeat' (first|exact AA _|exact Az|exact AN _|exact Je_ _ _ _ _ _|exact IM_ _ _ _ _ _|exact HG _|apply Ax|apply AH|apply AO|apply AC|apply AL|apply AW|apply AM|apply AT|apply AV|apply AK|intro _|split)
theorem Co_ (x0:_)(x1:_):Loc (rowN x0 x1):=by
 unfold rowN
 repeat' (first|exact AA _|exact Az|exact AN _|exact Hm _ _ _|exact FQ _|exact Co _ _|apply Ax|apply AH|apply AO|apply AC|apply AL|apply AW|apply AM|apply AT|apply AV|apply AK|intro _|split)
theorem XD (l:List UInt8):Loc (E3 l):=by
 unfold E3
 rw[Ki]
 exact AL _ fun n=>Co_ _ _
theorem WM (x0:_)(x1:_)(x2:_)(x3:_):Loc (GC x0 x1 x2 x3):=by
 unfold GC
 repeat' (first|exact AA _|exact Az|exact AN _|exact XD _|exact MU _ _ _ _|exact Bt _ _|apply Ax|apply AH|apply AO|apply AC|apply AL|apply AW|apply AM|apply AT|apply AV|apply AK|intro _|split)
theorem HR_ (x0:_)(x1:_)(x2:_)(x3:_)(x4:_)(x5:_):Loc (EG x0 x1 x2 x3 x4 x5):=by
 unfold EG
 repeat' (first|exact AA _|exact Az|exact AN _|exact MU _ _ _ _|exact Bt _ _|exact Eo _ _|exact CU _|apply Ax|apply AH|apply AO|apply AC|apply AL|apply AW|apply AM|apply AT|apply AV|apply AK|intro _|split)
theorem Z4 (x0:_)(x1:_)(x2:_)(x3:_):Loc (D4 x0 x1 x2 x3):=by
 unfold D4
 repeat' (first|exact AA _|exact Az|exact AN _|exact HR_ _ _ _ _ _ _|exact WM _ _ _ _|exact MU _ _ _ _|apply Ax|apply AH|apply AO|apply AC|apply AL|apply AW|apply AM|apply AT|apply AV|apply AK|intro _|split)
theorem JA_ (x0:_)(x1:_):Loc (Fr x0 x1):=by
 unfold Fr
 repeat' (first|exact AA _|exact Az|exact AN _|apply Ax|apply AH|apply AO|apply AC|apply AL|apply AW|apply AM|apply AT|apply AV|apply AK|intro _|split)
theorem Yr (x0:_)(x1:_)(x2:_):Loc (EW x0 x1 x2):=by
 unfold EW
 repeat' (first|exact AA _|exact Az|exact AN _|exact JA_ _ _|exact Bt _ _|apply Ax|apply AH|apply AO|apply AC|apply AL|apply AW|apply AM|apply AT|apply AV|apply AK|intro _|split)
theorem He_ (x0:_)(x1:_)(x2:_):Loc (EF x0 x1 x2):=by
 unfold EF
 repeat' (first|exact AA _|exact Az|exact AN _|exact Bt _ _|apply Ax|apply AH|apply AO|apply AC|apply AL|apply AW|apply AM|apply AT|apply AV|apply AK|intro _|split)
theorem Xm (x0:_)(x1:_)(x2:_)(x3:_):Loc (mkSl x0 x1 x2 x3):=by
 unfold mkSl
 repeat' (first|exact AA _|exact Az|exact AN _|exact Bt _ _|exact FQ _|apply Ax|apply AH|apply AO|apply AC|apply AL|apply AW|apply AM|apply AT|apply AV|apply AK|intro _|split)
theorem KP_ (x0:_)(x1:_)(x2:_)(x3:_):Loc (D8 x0 x1 x2 x3):=by
 unfold D8
 repeat' (first|exact AA _|exact Az|exact AN _|exact Xm _ _ _ _|exact Lc _|exact Bt _ _|apply Ax|apply AH|apply AO|apply AC|apply AL|apply AW|apply AM|apply AT|apply AV|apply AK|intro _|split)
theorem KG (x0:_)(x1:_)(x2:_):Loc (CS x0 x1 x2):=by
 unfold CS
 repeat' (first|exact AA _|exact Az|exact AN _|exact Bt _ _|apply Ax|apply AH|apply AO|apply AC|apply AL|apply AW|apply AM|apply AT|apply AV|apply AK|intro _|split)
theorem CB_ (x0:_)(x1:_)(x2:_)(x3:_):Loc (kFld x0 x1 x2 x3):=by
 unfold kFld
 repeat' (first|exact AA _|exact Az|exact AN _|exact KG _ _ _|exact Ml _|exact FX _|exact Bt _ _|apply Ax|apply AH|apply AO|apply AC|apply AL|apply AW|apply AM|apply AT|apply AV|apply AK|intro _|split)
theorem PR (x0:_):Loc (asCs x0):=by
 unfold asCs
 repeat' (first|exact AA _|exact Az|exact AN _|apply Ax|apply AH|apply AO|apply AC|apply AL|apply AW|apply AM|apply AT|apply AV|apply AK|intro _|split)
theorem Vz (x0:_)(x1:_)(x2:_)(x3:_):Loc (EJ x0 x1 x2 x3):=by
 unfold EJ
 repeat' (first|exact AA _|exact Az|exact AN _|exact PR _|exact KG _ _ _|exact NN _ _ _ _|exact Bt _ _|apply Ax|apply AH|apply AO|apply AC|apply AL|apply AW|apply AM|apply AT|apply AV|apply AK|intro _|split)
theorem Xe (x0:_)(x1:_)(x2:_)(x3:_):Loc (Bk x0 x1 x2 x3):=by
 unfold Bk
 repeat' (first|exact AA _|exact Az|exact AN _|exact Lc _|exact EY_ _ _ _ _|exact Bt _ _|apply Ax|apply AH|apply AO|apply AC|apply AL|apply AW|apply AM|apply AT|apply AV|apply AK|intro _|split)
theorem Xf (x0:_)(x1:_)(x2:_)(x3:_):Loc (idxV x0 x1 x2 x3):=by
 unfold idxV
 repeat' (first|exact AA _|exact Az|exact AN _|exact NN _ _ _ _|exact Bt _ _|apply Ax|apply AH|apply AO|apply AC|apply AL|apply AW|apply AM|apply AT|apply AV|apply AK|intro _|split)
theorem Bw_ (x0:_)(x1:_)(x2:_)(x3:_):Loc (kIdx x0 x1 x2 x3):=by
 unfold kIdx
 repeat' (first|exact AA _|exact Az|exact AN _|exact Xf _ _ _ _|exact Lc _|exact Bt _ _|apply Ax|apply AH|apply AO|apply AC|apply AL|apply AW|apply AM|apply AT|apply AV|apply AK|intro _|split)
theorem Ae_ (x0:_)(x1:_):Loc (kExt x0 x1):=by
 unfold kExt
 repeat' (first|exact AA _|exact Az|exact AN _|apply Ax|apply AH|apply AO|apply AC|apply AL|apply AW|apply AM|apply AT|apply AV|apply AK|intro _|split)
theorem Hd_ (x0:_)(x1:_)(x2:_):Loc (okV x0 x1 x2):=by
 unfold okV
 repeat' (first|exact AA _|exact Az|exact AN _|apply Ax|apply AH|apply AO|apply AC|apply AL|apply AW|apply AM|apply AT|apply AV|apply AK|intro _|split)
theorem BL_ (x0:_)(x1:_)(x2:_):Loc (Es x0 x1 x2):=by
 unfold Es
 repeat' (first|exact AA _|exact Az|exact AN _|exact Bt _ _|exact FM _|apply Ax|apply AH|apply AO|apply AC|apply AL|apply AW|apply AM|apply AT|apply AV|apply AK|intro _|split)
theorem ED_ (x0:_)(x1:_)(x2:_):Loc (sitN x0 x1 x2):=by
 unfold sitN
 repeat' (first|exact AA _|exact Az|exact AN _|exact Co _ _|apply Ax|apply AH|apply AO|apply AC|apply AL|apply AW|apply AM|apply AT|apply AV|apply AK|intro _|split)
theorem EH_ (x0:_):Loc (DZ x0):=by
 unfold DZ
 repeat' (first|exact AA _|exact Az|exact AN _|exact ED_ _ _ _|exact CU _|apply Ax|apply AH|apply AO|apply AC|apply AL|apply AW|apply AM|apply AT|apply AV|apply AK|intro _|split)
theorem VE (x0:_)(x1:_)(x2:_)(x3:_):Loc (EE x0 x1 x2 x3):=by
 unfold EE
 repeat' (first|exact AA _|exact Az|exact AN _|exact Hd_ _ _ _|exact Q9 _|exact Bt _ _|apply Ax|apply AH|apply AO|apply AC|apply AL|apply AW|apply AM|apply AT|apply AV|apply AK|intro _|split)
theorem EG_:Loc (GS):=by
 unfold GS
 repeat' (first|exact AA _|exact Az|exact AN _|exact Kj _|exact Hl|apply Ax|apply AH|apply AO|apply AC|apply AL|apply AW|apply AM|apply AT|apply AV|apply AK|intro _|split)
theorem Iy_ (x0:_)(x1:_):Loc (Ie x0 x1):=by
 unfold Ie
 repeat' (first|exact AA _|exact Az|exact AN _|exact Kj _|exact Hl|apply Ax|apply AH|apply AO|apply AC|apply AL|apply AW|apply AM|apply AT|apply AV|apply AK|intro _|split)
inductive ChR (r:Inj):List PanicEntry→List PanicEntry→Prop
 |nil:ChR r [] []
 |cons {e e':PanicEntry} {l l':List PanicEntry}:VR r e.v e'.v→e'.recovered=e.recovered→e'.goexit=e.goexit→ChR r l l'→ChR r (e::l) (e'::l')
theorem ChR.mono {r r':Inj}(h:r.le r'){l l':List PanicEntry}(k:ChR r l l'):ChR r' l l':=by
 induction k with
 |nil=>exact .nil
 |cons a b c _ ih=>exact .cons (a.mono h) b c ih
theorem ChR.append {r:Inj}{a a' b b':List PanicEntry}(h:ChR r a a')(k:ChR r b b'):ChR r (a++b) (a'++b'):=by
 induction h with
 |nil=>exact k
 |cons x y z _ ih=>exact .cons x y z ih
inductive MoR (r:Inj):FrameMode→FrameMode→Prop
 |run:MoR r .run .run
 |ret:MoR r .returning .returning
 |pan {c c':List PanicEntry}:ChR r c c'→MoR r (.panicking c) (.panicking c')
theorem MoR.mono {r r':Inj}(h:r.le r'){m m':FrameMode}(k:MoR r m m'):MoR r' m m':=by
 cases k with
 |run=>exact .run
 |ret=>exact .ret
 |pan c=>exact .pan (c.mono h)
inductive DfR (r:Inj):Deferred→Deferred→Prop
 |fn {f f':Fn} {c c' a a':Array Value}:FnR r f f'→VRs r c.toList c'.toList→VRs r a.toList a'.toList→DfR r ⟨.fn f c,a⟩ ⟨.fn f' c',a'⟩
 |coll {b b' d:Nat}:r.blk b=some (b',d)→DfR r ⟨.collected b, #[]⟩ ⟨.collected b', #[]⟩
theorem DfR.mono {r r':Inj}(h:r.le r'){m m':Deferred}(k:DfR r m m'):DfR r' m m':=by
 cases k with
 |fn a b c=>exact .fn (a.mono h) (b.mono h) (c.mono h)
 |coll a=>exact .coll (h.1 _ _ a)
inductive DfsR (r:Inj):List Deferred→List Deferred→Prop
 |nil:DfsR r [] []
 |cons {e e':Deferred} {l l':List Deferred}:DfR r e e'→DfsR r l l'→DfsR r (e::l) (e'::l')
theorem DfsR.mono {r r':Inj}(h:r.le r'){l l':List Deferred}(k:DfsR r l l'):DfsR r' l l':=by
 induction k with
 |nil=>exact .nil
 |cons a _ ih=>exact .cons (a.mono h) ih
def CxR (r:Inj)(base:List Deferred×List Frame)(cx:Ctx)(b:Frame)(dfs:List Deferred)(cs:List Frame):Prop:=
 match cx with
 | .no=>dfs=base.1∧cs=base.2
 | .cx up d=>
  (match up with
   |none=>b.kind= .normal∧cs=base.2
   |some m=>b.kind= .deferred∧ ∃c rest m',base.2=c::rest∧cs={c with mode:=m'}::rest∧MoR r m m')∧
  (match d with
   |none=>b.roundOf≠none∧dfs=[]
   |some l=>b.roundOf=none∧DfsR r l dfs)
theorem CxR.mono {r r':Inj}(h:r.le r'){base:List Deferred×List Frame}{cx:Ctx}{b:Frame}{dfs:List Deferred}{cs:List Frame}(k:CxR r base cx b dfs cs):CxR r' base cx b dfs cs:=by
 unfold CxR at *
 cases cx with
 |no=>exact k
 |cx up d=>
  obtain⟨k1,k2⟩:=k
  constructor
  ·cases up with
   |none=>exact k1
   |some m=>obtain⟨q1,c,rest,m',q2,q3,q4⟩:=k1;exact⟨q1,c,rest,m',q2,q3,q4.mono h⟩
  ·cases d with
   |none=>exact k2
   |some l=>exact⟨k2.1,k2.2.mono h⟩
def frm (b:Frame)(t:Array Value)(d:List Deferred)(todo:List Item):Frame:={fn:=b.fn,tmps:=t,todo,defers:=d,mode:= .run,kind:=b.kind,roundOf:=b.roundOf}
def putT (t:Array Value)(dst:Option Nat)(v:Value):Array Value:=
 match dst with
 |some d=>t.setIfInBounds d v
 |none=>t
theorem K6 (b:Frame)(t:Array Value)(d:List Deferred)(todo:List Item):(frm b t d todo).eval=Act.eval ⟨t,d⟩:=funext fun x=>by cases x<;>rfl
theorem DM (b:Frame)(t:Array Value)(d:List Deferred){ops:Array Oper}{i:Nat}{o:Oper}(ho:ops[i]?=some o)(rest:List Nat)(k:List Item)(v:Value):
  (frm b t d (.inRegion ops (i::rest)::k)).finish v=frm b (putT t o.dst v) d (.inRegion ops rest::k):=by
 cases h:o.dst<;>simp[Frame.finish,frm,putT,ho,h]
section
variable {P:Program}{b:Frame}{t:Array Value}{d:List Deferred}{k:List Item}{cs:List Frame}{w:World}{ops:Array Oper}
theorem DR {i:Nat}{rest:List Nat}{o:Oper}(ho:ops[i]?=some o)(hw:Region.wanted o (yielded ops t)=true)(hd:b.roundOf=none∨ ∀c,o.op≠ .defer c):
  stepG P true {frame:=frm b t d (.inRegion ops (i::rest)::k),callers:=cs,status:= .running,dying:=none} w=
   stepG.apply P true (frm b t d (.inRegion ops (i::rest)::k)) cs none (execOp (Act.eval ⟨t,d⟩) o) w:=by
 have he:=K6 b t d (.inRegion ops (i::rest)::k)
 have e1:stepG P true {frame:=frm b t d (.inRegion ops (i::rest)::k),callers:=cs,status:= .running,dying:=none} w=
   stepG.oper P true (frm b t d (.inRegion ops (i::rest)::k)) cs none w:=by
  simp[stepG,stepG.exec,frm,ho,hw]
 rw[e1]
 have e2:(frm b t d (.inRegion ops (i::rest)::k)).oper?=some o:=ho
 unfold stepG.oper
 simp only[e2,he]
 split
 ·rename_i l c h1 h2
  rcases hd with hd|hd
  ·rw[show(frm b t d (.inRegion ops (i::rest)::k)).roundOf=b.roundOf from rfl,hd]at h1
   cases h1
  ·exact absurd h2 (hd c)
 ·rfl
theorem CV_ {id:Nat}:step P (lone (frm b t d (.code (.region id ops false)::k)) cs w)= .next (lone (frm b t d (.inRegion ops (List.range ops.size)::k)) cs w):=
 step_lone_go (by simp[stepG,stepG.exec,frm])
theorem Lt_ {id:Nat}:
  step P (lone (frm b t d (.code (.region id ops true)::k)) cs w)=
   .next (lone (frm b t d (.inRegion ops (Region.schedule (P.follows .mixedOrders) ops (w.tape w.drawn (.order b.fn id)))::k)) cs {w with drawn:=w.drawn+1}):=
 step_lone_go (by simp[stepG,stepG.exec,frm,choose,Sem.run,Question.forced,Question.cut])
theorem YQ:step P (lone (frm b t d (.inRegion ops []::k)) cs w)= .next (lone (frm b t d k) cs w):=
 step_lone_go (by simp[stepG,stepG.exec,frm])
theorem DZ_ {i:Nat}{o:Oper}{rest:List Nat}(ho:ops[i]?=some o)(h:Region.wanted o (yielded ops t)=false):
  step P (lone (frm b t d (.inRegion ops (i::rest)::k)) cs w)= .next (lone (frm b (putT t o.dst undef) d (.inRegion ops rest::k)) cs w):=by
 rw[←DM b t d ho]
 exact step_lone_go (by simp[stepG,stepG.exec,frm,ho,h])
end
def Ends (P:Program)(r:Inj)(out:Out Value)(m:Machine)(c:Frame)(cs:List Frame)(w':World):Prop:=
 match out with
 | .inl v=> ∃v',VR r v v'∧Steps P m (lone (c.finish v') cs w')
 | .inr ch=> ∃ch',ChR r ch ch'∧Steps P m (lone (c.raise ch') cs w')
def MZ (P:Program)(w0 w:World)(r:Inj)(s:St)(f:Nat)(args':List Value)(out:Out Value)(s':St):Prop:=
 ∃v v' w' r',out= .inl v∧VR r' v v'∧Goes w0 r s s' r' w'∧s'.lim=s.lim∧s'.cx=s.cx∧(callFunc f args'.toArray).run P w= .ok (.value v') w'
structure CallOK (E:Env)(call:Aw):Prop where
 loc: ∀f args,Loc (call f args)
 ok: ∀{w0 w:World} {r:Inj} {f:Nat} {args args':List Value} {s:St} {out:Out Value} {s':St},call f args s=rOf out s'→Rel w0 r s.mem w→Bnd s→Bj r s.next s'.next→VRs r args args'→
  ((∀w,(callFunc f args'.toArray).run E.P w= .ok (.enter f args'.toArray) w)∧
  ∀c cs,∃w' r',Goes w0 r s s' r' w'∧s'.lim=s.lim∧s'.cx=s.cx∧Ends E.P r' out (lone (Frame.enter E.P f args'.toArray .normal) (c::cs) w) c cs w')∨
  (E.ext.get f≠none∧MZ E.P w0 w r s f args' out s')
structure RoundOK (E:Env)(round:Aw):Prop where
 loc: ∀l args,Loc (round l args)
 ok: ∀{w0 w:World} {r:Inj} {l l' d:Nat} {args args':List Value} {s:St} {out:Out Value} {s':St},round l args s=rOf out s'→Rel w0 r s.mem w→Bnd s→Bj r s.next s'.next→VRs r args args'→r.blk l=some (l',d)→
  ∃f tm as bd,(Instr.yield l' args'.toArray).run E.P w= .ok (.round l' f tm as bd) w∧
  ∀c cs,∃w' r',Goes w0 r s s' r' w'∧s'.lim=s.lim∧s'.cx=s.cx∧Ends E.P r' out (lone (Frame.round l' f tm as bd .normal) (c::cs) w) c cs w'
def Lj (P:Program)(r:Inj)(out:Out Value)(m:Machine)(b:Frame)(t:Array Value)(dfs:List Deferred)(ops:Array Oper)(o:Oper)(rest:List Nat)(k:List Item)(cs:List Frame)(w':World):Prop:=
 match out with
 | .inl v=> ∃v',VR r v v'∧Steps P m (lone (frm b (putT t o.dst v') dfs (.inRegion ops rest::k)) cs w')
 | .inr ch=> ∃ch' td,ChR r ch ch'∧Steps P m (lone {frm b t dfs td with mode:= .panicking ch'} cs w')
def OpS (E:Env)(o:Oper)(c:Cl OpT)(ds:List Nat):Prop:=
 ∃f,c= .mk f∧(∀call round,CallOK E call→RoundOK E round→ ∀rho tm,Loc (f call round rho tm))∧
  ∀call round,CallOK E call→RoundOK E round→ ∀(w0 w:World) (r:Inj) (U:Nat→Prop) rho tm (b:Frame) (t:Array Value) (dfs:List Deferred) (cs:List Frame) (base:List Deferred×List Frame) (s:St) (out:Out Value) (s':St),
   SlR r U ds rho tm t→(∀t,Operand.tmp t∈o.op.operands.toList→U t)→Rel w0 r s.mem w→CxR r base s.cx b dfs cs→Bnd s→Bj r s.next s'.next→f call round rho tm s=rOf out s'→
   ∀(ops:Array Oper) i rest k,ops[i]?=some o→Region.wanted o (yielded ops t)=true→
    ∃w' r' dfs' cs',Goes w0 r s s' r' w'∧CxR r' base s'.cx b dfs' cs'∧s'.lim=s.lim∧
     Lj E.P r' out (lone (frm b t dfs (.inRegion ops (i::rest)::k)) cs w) b t dfs' ops o rest k cs' w'
theorem OpS.ofV {E:Env}{o:Oper}{c:Cl OpT}{ds:List Nat}(h:OpV E o c ds)(hd: ∀c,o.op≠ .defer c)(hl: ∀f,c= .mk f→ ∀call round rho tm,Loc (f call round rho tm)):OpS E o c ds:=by
 obtain⟨f,h1,h2,h3⟩:=h
 refine⟨f,h1,fun call round _ _=>hl f h1 call round, ?_⟩
 intro call round hc hro w0 w r U rho tm b t dfs cs base s out s' hs hu hr hx hb hf e ops i rest k ho hw
 cases out with
 |inr ch=>exact((h2 call round rho tm).no _ _ _ e).elim
 |inl v=>
  obtain⟨v',w',r',k1,k2,k3,k4,k5⟩:=h3 call round w0 w r U rho tm ⟨t,dfs⟩ s v s' hs hu hr e hf
  refine⟨w',r',dfs,cs,k2,by rw[k5];exact hx.mono k2.le,k4,v',k3, .one (step_lone_go ?_)⟩
  rw[DR ho hw (.inr hd),←DM b t dfs ho]
  rcases k1 with k1|⟨k1,rfl⟩<;>simp[stepG.apply,k1]
theorem BR_ (b:Frame)(t:Array Value)(d:List Deferred)(td:List Item)(ch:List PanicEntry):(frm b t d td).raise ch={frm b t d td with mode:= .panicking ch}:=rfl
section
variable {E:Env}{ds:List Nat}{o:Oper}
theorem VR.func_inv {r:Inj}{f:Fn}{a c:Array Value}{v':Value}(h:VR r (.func f a c) v'): ∃f' a' c',v'= .func f' a' c'∧FnR r f f'∧VRs r a.toList a'.toList∧VRs r c.toList c'.toList:=by
 cases h with
 |func h1 h2 h3 h4 h5=>exact⟨_,_,_,rfl,h1,VRs.ofArr h2 h3,VRs.ofArr h4 h5⟩
theorem H4 (ρ:Operand→Value){c:Call}{ty:TypeId}{x:Operand}{f:Fn}{a cap:Array Value}(hc:c.callee= .value x)(hx:ρ x= .func f a cap):
  resolve ρ c ty=pure {target:= .fn f cap,args:=a++c.args.map ρ}:=by
 unfold resolve
 simp only[hc,hx,Deferred.ofValue]
theorem Cy_ {x:Operand}{c:Call}(ho:o.op= .call c)(hc:c.callee= .value x):OpS E o (MT ds x c.args.toList) ds:=by
 obtain⟨g,h1,h2⟩:=Bz ds x
 obtain⟨g',h3,h4⟩:=Di ds c.args.toList
 refine⟨fun call round rho tm=>M.on (g rho tm) fun f=>M.on (g' rho tm) fun l=>BP call round f l,by unfold MT;simp only[h1,h3], ?_, ?_⟩
 ·intro call round hc1 hc2 rho tm
  refine AC _ fun f=>AC _ fun l=> ?_
  unfold BP
  split
  ·exact hc1.loc _ _
  ·exact AH _ (hc2.loc _ _)
  ·exact Az
 ·intro call round hc1 hc2 w0 w r U rho tm b t dfs cs base s out s' hs hu hr hx hb hf e ops i rest k hoi hw
  have on': ∀{α β:Type} {y:Option α} {f:α→M β} {o:Out β} {s s':St},M.on y f s=rOf o s'→ ∃a,y=some a∧f a s=rOf o s':=by
   intro α β y f o s s' h
   cases y with
   |none=>exact(A7 h).elim
   |some a=>exact⟨a,rfl,h⟩
  obtain⟨fv,e1,e⟩:=on' e
  obtain⟨l,e2,e⟩:=on' e
  have hfv:=h2 _ _ _ _ ⟨t,dfs⟩ _ hs (fun t q=>hu t (by simp[ho,Op.operands,Call.operands,hc]at q ⊢;simp[q])) e1
  have hl:VRs r l (c.args.toList.map (Act.eval ⟨t,dfs⟩)):=h4 _ _ _ _ ⟨t,dfs⟩ _ hs (fun t q=>hu t (by simp[ho,Op.operands,Call.operands]at q ⊢;simp[q])) e2
  have hmap:c.args.map (Act.eval ⟨t,dfs⟩)=(c.args.toList.map (Act.eval ⟨t,dfs⟩)).toArray:=by rw[←List.map_toArray]
  have hd: ∀c,o.op≠ .defer c:=by rw[ho];intro c h;cases h
  unfold BP at e
  split at e
  ·rename_i f first cap _
   obtain⟨f',a',c',q1,q2,q3,q4⟩:=hfv.func_inv
   cases f' with
   |func f'=>
    simp only[FnR]at q2
    subst q2
    have e1:(a'++c.args.map (Act.eval ⟨t,dfs⟩)++c')=(a'.toList++(c.args.toList.map (Act.eval ⟨t,dfs⟩)++c'.toList)).toArray:=by
     rw[hmap];simp
    rcases hc1.ok e hr hb hf (args':=a'.toList++(c.args.toList.map (Act.eval ⟨t,dfs⟩)++c'.toList)) (q3.append (hl.append q4))with⟨k1,k2⟩|⟨_,v,v',w',r',rfl,g1,g2,g3,g4,g5⟩
    case inr=>
     have hrun:(execOp (Act.eval ⟨t,dfs⟩) o).run E.P w= .ok (.value v') w':=by
      simp only[execOp,ho,H4 _ hc q1]
      simp only[invoke,Sem.run_bind,Sem.run_pure,Result.andThen_ok,e1,g5]
     refine⟨w',r',dfs,cs,g2,by rw[g4];exact hx.mono g2.le,g3,v',g1, .one (step_lone_go ?_)⟩
     rw[DR hoi hw (.inr hd),←DM b t dfs hoi]
     simp[stepG.apply,hrun]
    obtain⟨w',r',g1,g2,g3,g4⟩:=k2 (frm b t dfs (.inRegion ops (i::rest)::k)) cs
    have henter:step E.P (lone (frm b t dfs (.inRegion ops (i::rest)::k)) cs w)=
      .next (lone (Frame.enter E.P f (a'.toList++(c.args.toList.map (Act.eval ⟨t,dfs⟩)++c'.toList)).toArray .normal) (frm b t dfs (.inRegion ops (i::rest)::k)::cs) w):=by
     refine step_lone_go ?_
     rw[DR hoi hw (.inr hd)]
     have hrun:(execOp (Act.eval ⟨t,dfs⟩) o).run E.P w= .ok (.enter f (a'.toList++(c.args.toList.map (Act.eval ⟨t,dfs⟩)++c'.toList)).toArray) w:=by
      simp only[execOp,ho,H4 _ hc q1]
      simp only[invoke,Sem.run_bind,Sem.run_pure,Result.andThen_ok,e1,k1]
     simp[stepG.apply,hrun,frm]
    refine⟨w',r',dfs,cs,g1,by rw[g3];exact hx.mono g1.le,g2, ?_⟩
    unfold Ends at g4
    cases out with
    |inl v=>
     obtain⟨v',p1,p2⟩:=g4
     rw[DM b t dfs hoi]at p2
     exact⟨v',p1, .head henter p2⟩
    |inr ch=>
     obtain⟨ch',p1,p2⟩:=g4
     exact⟨ch',_,p1, .head henter p2⟩
   |_=>simp only[FnR]at q2
  ·rename_i lp first cap _
   obtain⟨f',a',c',q1,q2,q3,q4⟩:=hfv.func_inv
   cases f' with
   |yield lp'=>
    obtain⟨dd,q2⟩:=q2
    cases hemp:first.isEmpty with
    |false=>rw[hemp]at e;exact(A7 e).elim
    |true=>
     rw[hemp]at e
     have e':round lp l s=rOf out s':=e
     have hfe:first= #[]:=by simpa using hemp
     subst hfe
     have ha':a'= #[]:=by have:=q3.1;simp at this;simpa using this.symm
     subst ha'
     obtain⟨fn,tmn,as,bd,k1,k2⟩:=hc2.ok e' hr hb hf hl q2
     obtain⟨w',r',g1,g2,g3,g4⟩:=k2 (frm b t dfs (.inRegion ops (i::rest)::k)) cs
     have henter:step E.P (lone (frm b t dfs (.inRegion ops (i::rest)::k)) cs w)=
       .next (lone (Frame.round lp' fn tmn as bd .normal) (frm b t dfs (.inRegion ops (i::rest)::k)::cs) w):=by
      refine step_lone_go ?_
      rw[DR hoi hw (.inr hd)]
      have hrun:(execOp (Act.eval ⟨t,dfs⟩) o).run E.P w= .ok (.round lp' fn tmn as bd) w:=by
       simp only[execOp,ho,H4 _ hc q1]
       have e1:(#[]++c.args.map (Act.eval ⟨t,dfs⟩))=(c.args.toList.map (Act.eval ⟨t,dfs⟩)).toArray:=by
        rw[hmap];simp
       simp only[invoke,Sem.run_bind,Sem.run_pure,Result.andThen_ok,e1,k1]
      simp[stepG.apply,hrun,frm]
     refine⟨w',r',dfs,cs,g1,by rw[g3];exact hx.mono g1.le,g2, ?_⟩
     unfold Ends at g4
     cases out with
     |inl v=>
      obtain⟨v',p1,p2⟩:=g4
      rw[DM b t dfs hoi]at p2
      exact⟨v',p1, .head henter p2⟩
     |inr ch=>
      obtain⟨ch',p1,p2⟩:=g4
      exact⟨ch',_,p1, .head henter p2⟩
   |_=>simp only[FnR]at q2
  ·exact(A7 e).elim
theorem S0 (s:FieldStep)(a:Addr):Loc (KB E s a):=Ax (Bt _ _) fun _i=>Ax (KG _ _ _) fun _p=>AH _ (Ax (Ml _) fun _v=>AA _)
theorem Z0 (s:FieldStep)(cs:List Value):Loc (Jy E s cs):=Ax (Bt _ _) fun _i=>Ax (KG _ _ _) fun _p=>Ax (NN _ _ _ _) fun _v=>AA _
theorem CO_ (s:FieldStep)(v:Value)(b:Bool):Loc (Ej E s v b):=by
 unfold Ej
 split
 ·exact Ax (FX _) fun a=>Ax (S0 _ _) fun p=>AA _
 ·exact Ax (FX _) fun a=>Ax (S0 _ _) fun p=>AA _
 ·exact Ax (PR _) fun a=>Ax (Z0 _ _) fun p=>AA _
 ·exact Az
theorem TJ: ∀(l:List FieldStep) (t:Nat) (v:Value) (b:Bool),Loc (Hq E l t v b)
 |[],_,_,_=>AA _
 |s::l,_,v,b=>Ax (CO_ s v b) fun _p=>TJ l _ _ _
theorem X1 (t:Nat)(v:Value)(name:String):Loc (Eh E t v name):=AC _ fun _m=>AC _ fun _fp=>Ax (TJ _ _ _ _) fun _q=>Ax (Bt _ _) fun _i=>AH _ (AA _)
theorem Pc (s:FieldStep)(a:Addr):NoPan (KB E s a):=Ay (Bv _ _) fun _i=>Ay (KR _ _ _) fun _p=>AJ _ (Ay (Nl _) fun _v=>AD _)
theorem Gh_ (s:FieldStep)(cs:List Value):NoPan (Jy E s cs):=Ay (Bv _ _) fun _i=>Ay (KR _ _ _) fun _p=>Ay (NU _ _ _ _) fun _v=>AD _
theorem YY (s:FieldStep)(v:Value)(b:Bool):NoPan (Ej E s v b):=by
 unfold Ej
 split
 ·exact Ay (Gv _) fun a=>Ay (Pc _ _) fun p=>AD _
 ·exact Ay (Gv _) fun a=>Ay (Pc _ _) fun p=>AD _
 ·exact Ay (Si _) fun a=>Ay (Gh_ _ _) fun p=>AD _
 ·exact AE
theorem Tt: ∀(l:List FieldStep) (t:Nat) (v:Value) (b:Bool),NoPan (Hq E l t v b)
 |[],_,_,_=>AD _
 |s::l,_,v,b=>Ay (YY s v b) fun _p=>Tt l _ _ _
theorem FY_ (t:Nat)(v:Value)(name:String):NoPan (Eh E t v name):=AG _ fun _m=>AG _ fun _fp=>Ay (Tt _ _ _ _) fun _q=>Ay (Bv _ _) fun _i=>AJ _ (AD _)
def PlR (r:Inj)(b:Bool)(v:Value)(p:Place):Prop:=
 match b,p with
 |false, .val v'=>VR r v v'
 |true, .var a'=> ∃a,v= .pointer (some a)∧AR r a a'
 |_,_=>False
theorem RZ {w:World}{r:Inj}{s s':St}{st:FieldStep}{a a2:Addr}{p:Nat×Value}(he:EnvTy E)(h:KB E st a s= .some p s')(ha:AR r a a2):
  s=s'∧ ∃fs fd a3,(underlying st.struct).run E.P w= .ok (.struct fs) w∧fs[st.index]?=some fd∧p.1=fd.type∧(fieldPlace a2 fd).run E.P w= .ok a3 w∧PlR r true p.2 (.var a3):=by
 obtain⟨i,s1,h1,h2⟩:=bind_some h
 obtain⟨hi,rfl⟩:=Bg h1 he
 obtain⟨q,s2,h5,h6⟩:=bind_some h2
 obtain⟨h7,h8⟩:=Br h6
 obtain⟨v,s3,h9,h10⟩:=bind_some h8
 obtain⟨rfl,rfl⟩:=IR h9
 obtain⟨rfl,rfl⟩:=AB h10
 obtain⟨rfl,fs,fd,fi,hu,hfd,hfi,rfl⟩:=J0 he h5
 have hz:fi.size≠0:=by
  intro h0
  simp[h0]at h7
 refine⟨rfl,fs,fd,a2.add fd.offset,by rw[hi.run_und,hu],hfd,rfl, ?_,_,rfl,ha.add _⟩
 simp[fieldPlace,hfi.run_size,hz]
theorem Kf_ {w:World}{r:Inj}{s s':St}{st:FieldStep}{cs:List Value}{cs':Array Value}{p:Nat×Value}(he:EnvTy E)(h:Jy E st cs s= .some p s')(hc:VRs r cs cs'.toList):
  s=s'∧ ∃fs fd v',(underlying st.struct).run E.P w= .ok (.struct fs) w∧fs[st.index]?=some fd∧p.1=fd.type∧(part fd.type cs' fd.offset).run E.P w= .ok v' w∧VR r p.2 v':=by
 obtain⟨i,s1,h1,h2⟩:=bind_some h
 obtain⟨hi,rfl⟩:=Bg h1 he
 obtain⟨q,s2,h5,h6⟩:=bind_some h2
 obtain⟨v,s3,h9,h10⟩:=bind_some h6
 obtain⟨rfl,rfl⟩:=AB h10
 obtain⟨rfl,fs,fd,fi,hu,hfd,hfi,rfl⟩:=J0 he h5
 obtain⟨rfl,v',g1,g2⟩:=MI (w:=w) he h9 hc
 exact⟨rfl,fs,fd,v',by rw[hi.run_und,hu],hfd,rfl,g1,g2⟩
theorem HF_ {w:World}{r:Inj}{s s':St}{st:FieldStep}{v:Value}{b:Bool}{p:Nat×Value×Bool}(he:EnvTy E)(h:Ej E st v b s= .some p s'){pl:Place}(hp:PlR r b v pl)(t:Nat)(rest:List FieldStep):
  s=s'∧ ∃pl',(follow (st::rest) t pl).run E.P w=(follow rest p.1 pl').run E.P w∧PlR r p.2.2 p.2.1 pl':=by
 unfold Ej at h
 generalize e:st.deref=dr at h
 match dr,b,h,hp with
 |true,false,h,hp=>
  obtain⟨a,s1,h1,h2⟩:=bind_some h
  obtain⟨rfl,rfl⟩:=FC h1
  obtain⟨q,s2,h3,h4⟩:=bind_some h2
  obtain⟨rfl,rfl⟩:=AB h4
  cases pl with
  |var a'=>exact hp.elim
  |val v'=>
   obtain⟨a2,rfl,ha2⟩:=VR.ptr_inv hp
   obtain⟨rfl,fs,fd,a3,g1,g2,g3,g4,g5⟩:=RZ (w:=w) he h3 ha2
   refine⟨rfl, .var a3, ?_,g5⟩
   show(follow (st::rest) t _).run E.P w=(follow rest q.1 _).run E.P w
   rw[g3]
   simp[follow,g1,g2,e,Place.get,asAddr,g4]
 |false,true,h,hp=>
  obtain⟨a,s1,h1,h2⟩:=bind_some h
  obtain⟨rfl,rfl⟩:=FC h1
  obtain⟨q,s2,h3,h4⟩:=bind_some h2
  obtain⟨rfl,rfl⟩:=AB h4
  cases pl with
  |val v'=>exact hp.elim
  |var a2=>
   obtain⟨a',q1,ha2⟩:=hp
   cases q1
   obtain⟨rfl,fs,fd,a3,g1,g2,g3,g4,g5⟩:=RZ (w:=w) he h3 ha2
   refine⟨rfl, .var a3, ?_,g5⟩
   show(follow (st::rest) t _).run E.P w=(follow rest q.1 _).run E.P w
   rw[g3]
   simp[follow,g1,g2,e,g4]
 |false,false,h,hp=>
  obtain⟨cs,s1,h1,h2⟩:=bind_some h
  obtain⟨⟨c,rfl,rfl⟩,rfl⟩:=Ov h1
  obtain⟨q,s2,h3,h4⟩:=bind_some h2
  obtain⟨rfl,rfl⟩:=AB h4
  cases pl with
  |var a'=>exact hp.elim
  |val v'=>
   obtain⟨c',rfl,hc⟩:=VR.agg_inv hp
   obtain⟨rfl,fs,fd,v2,g1,g2,g3,g4,g5⟩:=Kf_ (w:=w) he h3 hc
   refine⟨rfl, .val v2, ?_,g5⟩
   show(follow (st::rest) t _).run E.P w=(follow rest q.1 _).run E.P w
   rw[g3]
   simp[follow,g1,g2,e,g4]
 |true,true,h,hp=>cases h
theorem O9 {w:World}{r:Inj}(he:EnvTy E): ∀{l:List FieldStep} {t:Nat} {v:Value} {b:Bool} {pl:Place} {s s':St} {p:Nat×Value×Bool},Hq E l t v b s= .some p s'→PlR r b v pl→
  s=s'∧ ∃pl',(follow l t pl).run E.P w= .ok (p.1,pl') w∧PlR r p.2.2 p.2.1 pl'
 |[],t,v,b,pl,s,s',p,h,hp=>by
  obtain⟨rfl,rfl⟩:=AB (show M.pure (t,v,b) s= .some p s' from h)
  exact⟨rfl,pl,by simp[follow],hp⟩
 |st::l,t,v,b,pl,s,s',p,h,hp=>by
  obtain⟨q,s1,h1,h2⟩:=bind_some (show M.bind (Ej E st v b) (fun p=>Hq E l p.1 p.2.1 p.2.2) s= .some p s' from h)
  obtain⟨rfl,pl1,g1,g2⟩:=HF_ (w:=w) he h1 hp t l
  obtain⟨rfl,pl2,g3,g4⟩:=O9 (w:=w) he h2 g2
  exact⟨rfl,pl2,by rw[g1,g3],g4⟩
theorem Wi {w:World}{r:Inj}(he:EnvTy E){t n:Nat}{v v':Value}{name:String}{s s':St}{p:Nat×Value}(h:Eh E t v name s= .some p s')(hv:VR r v v'):
  s=s'∧ ∃x,(method (n+1) t v' name).run E.P w= .ok (p.1,x) w∧VR r p.2 x:=by
 obtain⟨m,h1,h⟩:=BA h
 obtain⟨fp,h2,h⟩:=BA h
 obtain⟨q,s1,h3,h⟩:=bind_some h
 obtain⟨i,s2,h4,h⟩:=bind_some h
 obtain⟨hi,rfl⟩:=Bg h4 he
 obtain⟨h5,h6⟩:=Br h
 obtain⟨rfl,rfl⟩:=AB h6
 obtain⟨rfl,pl,g1,g2⟩:=O9 (w:=w) (r:=r) he h3 (pl:= .val v') hv
 obtain⟨info,h7,h8⟩:=Dh (show onO (E.P.info? t) (fun i=>i.methods.toList.find? fun m=>m.name==name)=some m from h1)
 have h9:info.methods.find? (fun m=>m.name==name)=some m:=by rw[←Array.find?_toList];exact h8
 obtain⟨f,pr⟩:=fp
 have key: ∃x,(∀wr,(receiverAt q.1 pl pr wr).run E.P w= .ok x w)∧VR r q.2.1 x:=by
  have hu:=hi.run_und (w:=w)
  generalize i.u=u at h5 hu
  obtain⟨q1,q2,q3⟩:=q
  simp only at h5 hu g2 ⊢
  unfold SJ at h5
  split at h5
  ·rename_i e
   rw[Bool.and_eq_true,Bool.not_eq_true']at h5
   obtain⟨h5a,h6a⟩:=h5
   subst h5a
   subst h6a
   cases pl with
   |var a=>exact g2.elim
   |val x=>exact⟨x,fun wr=>by simp[receiverAt,hu,Place.get],g2⟩
  ·rename_i hne
   have h5':=eq_of_beq h5
   subst h5'
   have hne2: ∀e,u≠ .pointer e:=fun e he=>hne e he
   cases pr with
   |true=>
    cases pl with
    |val x=>exact g2.elim
    |var a=>
     obtain⟨a1,rfl,ha⟩:=g2
     refine⟨.pointer (some a), ?_,ha.ptr⟩
     intro wr
     cases u<;>first|exact absurd rfl (hne2 _)|simp[receiverAt,hu]
   |false=>
    cases pl with
    |var a=>exact g2.elim
    |val x=>
     refine⟨x, ?_,g2⟩
     intro wr
     cases u<;>first|exact absurd rfl (hne2 _)|simp[receiverAt,hu,Place.get]
 obtain⟨x,k1,k2⟩:=key
 refine⟨rfl,x, ?_,k2⟩
 have hti:(typeInfo t).run E.P w= .ok info w:=by simp[typeInfo,program,Sem.run,h7]
 simp[method,hti,h9,g1,h2,k1]
theorem Kd_ (he:EnvTy E){x:Operand}{name:String}{c:Call}(ho:o.op= .call c)(hc:c.callee= .invoke x name):OpS E o (LX E ds x name c.args.toList) ds:=by
 obtain⟨g,h1,h2⟩:=Bz ds x
 obtain⟨g',h3,h4⟩:=Di ds c.args.toList
 refine⟨fun call round rho tm=>M.on (g rho tm) fun f=>M.on (g' rho tm) fun l=>JB E call name f l,by unfold LX;simp only[h1,h3], ?_, ?_⟩
 ·intro call round hc1 hc2 rho tm
  refine AC _ fun f=>AC _ fun l=> ?_
  unfold JB
  split
  ·exact Ax (X1 _ _ _) fun p=>hc1.loc _ _
  ·exact Az
 ·intro call round hc1 hc2 w0 w r U rho tm b t dfs cs base s out s' hs hu hr hx hb hf e ops i rest k hoi hw
  have on': ∀{α β:Type} {y:Option α} {f:α→M β} {o:Out β} {s s':St},M.on y f s=rOf o s'→ ∃a,y=some a∧f a s=rOf o s':=by
   intro α β y f o s s' h
   cases y with
   |none=>exact(A7 h).elim
   |some a=>exact⟨a,rfl,h⟩
  obtain⟨fv,e1,e⟩:=on' e
  obtain⟨l,e2,e⟩:=on' e
  have hfv:=h2 _ _ _ _ ⟨t,dfs⟩ _ hs (fun t q=>hu t (by simp[ho,Op.operands,Call.operands,hc]at q ⊢;simp[q])) e1
  have hl:VRs r l (c.args.toList.map (Act.eval ⟨t,dfs⟩)):=h4 _ _ _ _ ⟨t,dfs⟩ _ hs (fun t q=>hu t (by simp[ho,Op.operands,Call.operands]at q ⊢;simp[q])) e2
  have hmap:c.args.map (Act.eval ⟨t,dfs⟩)=(c.args.toList.map (Act.eval ⟨t,dfs⟩)).toArray:=by rw[←List.map_toArray]
  have hd: ∀c,o.op≠ .defer c:=by rw[ho];intro c h;cases h
  unfold JB at e
  split at e
  ·rename_i ty v _
   have hbind: ∃p s1,Eh E ty v name s= .some p s1∧call p.1 (p.2::l) s1=rOf out s':=by
    have e':(match Eh E ty v name s with| .none=>R.none| .some p s1=>call p.1 (p.2::l) s1| .pan c s1=> .pan c s1)=rOf out s':=by
     rw[←e]
     unfold M.bind
     cases Eh E ty v name s<;>rfl
    cases e3:Eh E ty v name s with
    |none=>rw[e3]at e';exact(A7 e').elim
    |some p s1=>rw[e3]at e';exact⟨p,s1,rfl,e'⟩
    |pan c s1=>exact((FY_ _ _ _).no _ _ _ e3).elim
   obtain⟨p,s1,e3,e4⟩:=hbind
   have inv: ∀{z:Value},VR r (.iface ty v) z→ ∃v',z= .iface ty v'∧VR r v v':=by
    intro z hz
    cases hz with
    |iface h=>exact⟨_,rfl,h⟩
   obtain⟨v',hrecv,hv⟩:=inv hfv
   ·skip
    have hfuel: ∀z:Nat,z+Made.depth=(z+99)+1:=fun z=>rfl
    obtain⟨rfl,rv,m1,m2⟩:=Wi (w:=w) (n:=E.P.types.size+99) he e3 hv
    have hm: ∀(args:Array Value),(callMethod (.iface ty v') name args).run E.P w=(callFunc p.1 (#[rv]++args)).run E.P w:=by
     intro args
     unfold callMethod
     simp only[Sem.run_bind,run_program,Result.andThen_ok]
     rw[hfuel,m1]
     simp only[Result.andThen_ok]
    have e1:(#[rv]++c.args.map (Act.eval ⟨t,dfs⟩))=(rv::c.args.toList.map (Act.eval ⟨t,dfs⟩)).toArray:=by
     rw[hmap];simp
    have hexec:(execOp (Act.eval ⟨t,dfs⟩) o).run E.P w=(callFunc p.1 (rv::c.args.toList.map (Act.eval ⟨t,dfs⟩)).toArray).run E.P w:=by
     rw[←e1,←hm]
     simp only[execOp,ho,resolve,hc,hrecv]
     have hz: ∀(y:Value) (l:Array Value),(#[y]++l)[0]?=some y:=fun y l=>(Array.getElem?_append_left (by simp)).trans rfl
     have hz2: ∀(y:Value) (l:Array Value),(#[y]++l).extract 1 (#[y]++l).size=l:=fun y l=>by
      simp[Array.extract_append]
     simp only[invoke,Sem.run_bind,Sem.run_pure,Result.andThen_ok,hz,hz2]
    rcases hc1.ok e4 hr hb hf (args':=rv::c.args.toList.map (Act.eval ⟨t,dfs⟩)) (.cons m2 hl)with⟨k1,k2⟩|⟨_,v,v',w',r',rfl,g1,g2,g3,g4,g5⟩
    case inr=>
     refine⟨w',r',dfs,cs,g2,by rw[g4];exact hx.mono g2.le,g3,v',g1, .one (step_lone_go ?_)⟩
     rw[DR hoi hw (.inr hd),←DM b t dfs hoi]
     rw[g5]at hexec
     simp[stepG.apply,hexec]
    obtain⟨w',r',g1,g2,g3,g4⟩:=k2 (frm b t dfs (.inRegion ops (i::rest)::k)) cs
    have henter:step E.P (lone (frm b t dfs (.inRegion ops (i::rest)::k)) cs w)=
      .next (lone (Frame.enter E.P p.1 (rv::c.args.toList.map (Act.eval ⟨t,dfs⟩)).toArray .normal) (frm b t dfs (.inRegion ops (i::rest)::k)::cs) w):=by
     refine step_lone_go ?_
     rw[DR hoi hw (.inr hd)]
     rw[k1]at hexec
     simp[stepG.apply,hexec,frm]
    refine⟨w',r',dfs,cs,g1,by rw[g3];exact hx.mono g1.le,g2, ?_⟩
    unfold Ends at g4
    cases out with
    |inl v=>
     obtain⟨v',p1,p2⟩:=g4
     rw[DM b t dfs hoi]at p2
     exact⟨v',p1, .head henter p2⟩
    |inr ch=>
     obtain⟨ch',p1,p2⟩:=g4
     exact⟨ch',_,p1, .head henter p2⟩
  ·exact(A7 e).elim
end
section
variable {E:Env}{ds:List Nat}{o:Oper}
theorem DH {α:Type}{g:Option α}{f:α→M Value}(h: ∀a,Loc (f a)):Loc (fun s=>Option.rec (motive:=fun _=>R Value) .none (fun a=>f a s) g):=by
 cases g with
 |none=>exact Up
 |some a=>exact h a
theorem Io_ {α:Type}{x:Option α}{f:α→St→R Value}{s s':St}{out:Out Value}(h:Option.rec (motive:=fun _=>R Value) .none (fun a=>f a s) x=rOf out s'): ∃a,x=some a∧f a s=rOf out s':=by
 cases x with
 |none=>exact(A7 h).elim
 |some a=>exact⟨a,rfl,h⟩
theorem Zq {α:Type}{b:Bool}{m:M α}{o:Out α}{s s':St}(h:M.chk b m s=rOf o s'):b=true∧m s=rOf o s':=by
 cases b with
 |false=>exact(A7 h).elim
 |true=>exact⟨rfl,h⟩
theorem FN {α β:Type}{y:Option α}{f:α→M β}{o:Out β}{s s':St}(h:M.on y f s=rOf o s'): ∃a,y=some a∧f a s=rOf o s':=by
 cases y with
 |none=>exact(A7 h).elim
 |some a=>exact⟨a,rfl,h⟩
theorem Cp {α β:Type}{m:M α}{f:α→M β}{o:Out β}{s s':St}(h:M.bind m f s=rOf o s'):(∃a s1,m s= .some a s1∧f a s1=rOf o s')∨ ∃c,m s= .pan c s'∧o= .inr c:=by
 unfold M.bind at h
 cases e:m s with
 |none=>rw[e]at h;exact(A7 h).elim
 |some a s1=>rw[e]at h;exact .inl ⟨a,s1,rfl,h⟩
 |pan c s1=>
  rw[e]at h
  obtain⟨rfl,rfl⟩:=HJ h
  exact .inr ⟨c,rfl,rfl⟩
theorem Lx {β:Type}{f:Ctx→M β}{s:St}:M.bind getCx f s=f s.cx s:=rfl
theorem FA_ {β:Type}{x:Ctx}{f:Unit→M β}{s:St}:M.bind (putCx x) f s=f () ⟨s.mem,s.next,s.lim,s.rd,s.wr,x⟩:=rfl
theorem Jw_ {x:Operand}(ho:o.op= .panic x):OpS E o (Bo ds x T7) ds:=by
 obtain⟨g,h1,h2⟩:=Bz ds x
 refine⟨_,by unfold Bo;rw[h1],fun call round _ _ rho tm=>DH fun a=> ?_, ?_⟩
 ·cases a<;>first|exact Ng _|exact Az
 ·intro call round hc1 hc2 w0 w r U rho tm b t dfs cs base s out s' hs hu hr hx hb hf e ops i rest k hoi hw
  obtain⟨v,e1,e⟩:=Io_ e
  have hv:VR r v (Act.eval ⟨t,dfs⟩ x):=h2 _ _ _ _ ⟨t,dfs⟩ _ hs (fun t q=>hu t (by simp[ho,Op.operands]at q ⊢;simp[q])) e1
  have hd: ∀c,o.op≠ .defer c:=by rw[ho];intro c h;cases h
  cases v with
  |iface ty y=>
   obtain⟨rfl,rfl⟩:=HJ (show R.pan [{v:= .iface ty y,recovered:=false}] s=rOf out s' from e)
   cases hv':Act.eval ⟨t,dfs⟩ x with
   |iface ty' y'=>
    rw[hv']at hv
    refine⟨w,r,dfs,cs, .of_rel rfl hr,hx,rfl,[{v:= .iface ty' y',recovered:=false}], .inRegion ops (i::rest)::k, .cons hv rfl rfl .nil, .one (step_lone_go ?_)⟩
    rw[DR hoi hw (.inr hd)]
    simp only[execOp,ho,hv']
    rw[←BR_]
    simp[stepG.apply,Instr.panic,goPanic,Sem.run]
   |_=>rw[hv']at hv;cases hv
  |_=>exact(A7 e).elim
theorem Bh_ {c:Call}(ho:o.op= .call c)(hc:c.callee= .builtin .recover):OpS E o (.mk fun _ _ _ _=>GS) ds:=by
 refine⟨_,rfl,fun _ _ _ _ _ _=>EG_, ?_⟩
 intro call round hc1 hc2 w0 w r U rho tm b t dfs cs base s out s' hs hu hr hx hb hf e ops i rest k hoi hw
 have hd: ∀c,o.op≠ .defer c:=by rw[ho];intro c h;cases h
 have hrun:(execOp (Act.eval ⟨t,dfs⟩) o).run E.P w= .ok .recover w:=by
  simp[execOp,ho,resolve,hc,invoke,builtin]
 have key: ∀{v v':Value} {cs':List Frame},b.roundOf=none→((tryRecover (frm b t dfs (.inRegion ops (i::rest)::k)) cs=some (v',cs'))∨(tryRecover (frm b t dfs (.inRegion ops (i::rest)::k)) cs=none∧v'= .nilIface∧cs'=cs))→
   step E.P (lone (frm b t dfs (.inRegion ops (i::rest)::k)) cs w)= .next (lone (frm b (putT t o.dst v') dfs (.inRegion ops rest::k)) cs' w):=by
  intro v v' cs' hro htr
  refine step_lone_go ?_
  rw[DR hoi hw (.inr hd),←DM b t dfs hoi]
  have hro':(frm b t dfs (.inRegion ops (i::rest)::k)).roundOf=none:=hro
  rcases htr with htr|⟨htr,rfl,rfl⟩<;>simp[stepG.apply,hrun,hro',htr]
 unfold GS at e
 rw[Lx]at e
 have fin:(∃m d,s.cx= .cx (some m) (some d))∨(∃d,s.cx= .cx none (some d)):=by
  cases hcx:s.cx with
  |no=>rw[hcx]at e;exact(A7 e).elim
  |cx up d=>
   cases d with
   |none=>rw[hcx]at e;cases up<;>exact(A7 e).elim
   |some d=>cases up with
    |none=>exact .inr ⟨d,rfl⟩
    |some m=>exact .inl ⟨m,d,rfl⟩
 rcases fin with⟨m,d,hcx⟩|⟨d,hcx⟩
 ·rw[hcx]at hx e
  unfold CxR at hx
  obtain⟨⟨q1,c0,rest0,m',q2,q3,q4⟩,q5,q6⟩:=hx
  have htry:=tryRecover_deferred (fr:=frm b t dfs (.inRegion ops (i::rest)::k)) q1 cs
  cases hrm:recM m with
  |none=>
   replace e:Option.rec (motive:=fun _=>M Value) (M.pure .nilIface) (fun p=>M.bind (putCx (.cx (some p.2) (some d))) fun _=>M.pure p.1) (recM m) s=rOf out s':=e
   rw[hrm]at e
   obtain⟨rfl,rfl⟩:=Bu (show R.some .nilIface s=rOf out s' from e)
   refine⟨w,r,dfs,cs, .of_rel rfl hr, ?_,rfl, .nilIface, .nilIface, .one (key (v:= .nilIface) q5 (.inr ⟨?_,rfl,rfl⟩))⟩
   ·rw[hcx];exact⟨⟨q1,c0,rest0,m',q2,q3,q4⟩,q5,q6⟩
   ·rw[htry,q3]
    cases q4 with
    |run=>rfl
    |ret=>rfl
    |pan hch=>
     cases hch with
     |nil=>rfl
     | @cons e0 e1 l0 l1 p1 p2 p3 p4=>
      obtain⟨ev,er,eg⟩:=e0
      obtain⟨ev',er',eg'⟩:=e1
      simp only at p1 p2 p3
      subst p2
      subst p3
      cases er'<;>cases eg'<;>first|rfl|(simp[recM]at hrm)
  |some p=>
   replace e:Option.rec (motive:=fun _=>M Value) (M.pure .nilIface) (fun p=>M.bind (putCx (.cx (some p.2) (some d))) fun _=>M.pure p.1) (recM m) s=rOf out s':=e
   rw[hrm]at e
   obtain⟨pv,pm⟩:=p
   obtain⟨rfl,rfl⟩:=Bu (show R.some pv ⟨s.mem,s.next,s.lim,s.rd,s.wr, .cx (some pm) (some d)⟩=rOf out s' from e)
   unfold recM at hrm
   split at hrm
   ·rename_i v older
    simp only[Option.some.injEq,Prod.mk.injEq]at hrm
    obtain⟨rfl,rfl⟩:=hrm
    cases q4 with
    |pan hch=>
     cases hch with
     | @cons _ e1 _ l1 p1 p2 p3 p4=>
      obtain⟨ev,er,eg⟩:=e1
      simp only at p1 p2 p3
      subst p2
      subst p3
      refine⟨w,r,dfs,{c0 with mode:= .panicking ({v:=ev,recovered:=true}::l1)}::rest0, .of_rel rfl hr, ?_,rfl,ev,p1, .one (key (v:=v) q5 (.inl ?_))⟩
      ·exact⟨⟨q1,c0,rest0,_,q2,rfl, .pan (.cons p1 rfl rfl p4)⟩,q5,q6⟩
      ·rw[htry,q3];rfl
   ·cases hrm
 ·rw[hcx]at hx e
  unfold CxR at hx
  obtain⟨⟨q1,q2⟩,q5,q6⟩:=hx
  obtain⟨rfl,rfl⟩:=Bu (show R.some .nilIface s=rOf out s' from e)
  refine⟨w,r,dfs,cs, .of_rel rfl hr, ?_,rfl, .nilIface, .nilIface, .one (key (v:= .nilIface) q5 (.inr ⟨?_,rfl,rfl⟩))⟩
  ·rw[hcx];exact⟨⟨q1,q2⟩,q5,q6⟩
  ·have hk:(frm b t dfs (.inRegion ops (i::rest)::k)).kind= .normal:=q1
   unfold tryRecover
   rw[hk]
theorem V8 {x:Operand}{c:Call}(ho:o.op= .defer c)(hc:c.callee= .value x):OpS E o (J5 ds c) ds:=by
 obtain⟨g,h1,h2⟩:=Bz ds x
 obtain⟨g',h3,h4⟩:=Di ds c.args.toList
 refine⟨fun call round rho tm=>M.on (g rho tm) fun f=>M.on (g' rho tm) fun l=>Ie f l,by unfold J5;simp only[hc,h1,h3], ?_, ?_⟩
 ·intro call round _ _ rho tm
  exact AC _ fun f=>AC _ fun l=>Iy_ _ _
 ·intro call round hc1 hc2 w0 w r U rho tm b t dfs cs base s out s' hs hu hr hx hb hf e ops i rest k hoi hw
  obtain⟨fv,e1,e⟩:=FN e
  obtain⟨l,e2,e⟩:=FN e
  have hfv:=h2 _ _ _ _ ⟨t,dfs⟩ _ hs (fun t q=>hu t (by simp[ho,Op.operands,Call.operands,hc]at q ⊢;simp[q])) e1
  have hl:VRs r l (c.args.toList.map (Act.eval ⟨t,dfs⟩)):=h4 _ _ _ _ ⟨t,dfs⟩ _ hs (fun t q=>hu t (by simp[ho,Op.operands,Call.operands]at q ⊢;simp[q])) e2
  have hmap:c.args.map (Act.eval ⟨t,dfs⟩)=(c.args.toList.map (Act.eval ⟨t,dfs⟩)).toArray:=by rw[←List.map_toArray]
  unfold Ie at e
  rw[Lx]at e
  have fin: ∃up d fn first cap,s.cx= .cx up (some d)∧fv= .func fn first cap:=by
   cases hcx:s.cx with
   |no=>rw[hcx]at e;cases fv<;>exact(A7 e).elim
   |cx up d=>
    cases d with
    |none=>rw[hcx]at e;cases fv<;>exact(A7 e).elim
    |some d=>cases fv with
     |func fn first cap=>exact⟨up,d,fn,first,cap,rfl,rfl⟩
     |_=>rw[hcx]at e;exact(A7 e).elim
  obtain⟨up,d,fn,first,cap,hcx,rfl⟩:=fin
  ·rw[hcx]at e
   obtain⟨f',a',c',q1,q2,q3,q4⟩:=hfv.func_inv
   obtain⟨rfl,rfl⟩:=Bu (show R.some undef ⟨s.mem,s.next,s.lim,s.rd,s.wr, .cx up (some ({target:= .fn fn cap,args:=first++l.toArray}::d))⟩=rOf out s' from e)
   rw[hcx]at hx
   unfold CxR at hx
   obtain⟨p1,p2,p3⟩:=hx
   refine⟨w,r,{target:= .fn f' c',args:=a'++c.args.map (Act.eval ⟨t,dfs⟩)}::dfs,cs, .of_rel rfl hr,⟨p1,p2, .cons (.fn q2 q4 ?_) p3⟩,rfl,undef, .undef, .one (step_lone_go ?_)⟩
   ·rw[hmap];simpa using q3.append hl
   ·rw[DR hoi hw (.inl p2)]
    simp only[execOp,ho,H4 _ hc q1]
    rw[←DM b t _ hoi]
    simp[stepG.apply,frm]
theorem Pf {k:Int→Int→St→R Value}{slow:Value→Value→M Value}(hk: ∀a b,Loc (k a b))(hs: ∀x y,Loc (slow x y))(x y:Value):Loc (int2 k slow x y):=by
 unfold int2 Cn
 cases x
 case int k1 a=>
  cases y
  case int k2 b=>
   cases h1:DD k1 with
   |false=>simp only[h1];exact hs _ _
   |true=>
    cases h2:DD k2 with
    |false=>simp only[h1,h2];exact hs _ _
    |true=>simp only[h1,h2];exact hk a b
  all_goals exact hs _ _
 all_goals exact hs _ _
theorem MF {k:Cf}{slow:Value→Value→M Value}(hs: ∀x y,Loc (slow x y))(x y:Value):Loc (int3 k slow x y):=by
 unfold int3 Cn
 cases x
 case int k1 a=>
  cases y
  case int k2 b=>
   cases a with
   |negSucc m=>exact hs _ _
   |ofNat m=>
    cases b with
    |negSucc n=>exact hs _ _
    |ofNat n=>
     simp only
     cases k k1 k2 m n with
     |none=>exact hs _ _
     |some u=>exact AA _
  all_goals exact hs _ _
 all_goals exact hs _ _
theorem Ee_ {op:BinOp}{t:Nat}{x y:Operand}{f:Value→Value→M Value}(h:aBin E op t x y= .mk f): ∀a b,Loc (f a b):=by
 have slow: ∀op a b,Loc (Bm E op t x y a b):=fun op a b=>Ex_ _ _ _ _ _ _ _
 have rI': ∀n,Loc (rI n):=fun n=>by
  have:rI n=(M.pure (.int .i64 (wrap64 n)):M Value):=by funext s;unfold rI;rw[D9];rfl
  rw[this];exact AA _
 have rB': ∀b,Loc (rB b):=fun b=>by cases b<;>exact AA _
 intro a b
 cases op<;>cases h<;>first|exact slow _ _ _|exact MF (slow _) _ _|exact Pf (fun a b=>rI' _) (MF (slow _)) _ _|exact Pf (fun a b=>rB' _) (MF (slow _)) _ _
theorem Uk {x:Operand}: ∀f,Ek ds x= .mk f→ ∀call round rho tm,Loc (f call round rho tm):=by
 obtain⟨g,h1,_⟩:=Bz ds x
 intro f h
 unfold Ek at h
 rw[h1]at h
 cases h
 exact fun _ _ _ _=>DH (f:=fun a=>M.pure a) fun a=>AA a
theorem Cy {x:Operand}{k:Value→M Value}(hk: ∀a,Loc (k a)): ∀f,Bo ds x k= .mk f→ ∀call round rho tm,Loc (f call round rho tm):=by
 obtain⟨g,h1,_⟩:=Bz ds x
 intro f h
 unfold Bo at h
 rw[h1]at h
 cases h
 exact fun _ _ _ _=>DH hk
theorem Et {x y:Operand}{k:Value→Value→M Value}(hk: ∀a b,Loc (k a b)): ∀f,B4 ds x y k= .mk f→ ∀call round rho tm,Loc (f call round rho tm):=by
 obtain⟨g,h1,_⟩:=Bz ds x
 obtain⟨g',h2,_⟩:=Bz ds y
 intro f h
 unfold B4 at h
 rw[h1,h2]at h
 cases h
 exact fun _ _ rho tm=>DH (f:=fun a s=>Option.rec (motive:=fun _=>R Value) .none (fun b=>k a b s) (g' rho tm)) fun a=>DH (hk a)
theorem Kt_ {l:List Operand}{k:List Value→M Value}(hk: ∀a,Loc (k a)): ∀f,Ff ds l k= .mk f→ ∀call round rho tm,Loc (f call round rho tm):=by
 obtain⟨g,h1,_⟩:=Di ds l
 intro f h
 unfold Ff at h
 rw[h1]at h
 cases h
 exact fun _ _ _ _=>DH hk
theorem ZQ {l l':List Operand}{k:List Value→List Value→M Value}(hk: ∀a b,Loc (k a b)): ∀f,Hu ds l l' k= .mk f→ ∀call round rho tm,Loc (f call round rho tm):=by
 obtain⟨g,h1,_⟩:=Di ds l
 obtain⟨g',h2,_⟩:=Di ds l'
 intro f h
 unfold Hu at h
 rw[h1,h2]at h
 cases h
 exact fun _ _ rho tm=>DH (f:=fun a s=>Option.rec (motive:=fun _=>R Value) .none (fun b=>k a b s) (g' rho tm)) fun a=>DH (hk a)
theorem PA {l:List (Nat×Operand)}{k:List (Nat×Value)→M Value}(hk: ∀a,Loc (k a)): ∀f,D2 ds l k= .mk f→ ∀call round rho tm,Loc (f call round rho tm):=by
 obtain⟨g,h1,_⟩:=M2 ds l
 intro f h
 unfold D2 at h
 rw[h1]at h
 cases h
 exact fun _ _ _ _=>DH hk
theorem KI {x y z:Operand}{k:Value→Value→Value→M Value}(hk: ∀a b c,Loc (k a b c)): ∀f,CE ds x y z k= .mk f→ ∀call round rho tm,Loc (f call round rho tm):=by
 obtain⟨g,h1,_⟩:=Bz ds x
 obtain⟨g',h2,_⟩:=Bz ds y
 obtain⟨g2,h3,_⟩:=Bz ds z
 intro f h
 unfold CE at h
 rw[h1,h2,h3]at h
 cases h
 exact fun _ _ rho tm=>AC _ fun a=>AC _ fun b=>AC _ fun c=>hk a b c
theorem VN {t:Nat}{x:Operand}{lo hi mx:Option Operand}: ∀f,HF E ds t x lo hi mx= .mk f→ ∀call round rho tm,Loc (f call round rho tm):=by
 cases mx with
 |some m=>intro f h;cases h;exact fun _ _ _ _=>Az
 |none=>
  obtain⟨g,h1,_⟩:=Bz ds x
  obtain⟨g',h2,_⟩:=IJ ds lo
  obtain⟨g2,h3,_⟩:=IJ ds hi
  intro f h
  unfold HF Ly at h
  simp only[h1,h2,h3]at h
  cases h
  exact fun _ _ rho tm=>AC _ fun a=>AC _ fun b=>AC _ fun c=>Fy_ _ _ _ _ _
theorem U6:OpS E o Ix ds:=⟨_,rfl,fun _ _ _ _ _ _=>Az,fun _call _round _ _ _w0 _w _r _U _rho _tm _b _t _dfs _cs _base _s _out _s' _hs _hu _hr _hx _hb _hf e=>(A7 e).elim⟩
theorem DO_ (he:EnvTy E)(o:Oper)(ds:List Nat):OpS E o (Dl E ds o.op) ds:=by
 have nd: ∀{p:Op},o.op=p→(∀c,p≠ .defer c)→ ∀c,o.op≠ .defer c:=fun h k c=>by rw[h];exact k c
 generalize hop:o.op=op
 unfold Dl
 split
 ·exact .ofV (Yx hop) (nd hop (by intro c h;cases h)) Uk
 ·exact .ofV (BQ_ hop) (nd hop (by intro c h;cases h)) Uk
 ·exact .ofV (Ke_ hop) (nd hop (by intro c h;cases h)) (KI Bs_)
 ·exact .ofV (HK_ hop he) (nd hop (by intro c h;cases h)) (by intro f h;cases h;exact fun _ _ _ _=>EL_ _ _)
 ·exact .ofV (Gx_ hop) (nd hop (by intro c h;cases h)) (Cy WE)
 ·exact .ofV (YE hop he) (nd hop (by intro c h;cases h)) (PA fun a=>Cu_ _ _ _)
 ·exact .ofV (BE_ hop he) (nd hop (by intro c h;cases h)) (PA fun a=>Bq_ _ _ _ _)
 ·exact .ofV (Fq_ hop he) (nd hop (by intro c h;cases h)) (Cy fun a=>Z7 _ _ _)
 ·exact .ofV (Wn hop he) (nd hop (by intro c h;cases h)) (Et fun a b=>Fn_ _ _ _ _)
 ·exact .ofV (Eg_ hop) (nd hop (by intro c h;cases h)) (Cy Zi)
 ·refine .ofV (BN_ hop he) (nd hop (by intro c h;cases h)) ?_
  rename_i op t x y yt
  generalize hc:aBin E op t x y=c
  obtain⟨f⟩:=c
  exact Et (Ee_ hc)
 ·exact .ofV (FH_ hop) (nd hop (by intro c h;cases h)) (Cy fun a=>DG_ _ _ _)
 ·exact .ofV (EC_ hop he) (nd hop (by intro c h;cases h)) (Cy fun a=>Z4 _ _ _ _)
 ·exact .ofV (Do_ hop he) (nd hop (by intro c h;cases h)) (Cy fun a=>Yr _ _ _)
 ·exact .ofV (VD hop he) (nd hop (by intro c h;cases h)) (Cy fun a=>He_ _ _ _)
 ·exact .ofV (Kq_ hop) (nd hop (by intro c h;cases h)) (ZQ fun a b=>AA _)
 ·exact .ofV (BV_ hop he) (nd hop (by intro c h;cases h)) (Et fun a b=>KP_ _ _ _ _)
 ·exact .ofV (XL hop he) (nd hop (by intro c h;cases h)) VN
 ·exact .ofV (WL hop he) (nd hop (by intro c h;cases h)) (Cy fun a=>CB_ _ _ _ _)
 ·exact .ofV (Af_ hop he) (nd hop (by intro c h;cases h)) (Cy fun a=>Vz _ _ _ _)
 ·exact .ofV (Zs hop he) (nd hop (by intro c h;cases h)) (Et fun a b=>Xe _ _ _ _)
 ·exact .ofV (BY_ hop he) (nd hop (by intro c h;cases h)) (Et fun a b=>Bw_ _ _ _ _)
 ·exact .ofV (Gm_ hop) (nd hop (by intro c h;cases h)) (Cy fun a=>Ae_ _ _)
 ·rename_i c
  cases hc:c.callee with
  |value f=>unfold Gj;simp only[hc];exact Cy_ hop hc
  |invoke a b=>unfold Gj;simp only[hc];exact Kd_ he hop hc
  |builtin bi=>
   by_cases hbr:bi= .recover
   ·subst hbr;unfold Gj;simp only[hc];exact Bh_ hop hc
   ·have:Gj E ds c=Ff ds c.args.toList (Bi E bi c.argTypes.toList):=by
     unfold Gj
     rw[hc]
     cases bi<;>first|rfl|exact absurd rfl hbr
    rw[this]
    exact .ofV (Gy_ hop hc hbr he) (nd hop (by intro c h;cases h)) (Kt_ fun a=>GG_ _ _ _ _)
 ·exact Jw_ hop
 ·rename_i c
  cases hc:c.callee with
  |value f=>exact V8 hop hc
  |_=>unfold J5;simp only[hc];exact U6
 ·exact .ofV (Ev_ hop he) (nd hop (by intro c h;cases h)) (Cy fun a=>VE _ _ _ _)
 ·exact .ofV (XS hop he) (nd hop (by intro c h;cases h)) (Cy fun a=>BL_ _ _ _)
 ·exact .ofV (DW_ hop) (nd hop (by intro c h;cases h)) (Cy fun a=>EH_ _)
 ·exact .ofV (IY_ hop) (nd hop (by intro c h;cases h)) (by intro f h;cases h;exact fun _ _ _ _=>Oo)
 ·exact .ofV (JJ_ hop he) (nd hop (by intro c h;cases h)) (Cy fun a=>FT_ _ _ _)
 ·exact .ofV (Y3 hop he) (nd hop (by intro c h;cases h)) (Et fun a b=>De_ _ _ _ _ _)
 ·exact .ofV (Zy hop he) (nd hop (by intro c h;cases h)) (KI fun a b c=>UD _ _ _ _ _)
 ·exact .ofV (It_ hop he) (nd hop (by intro c h;cases h)) (KI fun a b c=>UD _ _ _ _ _)
 ·exact .ofV (CP_ hop he) (nd hop (by intro c h;cases h)) (Et fun a b=>EQ_ _ _ _ _)
 ·exact .ofV (WS hop) (nd hop (by intro c h;cases h)) (KI fun a b c=>XO _ _ _)
 ·exact U6
end
end Go.Proofs.Ytofanlcjeohcjaa.Am
