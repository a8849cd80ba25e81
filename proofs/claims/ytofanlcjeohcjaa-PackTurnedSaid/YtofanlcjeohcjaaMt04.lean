import Derived.Test.YtofanlcjeohcjaaMt03
import Derived.Recover
namespace Go.Proofs.Ytofanlcjeohcjaa.Am
open Go.RowKit
section
variable {E:Env}{ds:List Nat}{o:Oper}
theorem RR_ {x:Operand}(ho:o.op= .move x):OpV E o (EM ds x) ds:=Zx (by simp[ho,Op.operands]) fun a=>by simp only[execOp,ho]
theorem HO_ {x:Operand}(ho:o.op= .assign x):OpV E o (EM ds x) ds:=Zx (by simp[ho,Op.operands]) fun a=>by simp only[execOp,ho]
theorem RO_ {e:Nat}(ho:o.op= .alloc e)(he:EnvTy E):OpV E o (.mk fun _ _ _ _=>BF E e) ds:=by
 refine⟨_,rfl,fun _ _ _ _=>TJ_ _ _, ?_⟩
 intro call round w0 w r U rho tm a s v s' hs hu hr h hf
 exact(KI_ he h hr hf).val (by simp only[execOp,ho];rfl)
theorem Fj_ {e:Nat}{x:Operand}(ho:o.op= .box e x):OpV E o (Bq ds x kBox) ds:=
 CT (m:=Instr.box e) (by simp[ho,Op.operands]) (fun a=>by simp only[execOp,ho];rfl) Xp_ fun h hr hf hx=>Ox_ h hr hf hx
theorem WB_ {t:Nat}{ps:Array (Nat×Operand)}(ho:o.op= .build t ps)(he:EnvTy E):OpV E o (EV ds ps.toList (Cc E t)) ds:=
 Xw (m:=fun l=>Instr.build t l.toArray) (by simp[ho,Op.operands]) (fun a=>by simp only[execOp,ho];rw[←List.map_toArray];rfl) (Hu_ _ _) fun h hr hf hx=>DN_ he h hr (by simpa using hx)
theorem LA_ {t n:Nat}{ps:Array (Nat×Operand)}(ho:o.op= .buildSlice t n ps)(he:EnvTy E):OpV E o (EV ds ps.toList (Cf E t n)) ds:=
 Xw (m:=fun l=>Instr.buildSlice t n l.toArray) (by simp[ho,Op.operands]) (fun a=>by simp only[execOp,ho];rw[←List.map_toArray];rfl) (GJ_ _ _ _) fun h hr hf hx=>Ko_ he h hr hf (by simpa using hx)
theorem Pc_ {t:Nat}{x:Operand}(ho:o.op= .load t x)(he:EnvTy E):OpV E o (Bq ds x (AQ E t)) ds:=
 CT (m:=Instr.loadAt t) (by simp[ho,Op.operands]) (fun a=>by simp only[execOp,ho];rfl) (Dx_ _ _) fun h hr hf hx=>ER_ he h hr hx
theorem FN_ {t:Nat}{x y:Operand}(ho:o.op= .store t x y)(he:EnvTy E):OpV E o (Cj ds x y (A5 E t)) ds:=by
 obtain⟨g,h1,h2⟩:=By ds x
 obtain⟨g',h3,h4⟩:=By ds y
 refine⟨_,by unfold Cj;rw[h1,h3],fun _ _ rho tm=>DC (g:=g rho tm) (f:=fun a s=>Option.rec (motive:=fun _=>R Value) .none (fun b=>A5 E t a b s) (g' rho tm)) fun a=>DC (Vn_ _ _ a), ?_⟩
 intro call round w0 w r U rho tm a s v s' hs hu hr h hf
 obtain⟨y,e1,e2⟩:=Du (f:=fun a s=>Option.rec (motive:=fun _=>R Value) .none (fun b=>A5 E t a b s) (g' rho tm)) h
 obtain⟨z,e3,e4⟩:=Du e2
 obtain⟨rfl,w',k1,k2,k3,k4,k5⟩:=Sy_ he e4 hr (h2 _ _ _ _ _ _ hs (fun t q=>hu t (by simp[ho,Op.operands]at q ⊢;simp[q])) e1) (h4 _ _ _ _ _ _ hs (fun t q=>hu t (by simp[ho,Op.operands]at q ⊢;simp[q])) e3)
 refine⟨undef,w',r, .inr ⟨?_,rfl⟩, .of_rel k3 k2, .tuple rfl (fun i v v' e=>by simp at e),k4,k5⟩
 simp[execOp,ho,k1]
theorem KY_ {x:Operand}(ho:o.op= .nilCheck x):OpV E o (Bq ds x kNil) ds:=by
 obtain⟨g,h1,h2⟩:=By ds x
 refine⟨_,by unfold Bq;rw[h1],fun _ _ rho tm=>DC (g:=g rho tm) PM_, ?_⟩
 intro call round w0 w r U rho tm a s v s' hs hu hr h hf
 obtain⟨y,e1,e2⟩:=Du h
 have hx:=h2 _ _ _ _ _ _ hs (fun t q=>hu t (by simp[ho,Op.operands]at q ⊢;simp[q])) e1
 obtain⟨rfl,rfl,e3⟩:=NP_ (P:=E.P) (w:=w) (a:=a) ho rfl e2 hx
 exact⟨_,w,r, .inl e3, .of_rel rfl hr,hx,rfl,rfl⟩
theorem Fv_ {op:BinOp}{t yt:Nat}{x y:Operand}(ho:o.op= .binOp op t x y yt)(he:EnvTy E):OpV E o (Cl.rec (motive:=fun _=>Cl OpT) (fun f=>Cj ds x y f) (aBin E op t x y)) ds:=by
 generalize hc:aBin E op t x y=c
 obtain⟨f⟩:=c
 refine Gm (m:=fun y' z'=>do eqGuard op t x y y' z';binOp op t y' z') (by simp[ho,Op.operands]) (fun a=>by simp only[execOp,ho];rfl) (fun y' z'=> ?_) fun h hr hf hx hy=>QY_ hc he h hr hx hy
 have slow: ∀op,NoPan (A8 E op t x y y' z'):=fun op=>DA_ _ _ _ _ _ _ _
 have fast3: ∀(k:Cw) op,NoPan (int3 k (A8 E op t x y) y' z'):=fun k op=>⟨fun s c s' e=>by
  unfold int3 Cz at e
  cases y'<;>simp only at e
  case int k1 a=>
   cases z'<;>simp only at e
   case int k2 b=>
    cases a with
    |negSucc m=>exact(slow op).no _ _ _ e
    |ofNat m=>
     cases b with
     |negSucc m=>exact(slow op).no _ _ _ e
     |ofNat n=>
      simp only at e
      cases e1:k k1 k2 m n with
      |none=>rw[e1]at e;exact(slow op).no _ _ _ e
      |some u=>rw[e1]at e;cases e
   all_goals exact(slow op).no _ _ _ e
  all_goals exact(slow op).no _ _ _ e⟩
 have fast2: ∀(k:Int→Int→St→R Value) (k3:Cw) op,(∀a b,NoPan (k a b))→NoPan (int2 k (int3 k3 (A8 E op t x y)) y' z'):=fun k k3 op hk=>⟨fun s c s' e=>by
  have f3:=fast3 k3 op
  unfold int2 Cz at e
  cases y'<;>simp only at e
  case int k1 a=>
   cases z'<;>simp only at e
   case int k2 b=>
    cases e1:D2 k1 with
    |false=>rw[e1]at e;exact f3.no _ _ _ e
    |true=>
     cases e2:D2 k2 with
     |false=>rw[e1,e2]at e;exact f3.no _ _ _ e
     |true=>rw[e1,e2]at e;exact(hk a b).no _ _ _ e
   all_goals exact f3.no _ _ _ e
  all_goals exact f3.no _ _ _ e⟩
 have rI': ∀n,NoPan (rI n):=fun n=>⟨fun s c s' e=>by unfold rI at e;rw[Ee]at e;cases e⟩
 have rB': ∀b,NoPan (rB b):=fun b=>⟨fun s c s' e=>by cases b<;>cases e⟩
 cases op<;>cases hc<;>first|exact slow _|exact fast3 _ _|exact fast2 _ _ _ fun a b=>rI' _|exact fast2 _ _ _ fun a b=>rB' _
theorem UQ_ {op:UnOp}{t:Nat}{x:Operand}(ho:o.op= .unOp op t x):OpV E o (Bq ds x (kUn E.P op)) ds:=
 CT (m:=Op.unary op) (by simp[ho,Op.operands]) (fun a=>by simp only[execOp,ho];rfl) (Gz_ _ _) fun h hr hf hx=>RE_ h hr hx
theorem Dc_ {s d:Nat}{x:Operand}(ho:o.op= .convert s d x)(he:EnvTy E):OpV E o (Bq ds x (BV E s d)) ds:=
 CT (m:=convert s d) (by simp[ho,Op.operands]) (fun a=>by simp only[execOp,ho];rfl) (PN_ _ _ _) fun h hr hf hx=>GY_ he h hr hf hx
theorem JM_ {t:Nat}{x:Operand}(ho:o.op= .sliceToArrayPointer t x)(he:EnvTy E):OpV E o (Bq ds x (Dl E t)) ds:=
 CT (m:=Instr.arrayAt t) (by simp[ho,Op.operands]) (fun a=>by simp only[execOp,ho];rfl) (Mv_ _ _) fun h hr hf hx=>Ne_ he h hr hx
theorem Np_ {t:Nat}{x:Operand}(ho:o.op= .makeInterface t x)(he:EnvTy E):OpV E o (Bq ds x (FH E t)) ds:=
 CT (m:=Instr.makeInterface t) (by simp[ho,Op.operands]) (fun a=>by simp only[execOp,ho];rfl) (Nf_ _ _) fun h hr hf hx=>Ok_ he h hr hx
theorem XD_ {t:Nat}{x y:Operand}(ho:o.op= .makeSlice t x y)(he:EnvTy E):OpV E o (Cj ds x y (En E t)) ds:=
 Gm (m:=Instr.makeSlice t) (by simp[ho,Op.operands]) (fun a=>by simp only[execOp,ho];rfl) (PY_ _ _) fun h hr hf hx hy=>WV_ he h hr hf hx hy
theorem Lj_ {t f:Nat}{x:Operand}(ho:o.op= .fieldAddr t x f)(he:EnvTy E):OpV E o (Bq ds x fun a=>kFld E t a f) ds:=
 CT (m:=fun x=>Instr.fieldAt t x f) (by simp[ho,Op.operands]) (fun a=>by simp only[execOp,ho];rfl) (fun y=>RJ_ _ _ y _) fun h hr hf hx=>Uv_ he h hr hx
theorem WY_ {t f:Nat}{x:Operand}(ho:o.op= .field t x f)(he:EnvTy E):OpV E o (Bq ds x fun a=>FL E t a f) ds:=
 CT (m:=fun x=>Instr.field t x f) (by simp[ho,Op.operands]) (fun a=>by simp only[execOp,ho];rfl) (fun y=>FE_ _ _ y _) fun h hr hf hx=>Wr_ he h hr hx
theorem JA_ {t:Nat}{x y:Operand}(ho:o.op= .indexAddr t x y)(he:EnvTy E):OpV E o (Cj ds x y (BM E t)) ds:=
 Gm (m:=Instr.indexAt t) (by simp[ho,Op.operands]) (fun a=>by simp only[execOp,ho];rfl) (KU_ _ _) fun h hr hf hx hy=>Px_ he h hr hx hy
theorem Kw_ {t:Nat}{x y:Operand}(ho:o.op= .index t x y)(he:EnvTy E):OpV E o (Cj ds x y (kIdx E t)) ds:=
 Gm (m:=Instr.index t) (by simp[ho,Op.operands]) (fun a=>by simp only[execOp,ho];rfl) (Nx_ _ _) fun h hr hf hx hy=>Hl_ he h hr hx hy
theorem El_ {k:Nat}{x:Operand}(ho:o.op= .extract x k):OpV E o (Bq ds x (kExt k)) ds:=
 CT (m:=fun x=>Instr.extract x k) (by simp[ho,Op.operands]) (fun a=>by simp only[execOp,ho];rfl) (RD_ _) fun h hr hf hx=>HS_ h hr hx
theorem VU_ {xt t:Nat}{c:Bool}{x:Operand}(ho:o.op= .typeAssert x xt t c)(he:EnvTy E):OpV E o (Bq ds x (Fj E t c)) ds:=
 CT (m:=fun x=>Instr.typeAssert x xt t c) (by simp[ho,Op.operands]) (fun a=>by simp only[execOp,ho];rfl) (FZ_ _ _ _) fun h hr hf hx=>FD_ he h hr hx
end
section
variable {E:Env}{ds:List Nat}{o:Oper}
theorem QV_ {x y z:Operand}(ho:o.op= .pick x y z):OpV E o (CV ds x y z BJ) ds:=by
 obtain⟨g,h1,h2⟩:=By ds x
 obtain⟨g',h3,h4⟩:=By ds y
 obtain⟨g2,h5,h6⟩:=By ds z
 refine⟨_,by unfold CV;rw[h1,h3,h5],fun _ _ rho tm=>Ar _ fun a=>Ar _ fun b=>Ar _ fun c=>Xd_ _ _ _, ?_⟩
 intro call round w0 w r U rho tm a s v s' hs hu hr h hf
 obtain⟨x',e1,h⟩:=BH h
 obtain⟨y',e2,h⟩:=BH h
 obtain⟨z',e3,h⟩:=BH h
 obtain⟨rfl,t,k1,k2⟩:=EU_ h (h2 _ _ _ _ _ _ hs (fun t q=>hu t (by simp[ho,Op.operands]at q ⊢;simp[q])) e1) (h4 _ _ _ _ _ _ hs (fun t q=>hu t (by simp[ho,Op.operands]at q ⊢;simp[q])) e2) (h6 _ _ _ _ _ _ hs (fun t q=>hu t (by simp[ho,Op.operands]at q ⊢;simp[q])) e3)
 refine⟨_,w,r, .inl ?_, .of_rel rfl hr,k2,rfl,rfl⟩
 simp only[execOp,ho,k1]
 cases t<;>simp[asBool]
theorem Du_ {t:Nat}{x:Operand}{lo hi mx:Option Operand}(ho:o.op= .slice t x lo hi mx)(he:EnvTy E):OpV E o (Jr E ds t x lo hi mx) ds:=by
 cases mx with
 |some m=>
  exact⟨_,rfl,fun _ _ _ _=>Aq,fun call round w0 w r U rho tm a s v s' hs hu hr h hf=>by cases h⟩
 |none=>
  obtain⟨g,h1,h2⟩:=By ds x
  obtain⟨g',h3,h4⟩:=LI ds lo
  obtain⟨g2,h5,h6⟩:=LI ds hi
  refine⟨fun _ _ rho tm=>M.on (g rho tm) fun a=>M.on (g' rho tm) fun b=>M.on (g2 rho tm) fun c=>BE E t a b c,by unfold Jr Pz;simp only[h1,h3,h5],fun _ _ rho tm=>Ar _ fun a=>Ar _ fun b=>Ar _ fun c=>EI_ _ _ _ _ _, ?_⟩
  intro call round w0 w r U rho tm a s v s' hs hu hr h hf
  obtain⟨x',e1,h⟩:=BH h
  obtain⟨y',e2,h⟩:=BH h
  obtain⟨z',e3,h⟩:=BH h
  exact(WE_ he h hr (h2 _ _ _ _ _ _ hs (fun t q=>hu t (by simp[ho,Op.operands]at q ⊢;simp[q])) e1) (h4 _ _ _ _ _ _ hs (fun t q=>hu t (by simp[ho,Op.operands]at q ⊢;simp[q])) e2) (h6 _ _ _ _ _ _ hs (fun t q=>hu t (by simp[ho,Op.operands]at q ⊢;simp[q])) e3)).val (by simp only[execOp,ho];rfl)
theorem Ka_ {t:Nat}(ho:o.op= .makeMap t none):OpV E o (.mk fun _ _ _ _=>Et) ds:=by
 refine⟨_,rfl,fun _ _ _ _=>T7, ?_⟩
 intro call round w0 w r U rho tm a s v s' hs hu hr h hf
 exact(WB h hr hf).val (by simp only[execOp,ho];rfl)
theorem LQ_ {t:Nat}{x:Operand}(ho:o.op= .makeMap t (some x))(he:EnvTy E):OpV E o (Bq ds x (FE E t)) ds:=
 CT (m:=fun x=>Instr.makeMap t (some x)) (by simp[ho,Op.operands]) (fun a=>by simp only[execOp,ho];rfl) (Ng_ _ _) fun h hr hf hx=>VS_ he h hr hf hx
theorem IP_ {t:Nat}{c:Bool}{x y:Operand}(ho:o.op= .lookup t x y c)(he:EnvTy E):OpV E o (Cj ds x y (Jn E t c)) ds:=
 Gm (m:=fun x y=>Instr.lookup t x y c) (by simp[ho,Op.operands]) (fun a=>by simp only[execOp,ho];rfl) (RA_ _ _ _) fun h hr hf hx hy=>If_ he h hr hx hy
theorem FG_ {t:Nat}{x y:Operand}(ho:o.op= .mapEntry t x y)(he:EnvTy E):OpV E o (Cj ds x y (Ip E t)) ds:=
 Gm (m:=Instr.mapEntry t) (by simp[ho,Op.operands]) (fun a=>by simp only[execOp,ho];rfl) (Pw_ _ _) fun h hr hf hx hy=>GI_ he h hr hx hy
theorem P8 {x y z:Operand}{k:Value→Value→Value→M Value}{m:Value→Value→Value→Sem Unit}(hx:o.op.operands.toList=[x,y,z])(ho: ∀a:Act,execOp a.eval o=(do m (a.eval x) (a.eval y) (a.eval z);pure .skip))(np: ∀x y z,NoPan (k x y z))
  (hk: ∀{w0 w:World} {r:Inj} {x x' y y' z z':Value} {s v s'},k x y z s= .some v s'→Rel w0 r s.mem w→VR r x x'→VR r y y'→VR r z z'→v=undef∧ ∃w',(m x' y' z').run E.P w= .ok () w'∧Goes w0 r s s' r w'∧s'.lim=s.lim∧s'.cx=s.cx):OpV E o (CV ds x y z k) ds:=by
 obtain⟨g,h1,h2⟩:=By ds x
 obtain⟨g',h3,h4⟩:=By ds y
 obtain⟨g2,h5,h6⟩:=By ds z
 refine⟨_,by unfold CV;rw[h1,h3,h5],fun _ _ rho tm=>Ar _ fun a=>Ar _ fun b=>Ar _ fun c=>np _ _ _, ?_⟩
 intro call round w0 w r U rho tm a s v s' hs hu hr h hf
 obtain⟨x',e1,h⟩:=BH h
 obtain⟨y',e2,h⟩:=BH h
 obtain⟨z',e3,h⟩:=BH h
 obtain⟨rfl,w',k1,k2,k3,k4⟩:=hk h hr (h2 _ _ _ _ _ _ hs (fun t q=>hu t (by rw[hx];simp at q ⊢;simp[q])) e1) (h4 _ _ _ _ _ _ hs (fun t q=>hu t (by rw[hx];simp at q ⊢;simp[q])) e2) (h6 _ _ _ _ _ _ hs (fun t q=>hu t (by rw[hx];simp at q ⊢;simp[q])) e3)
 refine⟨undef,w',r, .inr ⟨?_,rfl⟩,k2, .undef,k3,k4⟩
 rw[ho]
 simp[k1]
theorem Kl_ {t:Nat}{x y z:Operand}(ho:o.op= .mapUpdate t x y z)(he:EnvTy E):OpV E o (CV ds x y z (Fw E t)) ds:=
 P8 (m:=Instr.mapUpdate t) (by simp[ho,Op.operands]) (fun a=>by simp only[execOp,ho]) (Cu_ _ _) fun h hr hx hy hz=>S9 he h hr hx hy hz
theorem Tk_ {t:Nat}{x y z:Operand}(ho:o.op= .insert t x y z)(he:EnvTy E):OpV E o (CV ds x y z (Fw E t)) ds:=
 P8 (m:=Instr.mapUpdate t) (by simp[ho,Op.operands]) (fun a=>by simp only[execOp,ho]) (Cu_ _ _) fun h hr hx hy hz=>S9 he h hr hx hy hz
theorem Rg_ {t:Nat}{x y z:Operand}(ho:o.op= .entryStore t x y z):OpV E o (CV ds x y z EX) ds:=
 P8 (m:=Instr.entryStore t) (by simp[ho,Op.operands]) (fun a=>by simp only[execOp,ho]) CQ_ fun h hr hx hy hz=>CK_ h hr hx hy hz
theorem HK_ {t:Nat}{x:Operand}(ho:o.op= .range t x)(he:EnvTy E):OpV E o (Bq ds x (FA E t)) ds:=
 CT (m:=Instr.range t) (by simp[ho,Op.operands]) (fun a=>by simp only[execOp,ho];rfl) (TB_ _ _) fun h hr hf hx=>EB_ he h hr hf hx
theorem To_ {x:Operand}(ho:o.op= .next x true):OpV E o (Bq ds x E6) ds:=
 CT (m:=fun x=>Instr.next x true o.type) (by simp[ho,Op.operands]) (fun a=>by simp only[execOp,ho];rfl) QF_ fun h hr hf hx=>TG_ h hr hx
theorem Xe {α β:Type}(f:α→β)(a:Array α):a.map f=(a.toList.map f).toArray:=by rw[←List.map_toArray]
theorem VRs.func {r:Inj}{f:Nat}{a a' c c':List Value}(h:VRs r a a')(k:VRs r c c'):VR r (.func (.func f) a.toArray c.toArray) (.func (.func f) a'.toArray c'.toArray):=
 .func rfl (by simpa using h.1) (fun i v v' e e'=>h.2 i v v' (by simpa using e) (by simpa using e')) (by simpa using k.1) (fun i v v' e e'=>k.2 i v v' (by simpa using e) (by simpa using e'))
theorem Lh_ {f:Nat}{first cap:Array Operand}(ho:o.op= .makeFunc (.func f) first cap):OpV E o (Jz ds first.toList cap.toList fun x c=>M.pure (.func (.func f) x.toArray c.toArray)) ds:=by
 obtain⟨g,h1,h2⟩:=D0 ds first.toList
 obtain⟨g',h3,h4⟩:=D0 ds cap.toList
 refine⟨_,by unfold Jz;rw[h1,h3],fun _ _ rho tm=>DC (g:=g rho tm) (f:=fun(a:List Value) s=>Option.rec (motive:=fun _=>R Value) .none (fun(b:List Value)=>M.pure (Value.func (.func f) a.toArray b.toArray) s) (g' rho tm)) fun a=>DC (f:=fun(b:List Value)=>M.pure (Value.func (.func f) a.toArray b.toArray)) fun b=>Ap _, ?_⟩
 intro call round w0 w r U rho tm a s v s' hs hu hr h hf
 obtain⟨x',e1,h⟩:=Du (f:=fun(a:List Value) s=>Option.rec (motive:=fun _=>R Value) .none (fun(b:List Value)=>M.pure (Value.func (.func f) a.toArray b.toArray) s) (g' rho tm)) h
 obtain⟨y',e2,h⟩:=Du (f:=fun(b:List Value)=>M.pure (Value.func (.func f) x'.toArray b.toArray)) h
 obtain⟨rfl,rfl⟩:=An h
 refine⟨_,w,r, .inl ?_, .of_rel rfl hr,(h2 _ _ _ _ _ _ hs (fun t q=>hu t (by simp[ho,Op.operands]at q ⊢;simp[q])) e1).func (h4 _ _ _ _ _ _ hs (fun t q=>hu t (by simp[ho,Op.operands]at q ⊢;simp[q])) e2),rfl,rfl⟩
 simp[execOp,ho,Instr.makeFunc]
 exact⟨Xe _ _,Xe _ _⟩
theorem Km_ {b:Builtin}{c:Call}(ho:o.op= .call c)(hb:c.callee= .builtin b)(hn:b≠ .recover)(he:EnvTy E):OpV E o (Gf ds c.args.toList (AT E b c.argTypes.toList)) ds:=by
 obtain⟨g,h1,h2⟩:=D0 ds c.args.toList
 refine⟨_,by unfold Gf;rw[h1],fun _ _ rho tm=>DC (g:=g rho tm) (Wh_ _ _ _), ?_⟩
 intro call round w0 w r U rho tm a s v s' hs hu hr h hf
 obtain⟨l,e1,h⟩:=Du h
 have hl:VRs r l (c.args.toList.map a.eval):=h2 _ _ _ _ _ _ hs (fun t q=>hu t (by simp[ho,Op.operands,Call.operands]at q ⊢;simp[q])) e1
 have key: ∀{m:Sem Value},Yields E w0 r s s' v w m→(∀(cs:Array Bool) w,(builtin b c.argTypes o.type cs (c.args.map a.eval)).run E.P w=(CO m).run E.P w)→
   ∃v' w' r',((execOp a.eval o).run E.P w= .ok (.value v') w'∨((execOp a.eval o).run E.P w= .ok .skip w'∧v'=undef))∧Goes w0 r s s' r' w'∧VR r' v v'∧s'.lim=s.lim∧s'.cx=s.cx:=by
  intro m hy hm
  obtain⟨v',w',r',k1,k2,k3,k4,k5⟩:=hy
  refine⟨v',w',r', .inl ?_,k2,k3,k4,k5⟩
  simp only[execOp,ho,resolve,hb,invoke,Sem.run_bind,Sem.run_pure,Result.andThen_ok,hm,CO,k1]
 generalize hts:c.argTypes.toList=ts at h
 have hmap:c.args.map a.eval=(c.args.toList.map a.eval).toArray:=by rw[←List.map_toArray]
 have ht0: ∀{t:Nat} {l:List Nat},c.argTypes.toList=t::l→c.argTypes[0]?=some t:=by
  intro t l e;rw[←Array.getElem?_toList,e];rfl
 have ht1: ∀{t t2:Nat} {l:List Nat},c.argTypes.toList=t::t2::l→c.argTypes[1]?=some t2:=by
  intro t t2 l e;rw[←Array.getElem?_toList,e];rfl
 unfold AT at h
 split at h
 ·rename_i t ts' x
  obtain⟨x',l',q1,q2,q3⟩:=hl.inv
  have:=q3.inv_nil
  subst this
  refine key (HC_ (ty:=o.type) (ht0 hts) he h hr q2) fun cs w=> ?_
  rw[hmap,q1];simp[builtin,CO]
 ·rename_i t ts' x
  obtain⟨x',l',q1,q2,q3⟩:=hl.inv
  have:=q3.inv_nil
  subst this
  refine key (Fx_ (ty:=o.type) (ht0 hts) he h hr q2) fun cs w=> ?_
  rw[hmap,q1];simp[builtin,CO]
 ·obtain⟨y',l1,q1,q2,q3⟩:=hl.inv
  obtain⟨x',l',q4,q5,q6⟩:=q3.inv
  have:=q6.inv_nil
  subst this
  subst q4
  refine key (SD_ (ty:=o.type) (ht0 hts) (ht1 hts) he h hr hf q2 q5) fun cs w=> ?_
  rw[hmap,q1];simp[builtin,CO]
 ·obtain⟨y',l1,q1,q2,q3⟩:=hl.inv
  obtain⟨x',l',q4,q5,q6⟩:=q3.inv
  have:=q6.inv_nil
  subst this
  subst q4
  refine key (HR_ (ty:=o.type) (ht0 hts) he h hr q2 q5) fun cs w=> ?_
  rw[hmap,q1];simp[builtin,CO]
 ·obtain⟨y',l1,q1,q2,q3⟩:=hl.inv
  obtain⟨x',l',q4,q5,q6⟩:=q3.inv
  have:=q6.inv_nil
  subst this
  subst q4
  refine key (OK_ (ty:=o.type) (ht0 hts) he h hr q2 q5) fun cs w=> ?_
  rw[hmap,q1];simp[builtin,CO]
 ·obtain⟨x',l',q1,q2,q3⟩:=hl.inv
  have:=q3.inv_nil
  subst this
  refine key (OY_ (ty:=o.type) (ht0 hts) he h hr q2) fun cs w=> ?_
  rw[hmap,q1];simp[builtin,CO]
 ·refine key (CO_ (ts:=c.argTypes) (ty:=o.type) h hr hl) fun cs w=> ?_
  rw[hmap];simp[builtin,CO]
 ·refine key (FX_ (ts:=c.argTypes) (ty:=o.type) h hr hl) fun cs w=> ?_
  rw[hmap];simp[builtin,CO]
 ·cases h
end
abbrev Out (α:Type):Type:=Sum α (List PanicEntry)
def rOf {α:Type}(o:Out α)(s:St):R α:=
 match o with
 | .inl a=> .some a s
 | .inr c=> .pan c s
def Bnd (s:St):Prop:=s.lim≤s.next
structure LocG {α:Type}(m:M α)(s:St)(o:Out α)(s':St)(Rd Wr:Nat→Prop)(dr dw:List Nat):Prop where
 rd:s'.rd=dr++s.rd
 wr:s'.wr=dw++s.wr
 nxt:s.next≤s'.next
 lim:s'.lim=s.lim
 bnd:Bnd s'
 rlt: ∀l,Rd l→l<s'.next
 wlt: ∀l,Wr l→l<s'.next
 old: ∀l,¬Wr l→T.get s'.mem l=T.get s.mem l
 any: ∀t:St,t.next=s.next→t.lim=s.lim→t.cx=s.cx→(∀l,Rd l∨Wr l→T.get t.mem l=T.get s.mem l)→
  ∃t',m t=rOf o t'∧t'.next=s'.next∧t'.lim=s'.lim∧t'.cx=s'.cx∧t'.rd=dr++t.rd∧t'.wr=dw++t.wr∧
   (∀l,Wr l→T.get t'.mem l=T.get s'.mem l)∧(∀l,¬Wr l→T.get t'.mem l=T.get t.mem l)
def CS {α:Type}(m:M α)(s:St)(o:Out α)(s':St):Prop:=
 ∃Rd Wr dr dw,LocG m s o s' Rd Wr dr dw∧(∀l,Rd l→l<s.lim→l∈dr)∧(∀l,Wr l→l<s.lim→l∈dw)
structure Loc {α:Type}(m:M α):Prop where
 at': ∀s o s',m s=rOf o s'→Bnd s→CS m s o s'
theorem LocG.seq {α β:Type}{m:M α}{n C:M β}{s s1 s':St}{o1:Out α}{o:Out β}{R1 W1 R2 W2:Nat→Prop}{r1 w1 r2 w2:List Nat}
  (h:LocG m s o1 s1 R1 W1 r1 w1) (k:LocG n s1 o s' R2 W2 r2 w2) (hC: ∀t t1,m t=rOf o1 t1→C t=n t1):LocG C s o s' (fun l=>R1 l∨R2 l) (fun l=>W1 l∨W2 l) (r2++r1) (w2++w1) where
 rd:=by rw[k.rd,h.rd,List.append_assoc]
 wr:=by rw[k.wr,h.wr,List.append_assoc]
 nxt:=Nat.le_trans h.nxt k.nxt
 lim:=k.lim.trans h.lim
 bnd:=k.bnd
 rlt:=fun l e=>e.elim (fun e=>Nat.lt_of_lt_of_le (h.rlt l e) k.nxt) (k.rlt l)
 wlt:=fun l e=>e.elim (fun e=>Nat.lt_of_lt_of_le (h.wlt l e) k.nxt) (k.wlt l)
 old:=fun l e=>(k.old l fun x=>e (.inr x)).trans (h.old l fun x=>e (.inl x))
 any:=fun t e1 e2 e3 e4=>by
  obtain⟨t1,q1,q2,q3,q4,q5,q6,q7,q8⟩:=h.any t e1 e2 e3 fun l e=>e4 l (e.elim (fun e=> .inl (.inl e)) (fun e=> .inr (.inl e)))
  obtain⟨t2,p1,p2,p3,p4,p5,p6,p7,p8⟩:=k.any t1 q2 q3 q4 (fun l e=>by
   by_cases hw:W1 l
   ·exact q7 l hw
   ·rw[q8 l hw,h.old l hw]
    exact e4 l (e.elim (fun e=> .inl (.inr e)) (fun e=> .inr (.inr e))))
  refine⟨t2,(hC t t1 q1).trans p1,p2,p3,p4,by rw[p5,q5,List.append_assoc],by rw[p6,q6,List.append_assoc],fun l e=> ?_,fun l e=>(p8 l fun x=>e (.inr x)).trans (q8 l fun x=>e (.inl x))⟩
  by_cases hw:W2 l
  ·exact p7 l hw
  ·rw[p8 l hw,k.old l hw]
   exact e.elim (q7 l) (fun x=>absurd x hw)
theorem CS.bnd {α:Type}{m:M α}{s s':St}{o:Out α}(h:CS m s o s'):Bnd s':=let ⟨_,_,_,_,e,_⟩:=h;e.bnd
theorem CS.lim {α:Type}{m:M α}{s s':St}{o:Out α}(h:CS m s o s'):s'.lim=s.lim:=let ⟨_,_,_,_,e,_⟩:=h;e.lim
theorem CS.next {α:Type}{m:M α}{s s':St}{o:Out α}(h:CS m s o s'):s.next≤s'.next:=let ⟨_,_,_,_,e,_⟩:=h;e.nxt
theorem CS.seq {α β:Type}{m:M α}{n C:M β}{s s1 s':St}{o1:Out α}{o:Out β}(h:CS m s o1 s1)(k:CS n s1 o s')(hC: ∀t t1,m t=rOf o1 t1→C t=n t1):CS C s o s':=by
 obtain⟨R1,W1,r1,w1,h1,h2,h3⟩:=h
 obtain⟨R2,W2,r2,w2,k1,k2,k3⟩:=k
 refine⟨_,_,_,_,h1.seq k1 hC,fun l e x=> ?_,fun l e x=> ?_⟩
 ·exact e.elim (fun e=>List.mem_append_right _ (h2 l e x)) (fun e=>List.mem_append_left _ (k2 l e (by rw[h1.lim];exact x)))
 ·exact e.elim (fun e=>List.mem_append_right _ (h3 l e x)) (fun e=>List.mem_append_left _ (k3 l e (by rw[h1.lim];exact x)))
theorem Bu {α:Type}{o:Out α}{a:α}{s s':St}(h:R.some a s=rOf o s'):o= .inl a∧s'=s:=by cases o<;>cases h;exact⟨rfl,rfl⟩
theorem I5 {α:Type}{o:Out α}{c:List PanicEntry}{s s':St}(h:R.pan c s=rOf o s'):o= .inr c∧s'=s:=by cases o<;>cases h;exact⟨rfl,rfl⟩
theorem AX {α:Type}{o:Out α}{s':St}(h:R.none=rOf o s'):False:=by cases o<;>cases h
theorem CS.quiet {α:Type}{m:M α}{s:St}{o:Out α}(hb:Bnd s)(h: ∀t:St,t.cx=s.cx→m t=rOf o t):CS m s o s:=
 ⟨fun _=>False,fun _=>False,[],[],⟨rfl,rfl,Nat.le_refl _,rfl,hb,fun _ e=>e.elim,fun _ e=>e.elim,fun _ _=>rfl,
  fun t e1 e2 e3 _=>⟨t,h t e3,e1,e2,e3,rfl,rfl,fun _ e=>e.elim,fun _ _=>rfl⟩⟩,fun _ e=>e.elim,fun _ e=>e.elim⟩
theorem Ai {α:Type}(a:α):Loc (M.pure a):=⟨fun s o s' h hb=>by
 obtain⟨rfl,rfl⟩:=Bu h
 exact .quiet hb fun t _=>rfl⟩
theorem Ah {α:Type}:Loc (M.fail:M α):=⟨fun s o s' h hb=>(AX h).elim⟩
theorem Az {α:Type}(x:Option α):Loc (M.ofOpt x):=by
 cases x with
 |none=>exact Ah
 |some a=>exact Ai a
theorem Ia {α β:Type}{m:M α}{f:α→M β}{g:List PanicEntry→M β}(h:Loc m)(kf: ∀a,Loc (f a))(kg: ∀c,Loc (g c)):
  Loc (fun s=>R.rec (motive:=fun _=>R β) .none (fun a s=>f a s) (fun c s=>g c s) (m s)):=⟨fun s o s' e hb=>by
 cases e1:m s with
 |none=>rw[e1]at e;exact(AX e).elim
 |some a s1=>
  rw[e1]at e
  have h1:=h.at' s (.inl a) s1 e1 hb
  exact h1.seq ((kf a).at' s1 o s' e h1.bnd) fun t t1 q=>by rw[q];rfl
 |pan c s1=>
  rw[e1]at e
  have h1:=h.at' s (.inr c) s1 e1 hb
  exact h1.seq ((kg c).at' s1 o s' e h1.bnd) fun t t1 q=>by rw[q];rfl⟩
theorem Sh {α:Type}(c:List PanicEntry):Loc (fun s=>R.pan c s:M α):=⟨fun s o s' h hb=>by
 obtain⟨rfl,rfl⟩:=I5 h
 exact .quiet hb fun t _=>rfl⟩
theorem Yw {α:Type}:Loc (fun _=>R.none:M α):=⟨fun s o s' h hb=>(AX h).elim⟩
theorem Ae {α β:Type}{m:M α}{f:α→M β}(h:Loc m)(k: ∀a,Loc (f a)):Loc (M.bind m f):=Ia h k fun c=>Sh c
theorem Fk {α:Type}{m:M α}(h:Loc m):Loc (noP m):=Ia h (fun a=>Ai a) fun _=>Yw
theorem As {α:Type}(b:Bool){m:M α}(h:Loc m):Loc (M.chk b m):=by
 cases b with
 |false=>exact Ah
 |true=>exact h
theorem AC {α:Type}(b:Bool){m n:M α}(h:Loc m)(k:Loc n):Loc (M.if b m n):=by cases b<;>assumption
theorem Ao {α β:Type}(x:Option α){f:α→M β}(k: ∀a,Loc (f a)):Loc (M.on x f):=by
 cases x with
 |none=>exact Ah
 |some a=>exact k a
theorem Ay {α:Type}(n:Nat){f:Nat→M α}(k: ∀a,Loc (f a)):Loc (fN n f):=by rw[AO];exact k _
theorem AE {α:Type}(n:Int){f:Int→M α}(k: ∀a,Loc (f a)):Loc (fI n f):=by rw[Ee];exact k _
theorem AA {α:Type}(n:Addr){f:Addr→M α}(k: ∀a,Loc (f a)):Loc (fA n f):=by rw[C1];exact k _
theorem AG {α:Type}(v:Value){f:IntKind→Int→M α}{d:M α}(h: ∀k n,Loc (f k n))(k:Loc d):Loc (Cz v f d):=by
 cases v<;>first|exact h _ _|exact k
theorem AI {α:Type}(b:Bool){m n:M α}(h:Loc m)(k:Loc n):Loc (Bool.rec (motive:=fun _=>M α) m n b):=by cases b<;>assumption
theorem Ax {α β:Type}(x:Option α){m:M β}{f:α→M β}(h:Loc m)(k: ∀a,Loc (f a)):Loc (Option.rec (motive:=fun _=>M β) m (fun a=>f a) x):=by
 cases x with
 |none=>exact h
 |some a=>exact k a
theorem Nf (loc lim:Nat)(l:List Nat):notes loc lim l=if loc<lim then loc::l else l:=by
 unfold notes
 cases h:Nat.blt loc lim with
 |true=>rw[if_pos (BK h)]
 |false=>rw[if_neg];intro h2;rw[show Nat.blt loc lim=true from Nat.ble_eq_true_of_le h2]at h;cases h
theorem EE (loc lim:Nat)(l:List Nat):notes loc lim l=notes loc lim []++l:=by
 rw[Nf,Nf]
 split<;>rfl
theorem Pq {loc lim:Nat}(h:loc<lim):loc∈notes loc lim []:=by rw[Nf,if_pos h];exact List.mem_cons_self
theorem T6 (loc:Nat)(s:St):rdC loc s=if loc<s.next then match T.get s.mem loc with|none=> .none|some c=> .some c ⟨s.mem,s.next,s.lim,notes loc s.lim s.rd,s.wr,s.cx⟩else .none:=by
 obtain⟨mem,next,lim,rd,wr,cx⟩:=s
 unfold rdC
 simp only
 cases hb:Nat.blt loc next with
 |false=>rw[if_neg];intro h2;rw[show Nat.blt loc next=true from Nat.ble_eq_true_of_le h2]at hb;cases hb
 |true=>
  rw[if_pos (BK hb)]
  cases T.get mem loc<;>rfl
theorem AO_ (loc:Nat)(c:Cell)(s:St):wrC loc c s=if loc<s.next then .some () ⟨T.set s.mem loc c,s.next,s.lim,s.rd,notes loc s.lim s.wr,s.cx⟩else .none:=by
 obtain⟨mem,next,lim,rd,wr,cx⟩:=s
 unfold wrC
 obtain⟨v,l,r,e⟩:=T.set_N mem loc c
 simp only[e]
 cases hb:Nat.blt loc next with
 |false=>rw[if_neg];intro h2;rw[show Nat.blt loc next=true from Nat.ble_eq_true_of_le h2]at hb;cases hb
 |true=>rw[if_pos (BK hb)]
theorem Br_ (loc:Nat)(s:St):delC loc s=if loc<s.next then .some () ⟨T.del s.mem loc,s.next,s.lim,s.rd,notes loc s.lim s.wr,s.cx⟩else .none:=by
 obtain⟨mem,next,lim,rd,wr,cx⟩:=s
 unfold delC
 simp only
 cases hb:Nat.blt loc next with
 |false=>rw[if_neg];intro h2;rw[show Nat.blt loc next=true from Nat.ble_eq_true_of_le h2]at hb;cases hb
 |true=>rw[if_pos (BK hb)]
theorem Bt_ (vs:List Value)(s:St):newL vs s= .some s.next ⟨layL s.next vs s.next s.mem,s.next+vs.length+1,s.lim,s.rd,s.wr,s.cx⟩:=by
 obtain⟨mem,next,lim,rd,wr,cx⟩:=s
 have h0:newL vs ⟨mem,next,lim,rd,wr,cx⟩=fN next fun b=>fN (Nat.succ (Nat.add b vs.length)) fun n=>R.some b (St.mk (layL b vs b mem) n lim rd wr cx):=rfl
 rw[h0,AO,AO]
 rfl
theorem Ya (o:AObj)(s:St):newO o s= .some s.next ⟨T.set s.mem s.next (.O o),s.next+1,s.lim,s.rd,s.wr,s.cx⟩:=by
 obtain⟨mem,next,lim,rd,wr,cx⟩:=s
 have h0:newO o ⟨mem,next,lim,rd,wr,cx⟩=fN next fun b=>fN (Nat.succ b) fun n=>R.some b (St.mk (T.set mem b (.O o)) n lim rd wr cx):=rfl
 rw[h0,AO,AO]
theorem Di (loc:Nat):Loc (rdC loc):=⟨fun s o s' h hb=>by
 rw[T6]at h
 split at h
 case isFalse=>exact(AX h).elim
 case isTrue hl=>
  cases e:T.get s.mem loc with
  |none=>rw[e]at h;exact(AX h).elim
  |some c=>
   rw[e]at h
   obtain⟨rfl,rfl⟩:=Bu h
   refine⟨fun l=>l=loc,fun _=>False,notes loc s.lim [],[],⟨EE _ _ _,rfl,Nat.le_refl _,rfl,hb,fun l e1=>by rw[e1];exact hl,fun _ e=>e.elim,fun _ _=>rfl,fun t e1 e2 e3 e4=> ?_⟩,fun l e1 e2=> ?_,fun _ e=>e.elim⟩
   ·refine⟨⟨t.mem,t.next,t.lim,notes loc t.lim t.rd,t.wr,t.cx⟩, ?_,e1,e2,e3, ?_,rfl,fun _ e=>e.elim,fun _ _=>rfl⟩
    ·rw[T6,if_pos (by rw[e1];exact hl),e4 loc (.inl rfl),e];rfl
    ·rw[←e2];exact EE _ _ _
   ·rw[e1];exact Pq (by rw[←e1];exact e2)⟩
theorem CI (loc:Nat)(c:Cell):Loc (wrC loc c):=⟨fun s o s' h hb=>by
 rw[AO_]at h
 split at h
 case isFalse=>exact(AX h).elim
 case isTrue hl=>
  obtain⟨rfl,rfl⟩:=Bu h
  refine⟨fun _=>False,fun l=>l=loc,[],notes loc s.lim [],⟨rfl,EE _ _ _,Nat.le_refl _,rfl,hb,fun _ e=>e.elim,fun l e1=>by rw[e1];exact hl,fun l e=> ?_,fun t e1 e2 e3 e4=> ?_⟩,fun _ e=>e.elim,fun l e1 e2=> ?_⟩
  ·simp only[T.get_set,if_neg e]
  ·refine⟨⟨T.set t.mem loc c,t.next,t.lim,t.rd,notes loc t.lim t.wr,t.cx⟩, ?_,e1,e2,e3,rfl, ?_,fun l e=> ?_,fun l e=> ?_⟩
   ·rw[AO_,if_pos (by rw[e1];exact hl)];rfl
   ·rw[←e2];exact EE _ _ _
   ·simp only[T.get_set,if_pos e]
   ·simp only[T.get_set,if_neg e]
  ·rw[e1];exact Pq (by rw[←e1];exact e2)⟩
theorem TC_ (loc:Nat):Loc (delC loc):=⟨fun s o s' h hb=>by
 rw[Br_]at h
 split at h
 case isFalse=>exact(AX h).elim
 case isTrue hl=>
  obtain⟨rfl,rfl⟩:=Bu h
  refine⟨fun _=>False,fun l=>l=loc,[],notes loc s.lim [],⟨rfl,EE _ _ _,Nat.le_refl _,rfl,hb,fun _ e=>e.elim,fun l e1=>by rw[e1];exact hl,fun l e=> ?_,fun t e1 e2 e3 e4=> ?_⟩,fun _ e=>e.elim,fun l e1 e2=> ?_⟩
  ·simp only[T.get_del,if_neg e]
  ·refine⟨⟨T.del t.mem loc,t.next,t.lim,t.rd,notes loc t.lim t.wr,t.cx⟩, ?_,e1,e2,e3,rfl, ?_,fun l e=> ?_,fun l e=> ?_⟩
   ·rw[Br_,if_pos (by rw[e1];exact hl)];rfl
   ·rw[←e2];exact EE _ _ _
   ·simp only[T.get_del,if_pos e]
   ·simp only[T.get_del,if_neg e]
  ·rw[e1];exact Pq (by rw[←e1];exact e2)⟩
theorem Kd (b:Nat): ∀(vs:List Value) (loc:Nat) (t:T Cell) (k:Nat),T.get (layL b vs loc t) k=if loc≤k∧k<loc+vs.length then(vs[k-loc]?).map (.C b)else T.get t k
 |[],loc,t,k=>by rw[if_neg (fun e=>by have:=e.2;simp at this;omega)];rfl
 |v::vs,loc,t,k=>by
  have h0:layL b (v::vs) loc t=fN loc fun loc=>layL b vs (Nat.succ loc) (T.set t loc (.C b v)):=rfl
  rw[h0,AO,Kd b vs]
  by_cases h1:loc=k
  ·subst h1
   rw[if_neg (by omega),if_pos (by simp),T.get_set,if_pos rfl]
   simp
  ·by_cases h2:loc≤k∧k<loc+(v::vs).length
   ·have h3:k-loc=(k-Nat.succ loc)+1:=by omega
    rw[if_pos h2,if_pos (by simp at h2 ⊢;omega),h3,List.getElem?_cons_succ]
   ·rw[if_neg h2,if_neg (by simp at h2 ⊢;omega),T.get_set,if_neg (fun e=>h1 e.symm)]
theorem Ht (vs:List Value):Loc (newL vs):=⟨fun s o s' h hb=>by
 rw[Bt_]at h
 obtain⟨rfl,rfl⟩:=Bu h
 refine⟨fun _=>False,fun l=>s.next≤l∧l<s.next+vs.length,[],[],⟨rfl,rfl,by show s.next≤s.next+vs.length+1;omega,rfl, ?_,fun _ e=>e.elim,fun l e=> ?_,fun l e=> ?_,fun t e1 e2 e3 e4=> ?_⟩,fun _ e=>e.elim,fun l e1 e2=> ?_⟩
 ·show s.lim≤s.next+vs.length+1
  unfold Bnd at hb;omega
 ·show l<s.next+vs.length+1
  omega
 ·simp only[Kd,if_neg e]
 ·refine⟨⟨layL t.next vs t.next t.mem,t.next+vs.length+1,t.lim,t.rd,t.wr,t.cx⟩, ?_,by rw[e1],e2,e3,rfl,rfl,fun l e=> ?_,fun l e=> ?_⟩
  ·rw[Bt_,e1];rfl
  ·simp only[Kd,e1,if_pos e]
  ·simp only[Kd,e1,if_neg e]
 ·unfold Bnd at hb;omega⟩
theorem GR (x:AObj):Loc (newO x):=⟨fun s o s' h hb=>by
 rw[Ya]at h
 obtain⟨rfl,rfl⟩:=Bu h
 refine⟨fun _=>False,fun l=>l=s.next,[],[],⟨rfl,rfl,by show s.next≤s.next+1;omega,rfl, ?_,fun _ e=>e.elim,fun l e=> ?_,fun l e=> ?_,fun t e1 e2 e3 e4=> ?_⟩,fun _ e=>e.elim,fun l e1 e2=> ?_⟩
 ·show s.lim≤s.next+1
  unfold Bnd at hb;omega
 ·show l<s.next+1
  omega
 ·simp only[T.get_set,if_neg e]
 ·refine⟨⟨T.set t.mem t.next (.O x),t.next+1,t.lim,t.rd,t.wr,t.cx⟩, ?_,by rw[e1],e2,e3,rfl,rfl,fun l e=> ?_,fun l e=> ?_⟩
  ·rw[Ya,e1];rfl
  ·simp only[T.get_set,e1,if_pos e]
  ·simp only[T.get_set,e1,if_neg e]
 ·unfold Bnd at hb;omega⟩
theorem Ja:Loc getCx:=⟨fun s o s' h hb=>by
 obtain⟨rfl,rfl⟩:=Bu (show R.some s.cx s=rOf o s' from h)
 exact .quiet hb fun t e=>by rw[←e];rfl⟩
theorem MB (x:Ctx):Loc (putCx x):=⟨fun s o s' h hb=>by
 obtain⟨rfl,rfl⟩:=Bu (show R.some () (St.mk s.mem s.next s.lim s.rd s.wr x)=rOf o s' from h)
 exact⟨fun _=>False,fun _=>False,[],[],⟨rfl,rfl,Nat.le_refl _,rfl,hb,fun _ e=>e.elim,fun _ e=>e.elim,fun _ _=>rfl,
  fun t e1 e2 e3 _=>⟨St.mk t.mem t.next t.lim t.rd t.wr x,rfl,e1,e2,rfl,rfl,rfl,fun _ e=>e.elim,fun _ _=>rfl⟩⟩,fun _ e=>e.elim,fun _ e=>e.elim⟩⟩
theorem Ud (a:Addr):Loc (rdV a):=by
 obtain⟨b,o,s⟩:=a
 cases s with
 |some x=>exact Ah
 |none=>exact Ae (Di _) fun c=>Az _
theorem Gr_ (a:Addr)(v:Value):Loc (wrV a v):=by
 obtain⟨b,o,s⟩:=a
 cases s with
 |some x=>exact Ah
 |none=>exact Ae (Di _) fun c=>As _ (CI _ _)
theorem EF: ∀(n:Nat) (a:Addr),Loc (rdL n a)
 |0,_=>Ai _
 |n+1,a=>by
  have h0:rdL (n+1) a=fA a fun a=>M.bind (rdV a) fun v=>M.bind (rdL n ⟨a.block,Nat.succ a.off,a.spot⟩) fun l=>M.pure (v::l):=rfl
  rw[h0]
  exact AA _ fun a=>Ae (Ud a) fun v=>Ae (EF n _) fun l=>Ai _
theorem JN: ∀(vs:List Value) (a:Addr),Loc (wrL vs a)
 |[],_=>Ai _
 |v::vs,a=>by
  have h0:wrL (v::vs) a=fA a fun a=>M.bind (wrV a v) fun _=>wrL vs ⟨a.block,Nat.succ a.off,a.spot⟩:=rfl
  rw[h0]
  exact AA _ fun a=>Ae (Gr_ a v) fun v=>JN vs _
theorem XF: ∀(n l:Nat),Loc (CX n l)
 |0,_=>Ai _
 |n+1,l=>by
  have h0:CX (n+1) l=M.bind (delC l) fun _=>CX n (l+1):=rfl
  rw[h0]
  exact Ae (TC_ l) fun _=>XF n _
theorem Bv (x0:_)(x1:_):Loc (ti x0 x1):=by
 unfold ti
 repeat' (first|exact Ai _|exact Ah|exact Az _|apply Ae|apply As|apply AC|apply Ao|apply Ay|apply AE|apply AA|apply AG|apply AI|apply Ax|intro _|split)
theorem JM (x0:_):Loc (pV x0):=by
 unfold pV
 repeat' (first|exact Ai _|exact Ah|exact Az _|apply Ae|apply As|apply AC|apply Ao|apply Ay|apply AE|apply AA|apply AG|apply AI|apply Ax|intro _|split)
theorem MI_ (x0:_)(x1:_)(x2:_)(x3:_)(x4:_):Loc (Ef x0 x1 x2 x3 x4):=by
 unfold Ef
 repeat' (first|exact Ai _|exact Ah|exact Az _|exact Bv _ _|apply Ae|apply As|apply AC|apply Ao|apply Ay|apply AE|apply AA|apply AG|apply AI|apply Ax|intro _|split)
theorem OE_ (x0:_)(x1:_):Loc (GA x0 x1):=by
 unfold GA
 repeat' (first|exact Ai _|exact Ah|exact Az _|apply Ae|apply As|apply AC|apply Ao|apply Ay|apply AE|apply AA|apply AG|apply AI|apply Ax|intro _|split)
theorem Oj_ (x0:_)(x1:_)(x2:_):Loc (Hs x0 x1 x2):=by
 unfold Hs
 repeat' (first|exact Ai _|exact Ah|exact Az _|exact OE_ _ _|apply Ae|apply As|apply AC|apply Ao|apply Ay|apply AE|apply AA|apply AG|apply AI|apply Ax|intro _|split)
theorem VZ_ (x0:_)(x1:_)(x2:_)(x3:_)(x4:_)(x5:_)(x6:_):Loc (A8 x0 x1 x2 x3 x4 x5 x6):=by
 unfold A8
 repeat' (first|exact Ai _|exact Ah|exact Az _|exact Oj_ _ _ _|exact MI_ _ _ _ _ _|exact JM _|apply Ae|apply As|apply AC|apply Ao|apply Ay|apply AE|apply AA|apply AG|apply AI|apply Ax|intro _|split)
theorem Sz_ (x0:_):Loc (lenOf x0):=by
 unfold lenOf
 repeat' (first|exact Ai _|exact Ah|exact Az _|apply Ae|apply As|apply AC|apply Ao|apply Ay|apply AE|apply AA|apply AG|apply AI|apply Ax|intro _|split)
theorem Um (x0:_)(x1:_)(x2:_):Loc (Ej x0 x1 x2):=by
 unfold Ej
 repeat' (first|exact Ai _|exact Ah|exact Az _|exact Bv _ _|exact EF _ _|exact Ud _|apply Ae|apply As|apply AC|apply Ao|apply Ay|apply AE|apply AA|apply AG|apply AI|apply Ax|intro _|split)
theorem TI_ (x0:_)(x1:_)(x2:_)(x3:_):Loc (HW x0 x1 x2 x3):=by
 unfold HW
 repeat' (first|exact Ai _|exact Ah|exact Az _|exact Bv _ _|exact JN _ _|apply Ae|apply As|apply AC|apply Ao|apply Ay|apply AE|apply AA|apply AG|apply AI|apply Ax|intro _|split)
theorem Gc (x0:_):Loc (asA x0):=by
 unfold asA
 repeat' (first|exact Ai _|exact Ah|exact Az _|apply Ae|apply As|apply AC|apply Ao|apply Ay|apply AE|apply AA|apply AG|apply AI|apply Ax|intro _|split)
theorem Mi (x0:_)(x1:_)(x2:_):Loc (bnd x0 x1 x2):=by
 unfold bnd
 repeat' (first|exact Ai _|exact Ah|exact Az _|apply Ae|apply As|apply AC|apply Ao|apply Ay|apply AE|apply AA|apply AG|apply AI|apply Ax|intro _|split)
theorem QL (x0:_):Loc (ptrA x0):=by
 unfold ptrA
 repeat' (first|exact Ai _|exact Ah|exact Az _|apply Ae|apply As|apply AC|apply Ao|apply Ay|apply AE|apply AA|apply AG|apply AI|apply Ax|intro _|split)
theorem Ji (x0:_)(x1:_)(x2:_):Loc (pSl x0 x1 x2):=by
 unfold pSl
 repeat' (first|exact Ai _|exact Ah|exact Az _|apply Ae|apply As|apply AC|apply Ao|apply Ay|apply AE|apply AA|apply AG|apply AI|apply Ax|intro _|split)
theorem MP (x0:_):Loc (pN x0):=by
 unfold pN
 repeat' (first|exact Ai _|exact Ah|exact Az _|apply Ae|apply As|apply AC|apply Ao|apply Ay|apply AE|apply AA|apply AG|apply AI|apply Ax|intro _|split)
theorem Vp_ (x0:_)(x1:_)(x2:_)(x3:_)(x4:_):Loc (Fb x0 x1 x2 x3 x4):=by
 unfold Fb
 repeat' (first|exact Ai _|exact Ah|exact Az _|exact Ji _ _ _|exact Mi _ _ _|apply Ae|apply As|apply AC|apply Ao|apply Ay|apply AE|apply AA|apply AG|apply AI|apply Ax|intro _|split)
theorem EP_ (x0:_)(x1:_)(x2:_)(x3:_)(x4:_)(x5:_):Loc (slSl x0 x1 x2 x3 x4 x5):=by
 unfold slSl
 repeat' (first|exact Ai _|exact Ah|exact Az _|exact Ji _ _ _|exact Mi _ _ _|apply Ae|apply As|apply AC|apply Ao|apply Ay|apply AE|apply AA|apply AG|apply AI|apply Ax|intro _|split)
theorem Fz_ (x0:_)(x1:_)(x2:_):Loc (F3 x0 x1 x2):=by
 unfold F3
 repeat' (first|exact Ai _|exact Ah|exact Az _|exact Mi _ _ _|apply Ae|apply As|apply AC|apply Ao|apply Ay|apply AE|apply AA|apply AG|apply AI|apply Ax|intro _|split)
theorem Tr_ (x0:_)(x1:_)(x2:_)(x3:_)(x4:_):Loc (BE x0 x1 x2 x3 x4):=by
 unfold BE
 repeat' (first|exact Ai _|exact Ah|exact Az _|exact Fz_ _ _ _|exact EP_ _ _ _ _ _ _|exact Vp_ _ _ _ _ _|exact Mi _ _ _|exact Bv _ _|apply Ae|apply As|apply AC|apply Ao|apply Ay|apply AE|apply AA|apply AG|apply AI|apply Ax|intro _|split)
theorem BT_ (x0:_)(x1:_)(x2:_):Loc (srcL x0 x1 x2):=by
 unfold srcL
 repeat' (first|exact Ai _|exact Ah|exact Az _|exact EF _ _|apply Ae|apply As|apply AC|apply Ao|apply Ay|apply AE|apply AA|apply AG|apply AI|apply Ax|intro _|split)
theorem OD_ (x0:_)(x1:_)(x2:_):Loc (appN x0 x1 x2):=by
 unfold appN
 repeat' (first|exact Ai _|exact Ah|exact Az _|apply Ae|apply As|apply AC|apply Ao|apply Ay|apply AE|apply AA|apply AG|apply AI|apply Ax|intro _|split)
theorem Hk_ (x0:_)(x1:_)(x2:_)(x3:_):Loc (appL x0 x1 x2 x3):=by
 unfold appL
 repeat' (first|exact Ai _|exact Ah|exact Az _|exact BT_ _ _ _|apply Ae|apply As|apply AC|apply Ao|apply Ay|apply AE|apply AA|apply AG|apply AI|apply Ax|intro _|split)
theorem Er_ (x0:_)(x1:_)(x2:_):Loc (oldL x0 x1 x2):=by
 unfold oldL
 repeat' (first|exact Ai _|exact Ah|exact Az _|exact EF _ _|apply Ae|apply As|apply AC|apply Ao|apply Ay|apply AE|apply AA|apply AG|apply AI|apply Ax|intro _|split)
theorem Cy_ (x0:_)(x1:_)(x2:_):Loc (E9 x0 x1 x2):=by
 unfold E9
 repeat' (first|exact Ai _|exact Ah|exact Az _|exact XF _ _|apply Ae|apply As|apply AC|apply Ao|apply Ay|apply AE|apply AA|apply AG|apply AI|apply Ax|intro _|split)
theorem No_ (x0:_)(x1:_)(x2:_)(x3:_):Loc (Dn x0 x1 x2 x3):=by
 unfold Dn
 repeat' (first|exact Ai _|exact Ah|exact Az _|exact Cy_ _ _ _|exact CI _ _|exact Di _|apply Ae|apply As|apply AC|apply Ao|apply Ay|apply AE|apply AA|apply AG|apply AI|apply Ax|intro _|split)
theorem Nm_ (x0:_)(x1:_)(x2:_)(x3:_)(x4:_)(x5:_)(x6:_):Loc (grow x0 x1 x2 x3 x4 x5 x6):=by
 unfold grow
 repeat' (first|exact Ai _|exact Ah|exact Az _|exact No_ _ _ _ _|exact Er_ _ _ _|exact Ji _ _ _|exact Ht _|exact CI _ _|apply Ae|apply As|apply AC|apply Ao|apply Ay|apply AE|apply AA|apply AG|apply AI|apply Ax|intro _|split)
theorem QP_ (x0:_)(x1:_)(x2:_)(x3:_)(x4:_)(x5:_):Loc (Fd x0 x1 x2 x3 x4 x5):=by
 unfold Fd
 repeat' (first|exact Ai _|exact Ah|exact Az _|exact Ji _ _ _|exact JN _ _|apply Ae|apply As|apply AC|apply Ao|apply Ay|apply AE|apply AA|apply AG|apply AI|apply Ax|intro _|split)
theorem Wb_ (x0:_)(x1:_)(x2:_)(x3:_)(x4:_):Loc (CU x0 x1 x2 x3 x4):=by
 unfold CU
 repeat' (first|exact Ai _|exact Ah|exact Az _|exact QP_ _ _ _ _ _ _|exact Nm_ _ _ _ _ _ _ _|exact Hk_ _ _ _ _|exact OD_ _ _ _|exact Bv _ _|apply Ae|apply As|apply AC|apply Ao|apply Ay|apply AE|apply AA|apply AG|apply AI|apply Ax|intro _|split)
theorem RZ_ (x0:_)(x1:_)(x2:_):Loc (Cc x0 x1 x2):=by
 unfold Cc
 repeat' (first|exact Ai _|exact Ah|exact Az _|exact Bv _ _|apply Ae|apply As|apply AC|apply Ao|apply Ay|apply AE|apply AA|apply AG|apply AI|apply Ax|intro _|split)
theorem HL_ (x0:_)(x1:_)(x2:_)(x3:_):Loc (Cf x0 x1 x2 x3):=by
 unfold Cf
 repeat' (first|exact Ai _|exact Ah|exact Az _|exact Bv _ _|exact Ht _|exact CI _ _|apply Ae|apply As|apply AC|apply Ao|apply Ay|apply AE|apply AA|apply AG|apply AI|apply Ax|intro _|split)
theorem PY (x0:_)(x1:_)(x2:_)(x3:_):Loc (Dv x0 x1 x2 x3):=by
 unfold Dv
 repeat' (first|exact Ai _|exact Ah|exact Az _|exact Bv _ _|apply Ae|apply As|apply AC|apply Ao|apply Ay|apply AE|apply AA|apply AG|apply AI|apply Ax|intro _|split)
theorem Ll_ (x0:_)(x1:_)(x2:_)(x3:_)(x4:_):Loc (FS x0 x1 x2 x3 x4):=by
 unfold FS
 repeat' (first|exact Ai _|exact Ah|exact Az _|exact BT_ _ _ _|exact MP _|exact Sz_ _|exact Bv _ _|exact JN _ _|apply Ae|apply As|apply AC|apply Ao|apply Ay|apply AE|apply AA|apply AG|apply AI|apply Ax|intro _|split)
theorem GT (x0:_):Loc (CJ x0):=by
 unfold CJ
 repeat' (first|exact Ai _|exact Ah|exact Az _|exact Di _|apply Ae|apply As|apply AC|apply Ao|apply Ay|apply AE|apply AA|apply AG|apply AI|apply Ax|intro _|split)
theorem JV_ (x0:_):Loc (G1 x0):=by
 unfold G1
 repeat' (first|exact Ai _|exact Ah|exact Az _|exact GT _|exact MP _|apply Ae|apply As|apply AC|apply Ao|apply Ay|apply AE|apply AA|apply AG|apply AI|apply Ax|intro _|split)
theorem VM_ (x0:_)(x1:_)(x2:_):Loc (aLen x0 x1 x2):=by
 unfold aLen
 repeat' (first|exact Ai _|exact Ah|exact Az _|exact JV_ _|exact MP _|exact Bv _ _|apply Ae|apply As|apply AC|apply Ao|apply Ay|apply AE|apply AA|apply AG|apply AI|apply Ax|intro _|split)
theorem My_ (x0:_)(x1:_)(x2:_):Loc (aCap x0 x1 x2):=by
 unfold aCap
 repeat' (first|exact Ai _|exact Ah|exact Az _|exact MP _|exact Bv _ _|apply Ae|apply As|apply AC|apply Ao|apply Ay|apply AE|apply AA|apply AG|apply AI|apply Ax|intro _|split)
theorem VJ_ (x0:_)(x1:_)(x2:_):Loc (Gs x0 x1 x2):=by
 unfold Gs
 repeat' (first|exact Ai _|exact Ah|exact Az _|exact Bv _ _|exact JN _ _|apply Ae|apply As|apply AC|apply Ao|apply Ay|apply AE|apply AA|apply AG|apply AI|apply Ax|intro _|split)
theorem Cf_ (x0:_):Loc (zeroV x0):=by
 unfold zeroV
 repeat' (first|exact Ai _|exact Ah|exact Az _|apply Ae|apply As|apply AC|apply Ao|apply Ay|apply AE|apply AA|apply AG|apply AI|apply Ax|intro _|split)
theorem FU (E:_)(e:_)(t:_)(k:_)(es:_):Loc (Dd E e t k es):=As _ (Ao _ fun _=>Ai _)
theorem Pe (x0:_)(x1:_)(x2:_):Loc (Eg x0 x1 x2):=by
 unfold Eg
 repeat' (first|exact Ai _|exact Ah|exact Az _|apply Ae|apply As|apply AC|apply Ao|apply Ay|apply AE|apply AA|apply AG|apply AI|apply Ax|intro _|split)
theorem Pw (x0:_)(x1:_):Loc (zeroOf x0 x1):=by
 unfold zeroOf
 repeat' (first|exact Ai _|exact Ah|exact Az _|exact Cf_ _|exact Bv _ _|apply Ae|apply As|apply AC|apply Ao|apply Ay|apply AE|apply AA|apply AG|apply AI|apply Ax|intro _|split)
theorem Wu_ (E:_)(a:_)(b:_)(k:_)(c:_):Loc (NV E a b k c):=Ae (FU _ _ _ _ _) fun r=>by
 cases r with
 |none=>exact Ae (Pw _ _) fun _=>Pe _ _ _
 |some j=>exact Ah
theorem Dj_ (E:_)(a:_)(b:_)(k:_)(c:_)(es:_):Loc (KJ E a b k c es):=Ae (FU _ _ _ _ _) fun r=>by
 cases r with
 |none=>exact Ae (Pw _ _) fun _=>Pe _ _ _
 |some j=>exact Ao _ fun _=>Pe _ _ _
theorem Ju (x0:_)(x1:_):Loc (mapT x0 x1):=by
 unfold mapT
 repeat' (first|exact Ai _|exact Ah|exact Az _|exact Bv _ _|apply Ae|apply As|apply AC|apply Ao|apply Ay|apply AE|apply AA|apply AG|apply AI|apply Ax|intro _|split)
theorem Ks_ (E:_)(t:_)(c:_)(x:_)(k:_):Loc (Jn E t c x k):=Ae (Ju _ _) fun ke=>by
 cases x with
 |map m=>
  cases m with
  |none=>exact Wu_ _ _ _ _ _
  |some l=>exact Ae (GT _) fun p=>Dj_ _ _ _ _ _ _
 |_=>exact Ah
theorem Gx_ (E:_)(t:_)(k:_)(x:_)(l:_)(p:_):Loc (putE E t k x l p):=Ae (FU _ _ _ _ _) fun r=>by
 cases r with
 |none=>exact CI _ _
 |some j=>exact Ao _ fun _=>As _ (CI _ _)
theorem Y0 (E:_)(t:_)(m:_)(k:_)(x:_):Loc (Fw E t m k x):=Ae (Ju _ _) fun ke=>by
 cases m with
 |map m=>
  cases m with
  |none=>exact Ah
  |some l=>exact Ae (GT _) fun p=>Ae (Gx_ _ _ _ _ _ _) fun _=>Ai _
 |_=>exact Ah
theorem JP_ (E:_)(a:_)(b:_)(k:_)(l:_)(p:_):Loc (entE E a b k l p):=Ae (FU _ _ _ _ _) fun r=>by
 cases r with
 |none=>exact Ae (Pw _ _) fun _=>Ae (CI _ _) fun _=>Ai _
 |some j=>exact Ao _ fun _=>As _ (Ae (CI _ _) fun _=>Ai _)
theorem FH_ (E:_)(t:_)(m:_)(k:_):Loc (Ip E t m k):=Ae (Ju _ _) fun ke=>by
 cases m with
 |map m=>
  cases m with
  |none=>exact Ah
  |some l=>exact Ae (GT _) fun p=>JP_ _ _ _ _ _ _
 |_=>exact Ah
theorem GU_ (x0:_)(x1:_)(x2:_):Loc (EX x0 x1 x2):=by
 unfold EX
 repeat' (first|exact Ai _|exact Ah|exact Az _|exact GT _|exact CI _ _|apply Ae|apply As|apply AC|apply Ao|apply Ay|apply AE|apply AA|apply AG|apply AI|apply Ax|intro _|split)
theorem YZ:Loc (Et):=by
 unfold Et
 repeat' (first|exact Ai _|exact Ah|exact Az _|exact GR _|apply Ae|apply As|apply AC|apply Ao|apply Ay|apply AE|apply AA|apply AG|apply AI|apply Ax|intro _|split)
theorem Fm_ (x0:_)(x1:_)(x2:_):Loc (FE x0 x1 x2):=by
 unfold FE
 repeat' (first|exact Ai _|exact Ah|exact Az _|exact YZ|exact Ju _ _|apply Ae|apply As|apply AC|apply Ao|apply Ay|apply AE|apply AA|apply AG|apply AI|apply Ax|intro _|split)
theorem DX_ (E:_)(t:_)(m:_)(k:_):Loc (kDel E t m k):=Ae (Ju _ _) fun ke=>by
 cases m with
 |map m=>
  cases m with
  |none=>exact Ae (FU _ _ _ _ _) fun _=>Ai _
  |some l=>exact Ae (GT _) fun p=>Ae (FU _ _ _ _ _) fun r=>by cases r<;>exact Ae (CI _ _) fun _=>Ai _
 |_=>exact Ah
theorem OS_ (x0:_)(x1:_)(x2:_)(x3:_):Loc (AT x0 x1 x2 x3):=by
 unfold AT
 repeat' (first|exact Ai _|exact Ah|exact Az _|exact DX_ _ _ _ _|exact VJ_ _ _ _|exact My_ _ _ _|exact VM_ _ _ _|exact Ll_ _ _ _ _ _|exact Wb_ _ _ _ _ _|exact JM _|apply Ae|apply As|apply AC|apply Ao|apply Ay|apply AE|apply AA|apply AG|apply AI|apply Ax|intro _|split)
theorem Vu_ (x0:_)(x1:_)(x2:_)(x3:_):Loc (idxN x0 x1 x2 x3):=by
 unfold idxN
 repeat' (first|exact Ai _|exact Ah|exact Az _|exact QL _|exact Bv _ _|apply Ae|apply As|apply AC|apply Ao|apply Ay|apply AE|apply AA|apply AG|apply AI|apply Ax|intro _|split)
theorem Q7 (x0:_):Loc (asN x0):=by
 unfold asN
 repeat' (first|exact Ai _|exact Ah|exact Az _|apply Ae|apply As|apply AC|apply Ao|apply Ay|apply AE|apply AA|apply AG|apply AI|apply Ax|intro _|split)
theorem Ha_ (x0:_)(x1:_)(x2:_):Loc (BJ x0 x1 x2):=by
 unfold BJ
 repeat' (first|exact Ai _|exact Ah|exact Az _|apply Ae|apply As|apply AC|apply Ao|apply Ay|apply AE|apply AA|apply AG|apply AI|apply Ax|intro _|split)
theorem BJ_ (x0:_):Loc (ptrN x0):=by
 unfold ptrN
 repeat' (first|exact Ai _|exact Ah|exact Az _|apply Ae|apply As|apply AC|apply Ao|apply Ay|apply AE|apply AA|apply AG|apply AI|apply Ax|intro _|split)
theorem Qw_ (x0:_)(x1:_):Loc (BF x0 x1):=by
 unfold BF
 repeat' (first|exact Ai _|exact Ah|exact Az _|exact BJ_ _|exact Bv _ _|exact Ht _|apply Ae|apply As|apply AC|apply Ao|apply Ay|apply AE|apply AA|apply AG|apply AI|apply Ax|intro _|split)
theorem Nt_ (x0:_):Loc (kBox x0):=by
 unfold kBox
 repeat' (first|exact Ai _|exact Ah|exact Az _|exact BJ_ _|exact Ht _|apply Ae|apply As|apply AC|apply Ao|apply Ay|apply AE|apply AA|apply AG|apply AI|apply Ax|intro _|split)
theorem Xu_ (x0:_)(x1:_)(x2:_):Loc (AQ x0 x1 x2):=by
 unfold AQ
 repeat' (first|exact Ai _|exact Ah|exact Az _|exact Gc _|exact Um _ _ _|apply Ae|apply As|apply AC|apply Ao|apply Ay|apply AE|apply AA|apply AG|apply AI|apply Ax|intro _|split)
theorem HU_ (x0:_)(x1:_)(x2:_)(x3:_):Loc (A5 x0 x1 x2 x3):=by
 unfold A5
 repeat' (first|exact Ai _|exact Ah|exact Az _|exact Gc _|exact TI_ _ _ _ _|apply Ae|apply As|apply AC|apply Ao|apply Ay|apply AE|apply AA|apply AG|apply AI|apply Ax|intro _|split)
theorem Nb_ (x0:_):Loc (kNil x0):=by
 unfold kNil
 repeat' (first|exact Ai _|exact Ah|exact Az _|apply Ae|apply As|apply AC|apply Ao|apply Ay|apply AE|apply AA|apply AG|apply AI|apply Ax|intro _|split)
theorem Iw_ (b:Bool):Loc (pB b):=by cases b<;>exact Ai _
theorem MH (x0:_)(x1:_)(x2:_):Loc (C2 x0 x1 x2):=by
 unfold C2
 repeat' (first|exact Ai _|exact Ah|exact Az _|exact JM _|apply Ae|apply As|apply AC|apply Ao|apply Ay|apply AE|apply AA|apply AG|apply AI|apply Ax|intro _|split)
theorem Ma_ (P:Program)(v:Value):Loc (xorU P v):=by
 have h:=MH P .xor v
 cases v with
 |int k n=>
  cases n with
  |negSucc m=>exact MH P .xor (.int k (.negSucc m))
  |ofNat m=>
   show Loc (Option.rec (motive:=fun _=>M Value) (C2 P .xor (.int k (.ofNat m))) (fun x=>M.pure x) (notK k m))
   exact Ax _ (MH _ _ _) fun _=>Ai _
 |_=>exact h
theorem Rv_ (x0:_)(x1:_)(x2:_):Loc (kUn x0 x1 x2):=by
 unfold kUn
 repeat' (first|exact Ai _|exact Ah|exact Az _|exact Ma_ _ _|exact MH _ _ _|exact Iw_ _|apply Ae|apply As|apply AC|apply Ao|apply Ay|apply AE|apply AA|apply AG|apply AI|apply Ax|intro _|split)
theorem Qq_ (x0:_)(x1:_):Loc (strOf x0 x1):=by
 unfold strOf
 repeat' (first|exact Ai _|exact Ah|exact Az _|exact EF _ _|apply Ae|apply As|apply AC|apply Ao|apply Ay|apply AE|apply AA|apply AG|apply AI|apply Ax|intro _|split)
theorem Wl_ (x0:_)(x1:_)(x2:_)(x3:_)(x4:_):Loc (Iu x0 x1 x2 x3 x4):=by
 unfold Iu
 repeat' (first|exact Ai _|exact Ah|exact Az _|exact Qq_ _ _|exact Bv _ _|apply Ae|apply As|apply AC|apply Ao|apply Ay|apply AE|apply AA|apply AG|apply AI|apply Ax|intro _|split)
theorem Xh_ (x0:_)(x1:_)(x2:_)(x3:_)(x4:_):Loc (Fo x0 x1 x2 x3 x4):=by
 unfold Fo
 repeat' (first|exact Ai _|exact Ah|exact Az _|exact JM _|exact Bv _ _|apply Ae|apply As|apply AC|apply Ao|apply Ay|apply AE|apply AA|apply AG|apply AI|apply Ax|intro _|split)
theorem NY (x0:_)(x1:_)(x2:_)(x3:_):Loc (Ec x0 x1 x2 x3):=by
 unfold Ec
 repeat' (first|exact Ai _|exact Ah|exact Az _|exact Xh_ _ _ _ _ _|exact Wl_ _ _ _ _ _|exact JM _|apply Ae|apply As|apply AC|apply Ao|apply Ay|apply AE|apply AA|apply AG|apply AI|apply Ax|intro _|split)
theorem Fy_ (x0:_)(x1:_):Loc (rowN x0 x1):=by
 unfold rowN
 repeat' (first|exact Ai _|exact Ah|exact Az _|exact Ji _ _ _|exact Ht _|exact CI _ _|apply Ae|apply As|apply AC|apply Ao|apply Ay|apply AE|apply AA|apply AG|apply AI|apply Ax|intro _|split)
theorem Sk_ (l:List UInt8):Loc (Fy l):=by
 unfold Fy
 rw[NN]
 exact Ay _ fun n=>Fy_ _ _
theorem UJ_ (x0:_)(x1:_)(x2:_)(x3:_):Loc (Hm x0 x1 x2 x3):=by
 unfold Hm
 repeat' (first|exact Ai _|exact Ah|exact Az _|exact Sk_ _|exact NY _ _ _ _|exact Bv _ _|apply Ae|apply As|apply AC|apply Ao|apply Ay|apply AE|apply AA|apply AG|apply AI|apply Ax|intro _|split)
theorem Re_ (x0:_)(x1:_)(x2:_)(x3:_)(x4:_)(x5:_):Loc (Fg x0 x1 x2 x3 x4 x5):=by
 unfold Fg
 repeat' (first|exact Ai _|exact Ah|exact Az _|exact NY _ _ _ _|exact Bv _ _|exact EF _ _|exact Di _|apply Ae|apply As|apply AC|apply Ao|apply Ay|apply AE|apply AA|apply AG|apply AI|apply Ax|intro _|split)
theorem Ws_ (x0:_)(x1:_)(x2:_)(x3:_):Loc (BV x0 x1 x2 x3):=by
 unfold BV
 repeat' (first|exact Ai _|exact Ah|exact Az _|exact Re_ _ _ _ _ _ _|exact UJ_ _ _ _ _|exact NY _ _ _ _|apply Ae|apply As|apply AC|apply Ao|apply Ay|apply AE|apply AA|apply AG|apply AI|apply Ax|intro _|split)
theorem UD_ (x0:_)(x1:_):Loc (HH x0 x1):=by
 unfold HH
 repeat' (first|exact Ai _|exact Ah|exact Az _|apply Ae|apply As|apply AC|apply Ao|apply Ay|apply AE|apply AA|apply AG|apply AI|apply Ax|intro _|split)
theorem VB_ (x0:_)(x1:_)(x2:_):Loc (Dl x0 x1 x2):=by
 unfold Dl
 repeat' (first|exact Ai _|exact Ah|exact Az _|exact UD_ _ _|exact Bv _ _|apply Ae|apply As|apply AC|apply Ao|apply Ay|apply AE|apply AA|apply AG|apply AI|apply Ax|intro _|split)
theorem KD_ (x0:_)(x1:_)(x2:_):Loc (FH x0 x1 x2):=by
 unfold FH
 repeat' (first|exact Ai _|exact Ah|exact Az _|exact Bv _ _|apply Ae|apply As|apply AC|apply Ao|apply Ay|apply AE|apply AA|apply AG|apply AI|apply Ax|intro _|split)
theorem JH_ (x0:_)(x1:_)(x2:_)(x3:_):Loc (mkSl x0 x1 x2 x3):=by
 unfold mkSl
 repeat' (first|exact Ai _|exact Ah|exact Az _|exact Bv _ _|exact Ht _|apply Ae|apply As|apply AC|apply Ao|apply Ay|apply AE|apply AA|apply AG|apply AI|apply Ax|intro _|split)
theorem Ob_ (x0:_)(x1:_)(x2:_)(x3:_):Loc (En x0 x1 x2 x3):=by
 unfold En
 repeat' (first|exact Ai _|exact Ah|exact Az _|exact JH_ _ _ _ _|exact Q7 _|exact Bv _ _|apply Ae|apply As|apply AC|apply Ao|apply Ay|apply AE|apply AA|apply AG|apply AI|apply Ax|intro _|split)
theorem MR (x0:_)(x1:_)(x2:_):Loc (Db x0 x1 x2):=by
 unfold Db
 repeat' (first|exact Ai _|exact Ah|exact Az _|exact Bv _ _|apply Ae|apply As|apply AC|apply Ao|apply Ay|apply AE|apply AA|apply AG|apply AI|apply Ax|intro _|split)
theorem IO_ (x0:_)(x1:_)(x2:_)(x3:_):Loc (kFld x0 x1 x2 x3):=by
 unfold kFld
 repeat' (first|exact Ai _|exact Ah|exact Az _|exact MR _ _ _|exact QL _|exact Gc _|exact Bv _ _|apply Ae|apply As|apply AC|apply Ao|apply Ay|apply AE|apply AA|apply AG|apply AI|apply Ax|intro _|split)
theorem Wg (x0:_):Loc (asCs x0):=by
 unfold asCs
 repeat' (first|exact Ai _|exact Ah|exact Az _|apply Ae|apply As|apply AC|apply Ao|apply Ay|apply AE|apply AA|apply AG|apply AI|apply Ax|intro _|split)
theorem Nd_ (x0:_)(x1:_)(x2:_)(x3:_):Loc (FL x0 x1 x2 x3):=by
 unfold FL
 repeat' (first|exact Ai _|exact Ah|exact Az _|exact Wg _|exact MR _ _ _|exact PY _ _ _ _|exact Bv _ _|apply Ae|apply As|apply AC|apply Ao|apply Ay|apply AE|apply AA|apply AG|apply AI|apply Ax|intro _|split)
theorem NL_ (x0:_)(x1:_)(x2:_)(x3:_):Loc (BM x0 x1 x2 x3):=by
 unfold BM
 repeat' (first|exact Ai _|exact Ah|exact Az _|exact Q7 _|exact Vu_ _ _ _ _|exact Bv _ _|apply Ae|apply As|apply AC|apply Ao|apply Ay|apply AE|apply AA|apply AG|apply AI|apply Ax|intro _|split)
theorem Is_ (x0:_)(x1:_)(x2:_)(x3:_):Loc (idxV x0 x1 x2 x3):=by
 unfold idxV
 repeat' (first|exact Ai _|exact Ah|exact Az _|exact PY _ _ _ _|exact Bv _ _|apply Ae|apply As|apply AC|apply Ao|apply Ay|apply AE|apply AA|apply AG|apply AI|apply Ax|intro _|split)
theorem Nq_ (x0:_)(x1:_)(x2:_)(x3:_):Loc (kIdx x0 x1 x2 x3):=by
 unfold kIdx
 repeat' (first|exact Ai _|exact Ah|exact Az _|exact Is_ _ _ _ _|exact Q7 _|exact Bv _ _|apply Ae|apply As|apply AC|apply Ao|apply Ay|apply AE|apply AA|apply AG|apply AI|apply Ax|intro _|split)
theorem IQ_ (x0:_)(x1:_):Loc (kExt x0 x1):=by
 unfold kExt
 repeat' (first|exact Ai _|exact Ah|exact Az _|apply Ae|apply As|apply AC|apply Ao|apply Ay|apply AE|apply AA|apply AG|apply AI|apply Ax|intro _|split)
theorem Mk_ (x0:_)(x1:_)(x2:_):Loc (okV x0 x1 x2):=by
 unfold okV
 repeat' (first|exact Ai _|exact Ah|exact Az _|apply Ae|apply As|apply AC|apply Ao|apply Ay|apply AE|apply AA|apply AG|apply AI|apply Ax|intro _|split)
theorem QQ_ (x0:_)(x1:_)(x2:_):Loc (FA x0 x1 x2):=by
 unfold FA
 repeat' (first|exact Ai _|exact Ah|exact Az _|exact Bv _ _|exact GR _|apply Ae|apply As|apply AC|apply Ao|apply Ay|apply AE|apply AA|apply AG|apply AI|apply Ax|intro _|split)
theorem Mc_ (x0:_)(x1:_)(x2:_):Loc (sitN x0 x1 x2):=by
 unfold sitN
 repeat' (first|exact Ai _|exact Ah|exact Az _|exact CI _ _|apply Ae|apply As|apply AC|apply Ao|apply Ay|apply AE|apply AA|apply AG|apply AI|apply Ax|intro _|split)
theorem Xz_ (x0:_):Loc (E6 x0):=by
 unfold E6
 repeat' (first|exact Ai _|exact Ah|exact Az _|exact Mc_ _ _ _|exact Di _|apply Ae|apply As|apply AC|apply Ao|apply Ay|apply AE|apply AA|apply AG|apply AI|apply Ax|intro _|split)
theorem Rh_ (x0:_)(x1:_)(x2:_)(x3:_):Loc (Fj x0 x1 x2 x3):=by
 unfold Fj
 repeat' (first|exact Ai _|exact Ah|exact Az _|exact Mk_ _ _ _|exact Cf_ _|exact Bv _ _|apply Ae|apply As|apply AC|apply Ao|apply Ay|apply AE|apply AA|apply AG|apply AI|apply Ax|intro _|split)
theorem NR_:Loc (Iv):=by
 unfold Iv
 repeat' (first|exact Ai _|exact Ah|exact Az _|exact MB _|exact Ja|apply Ae|apply As|apply AC|apply Ao|apply Ay|apply AE|apply AA|apply AG|apply AI|apply Ax|intro _|split)
theorem Tj_ (x0:_)(x1:_):Loc (Jv x0 x1):=by
 unfold Jv
 repeat' (first|exact Ai _|exact Ah|exact Az _|exact MB _|exact Ja|apply Ae|apply As|apply AC|apply Ao|apply Ay|apply AE|apply AA|apply AG|apply AI|apply Ax|intro _|split)
inductive ChR (r:Inj):List PanicEntry→List PanicEntry→Prop
 |nil:ChR r [] []
 |cons {e e':PanicEntry} {l l':List PanicEntry}:VR r e.v e'.v→e'.recovered=e.recovered→e'.goexit=e.goexit→ChR r l l'→ChR r (e::l) (e'::l')
theorem ChR.mono {r r':Inj}(h:r.le r'){l l':List PanicEntry}(k:ChR r l l'):ChR r' l l':=by
 induction k with
 |nil=>exact .nil
 |cons a b c _ ih=>exact .cons (a.mono h) b c ih
theorem ChR.append {r:Inj}{a a' b b':List PanicEntry}(h:ChR r a a')(k:ChR r b b'):ChR r (a++b) (a'++b'):=by
 induction h with
 |nil=>exact k
 |cons x y z _ ih=>exact .cons x y z ih
inductive MoR (r:Inj):FrameMode→FrameMode→Prop
 |run:MoR r .run .run
 |ret:MoR r .returning .returning
 |pan {c c':List PanicEntry}:ChR r c c'→MoR r (.panicking c) (.panicking c')
theorem MoR.mono {r r':Inj}(h:r.le r'){m m':FrameMode}(k:MoR r m m'):MoR r' m m':=by
 cases k with
 |run=>exact .run
 |ret=>exact .ret
 |pan c=>exact .pan (c.mono h)
inductive DfR (r:Inj):Deferred→Deferred→Prop
 |fn {f f':Fn} {c c' a a':Array Value}:FnR r f f'→VRs r c.toList c'.toList→VRs r a.toList a'.toList→DfR r ⟨.fn f c,a⟩ ⟨.fn f' c',a'⟩
 |coll {b b' d:Nat}:r.blk b=some (b',d)→DfR r ⟨.collected b, #[]⟩ ⟨.collected b', #[]⟩
theorem DfR.mono {r r':Inj}(h:r.le r'){m m':Deferred}(k:DfR r m m'):DfR r' m m':=by
 cases k with
 |fn a b c=>exact .fn (a.mono h) (b.mono h) (c.mono h)
 |coll a=>exact .coll (h.1 _ _ a)
inductive DfsR (r:Inj):List Deferred→List Deferred→Prop
 |nil:DfsR r [] []
 |cons {e e':Deferred} {l l':List Deferred}:DfR r e e'→DfsR r l l'→DfsR r (e::l) (e'::l')
theorem DfsR.mono {r r':Inj}(h:r.le r'){l l':List Deferred}(k:DfsR r l l'):DfsR r' l l':=by
 induction k with
 |nil=>exact .nil
 |cons a _ ih=>exact .cons (a.mono h) ih
def CxR (r:Inj)(base:List Deferred×List Frame)(cx:Ctx)(b:Frame)(dfs:List Deferred)(cs:List Frame):Prop:=
 match cx with
 | .no=>dfs=base.1∧cs=base.2
 | .cx up d=>
  (match up with
   |none=>b.kind= .normal∧cs=base.2
   |some m=>b.kind= .deferred∧ ∃c rest m',base.2=c::rest∧cs={c with mode:=m'}::rest∧MoR r m m')∧
  (match d with
   |none=>b.roundOf≠none∧dfs=[]
   |some l=>b.roundOf=none∧DfsR r l dfs)
theorem CxR.mono {r r':Inj}(h:r.le r'){base:List Deferred×List Frame}{cx:Ctx}{b:Frame}{dfs:List Deferred}{cs:List Frame}(k:CxR r base cx b dfs cs):CxR r' base cx b dfs cs:=by
 unfold CxR at *
 cases cx with
 |no=>exact k
 |cx up d=>
  obtain⟨k1,k2⟩:=k
  constructor
  ·cases up with
   |none=>exact k1
   |some m=>obtain⟨q1,c,rest,m',q2,q3,q4⟩:=k1;exact⟨q1,c,rest,m',q2,q3,q4.mono h⟩
  ·cases d with
   |none=>exact k2
   |some l=>exact⟨k2.1,k2.2.mono h⟩
def frm (b:Frame)(t:Array Value)(d:List Deferred)(todo:List Item):Frame:={fn:=b.fn,tmps:=t,todo,defers:=d,mode:= .run,kind:=b.kind,roundOf:=b.roundOf}
def putT (t:Array Value)(dst:Option Nat)(v:Value):Array Value:=
 match dst with
 |some d=>t.setIfInBounds d v
 |none=>t
theorem Ss (b:Frame)(t:Array Value)(d:List Deferred)(todo:List Item):(frm b t d todo).eval=Act.eval ⟨t,d⟩:=funext fun x=>by cases x<;>rfl
theorem Er (b:Frame)(t:Array Value)(d:List Deferred){ops:Array Oper}{i:Nat}{o:Oper}(ho:ops[i]?=some o)(rest:List Nat)(k:List Item)(v:Value):
  (frm b t d (.inRegion ops (i::rest)::k)).finish v=frm b (putT t o.dst v) d (.inRegion ops rest::k):=by
 cases h:o.dst<;>simp[Frame.finish,frm,putT,ho,h]
section
variable {P:Program}{b:Frame}{t:Array Value}{d:List Deferred}{k:List Item}{cs:List Frame}{w:World}{ops:Array Oper}
theorem Ez {i:Nat}{rest:List Nat}{o:Oper}(ho:ops[i]?=some o)(hw:Region.wanted o (yielded ops t)=true)(hd:b.roundOf=none∨ ∀c,o.op≠ .defer c):
  stepG P true {frame:=frm b t d (.inRegion ops (i::rest)::k),callers:=cs,status:= .running,dying:=none} w=
   stepG.apply P true (frm b t d (.inRegion ops (i::rest)::k)) cs none (execOp (Act.eval ⟨t,d⟩) o) w:=by
 have he:=Ss b t d (.inRegion ops (i::rest)::k)
 have e1:stepG P true {frame:=frm b t d (.inRegion ops (i::rest)::k),callers:=cs,status:= .running,dying:=none} w=
   stepG.oper P true (frm b t d (.inRegion ops (i::rest)::k)) cs none w:=by
  simp[stepG,stepG.exec,frm,ho,hw]
 rw[e1]
 have e2:(frm b t d (.inRegion ops (i::rest)::k)).oper?=some o:=ho
 unfold stepG.oper
 simp only[e2,he]
 split
 ·rename_i l c h1 h2
  rcases hd with hd|hd
  ·rw[show(frm b t d (.inRegion ops (i::rest)::k)).roundOf=b.roundOf from rfl,hd]at h1
   cases h1
  ·exact absurd h2 (hd c)
 ·rfl
theorem Jr_ {id:Nat}:step P (lone (frm b t d (.code (.region id ops false)::k)) cs w)= .next (lone (frm b t d (.inRegion ops (List.range ops.size)::k)) cs w):=
 step_lone_go (by simp[stepG,stepG.exec,frm])
theorem Ur_ {id:Nat}:
  step P (lone (frm b t d (.code (.region id ops true)::k)) cs w)=
   .next (lone (frm b t d (.inRegion ops (Region.schedule (P.follows .mixedOrders) ops (w.tape w.drawn (.order b.fn id)))::k)) cs {w with drawn:=w.drawn+1}):=
 step_lone_go (by simp[stepG,stepG.exec,frm,choose,Sem.run,Question.forced,Question.cut])
theorem Ef_:step P (lone (frm b t d (.inRegion ops []::k)) cs w)= .next (lone (frm b t d k) cs w):=
 step_lone_go (by simp[stepG,stepG.exec,frm])
theorem NV_ {i:Nat}{o:Oper}{rest:List Nat}(ho:ops[i]?=some o)(h:Region.wanted o (yielded ops t)=false):
  step P (lone (frm b t d (.inRegion ops (i::rest)::k)) cs w)= .next (lone (frm b (putT t o.dst undef) d (.inRegion ops rest::k)) cs w):=by
 rw[←Er b t d ho]
 exact step_lone_go (by simp[stepG,stepG.exec,frm,ho,h])
end
def Ends (P:Program)(r:Inj)(out:Out Value)(m:Machine)(c:Frame)(cs:List Frame)(w':World):Prop:=
 match out with
 | .inl v=> ∃v',VR r v v'∧Steps P m (lone (c.finish v') cs w')
 | .inr ch=> ∃ch',ChR r ch ch'∧Steps P m (lone (c.raise ch') cs w')
def RN (P:Program)(w0 w:World)(r:Inj)(s:St)(f:Nat)(args':List Value)(out:Out Value)(s':St):Prop:=
 ∃v v' w' r',out= .inl v∧VR r' v v'∧Goes w0 r s s' r' w'∧s'.lim=s.lim∧s'.cx=s.cx∧(callFunc f args'.toArray).run P w= .ok (.value v') w'
structure CallOK (E:Env)(call:Ab):Prop where
 loc: ∀f args,Loc (call f args)
 ok: ∀{w0 w:World} {r:Inj} {f:Nat} {args args':List Value} {s:St} {out:Out Value} {s':St},call f args s=rOf out s'→Rel w0 r s.mem w→Bnd s→A9 r s.next s'.next→VRs r args args'→
  ((∀w,(callFunc f args'.toArray).run E.P w= .ok (.enter f args'.toArray) w)∧
  ∀c cs,∃w' r',Goes w0 r s s' r' w'∧s'.lim=s.lim∧s'.cx=s.cx∧Ends E.P r' out (lone (Frame.enter E.P f args'.toArray .normal) (c::cs) w) c cs w')∨
  (E.ext.get f≠none∧RN E.P w0 w r s f args' out s')
structure RoundOK (E:Env)(round:Ab):Prop where
 loc: ∀l args,Loc (round l args)
 ok: ∀{w0 w:World} {r:Inj} {l l' d:Nat} {args args':List Value} {s:St} {out:Out Value} {s':St},round l args s=rOf out s'→Rel w0 r s.mem w→Bnd s→A9 r s.next s'.next→VRs r args args'→r.blk l=some (l',d)→
  ∃f tm as bd,(Instr.yield l' args'.toArray).run E.P w= .ok (.round l' f tm as bd) w∧
  ∀c cs,∃w' r',Goes w0 r s s' r' w'∧s'.lim=s.lim∧s'.cx=s.cx∧Ends E.P r' out (lone (Frame.round l' f tm as bd .normal) (c::cs) w) c cs w'
def PC (P:Program)(r:Inj)(out:Out Value)(m:Machine)(b:Frame)(t:Array Value)(dfs:List Deferred)(ops:Array Oper)(o:Oper)(rest:List Nat)(k:List Item)(cs:List Frame)(w':World):Prop:=
 match out with
 | .inl v=> ∃v',VR r v v'∧Steps P m (lone (frm b (putT t o.dst v') dfs (.inRegion ops rest::k)) cs w')
 | .inr ch=> ∃ch' td,ChR r ch ch'∧Steps P m (lone {frm b t dfs td with mode:= .panicking ch'} cs w')
def OpS (E:Env)(o:Oper)(c:Cl OpT)(ds:List Nat):Prop:=
 ∃f,c= .mk f∧(∀call round,CallOK E call→RoundOK E round→ ∀rho tm,Loc (f call round rho tm))∧
  ∀call round,CallOK E call→RoundOK E round→ ∀(w0 w:World) (r:Inj) (U:Nat→Prop) rho tm (b:Frame) (t:Array Value) (dfs:List Deferred) (cs:List Frame) (base:List Deferred×List Frame) (s:St) (out:Out Value) (s':St),
   SlR r U ds rho tm t→(∀t,Operand.tmp t∈o.op.operands.toList→U t)→Rel w0 r s.mem w→CxR r base s.cx b dfs cs→Bnd s→A9 r s.next s'.next→f call round rho tm s=rOf out s'→
   ∀(ops:Array Oper) i rest k,ops[i]?=some o→Region.wanted o (yielded ops t)=true→
    ∃w' r' dfs' cs',Goes w0 r s s' r' w'∧CxR r' base s'.cx b dfs' cs'∧s'.lim=s.lim∧
     PC E.P r' out (lone (frm b t dfs (.inRegion ops (i::rest)::k)) cs w) b t dfs' ops o rest k cs' w'
theorem OpS.ofV {E:Env}{o:Oper}{c:Cl OpT}{ds:List Nat}(h:OpV E o c ds)(hd: ∀c,o.op≠ .defer c)(hl: ∀f,c= .mk f→ ∀call round rho tm,Loc (f call round rho tm)):OpS E o c ds:=by
 obtain⟨f,h1,h2,h3⟩:=h
 refine⟨f,h1,fun call round _ _=>hl f h1 call round, ?_⟩
 intro call round hc hro w0 w r U rho tm b t dfs cs base s out s' hs hu hr hx hb hf e ops i rest k ho hw
 cases out with
 |inr ch=>exact((h2 call round rho tm).no _ _ _ e).elim
 |inl v=>
  obtain⟨v',w',r',k1,k2,k3,k4,k5⟩:=h3 call round w0 w r U rho tm ⟨t,dfs⟩ s v s' hs hu hr e hf
  refine⟨w',r',dfs,cs,k2,by rw[k5];exact hx.mono k2.le,k4,v',k3, .one (step_lone_go ?_)⟩
  rw[Ez ho hw (.inr hd),←Er b t dfs ho]
  rcases k1 with k1|⟨k1,rfl⟩<;>simp[stepG.apply,k1]
theorem Jn_ (b:Frame)(t:Array Value)(d:List Deferred)(td:List Item)(ch:List PanicEntry):(frm b t d td).raise ch={frm b t d td with mode:= .panicking ch}:=rfl
section
variable {E:Env}{ds:List Nat}{o:Oper}
theorem VR.func_inv {r:Inj}{f:Fn}{a c:Array Value}{v':Value}(h:VR r (.func f a c) v'): ∃f' a' c',v'= .func f' a' c'∧FnR r f f'∧VRs r a.toList a'.toList∧VRs r c.toList c'.toList:=by
 cases h with
 |func h1 h2 h3 h4 h5=>exact⟨_,_,_,rfl,h1,VRs.ofArr h2 h3,VRs.ofArr h4 h5⟩
theorem I6 (ρ:Operand→Value){c:Call}{ty:TypeId}{x:Operand}{f:Fn}{a cap:Array Value}(hc:c.callee= .value x)(hx:ρ x= .func f a cap):
  resolve ρ c ty=pure {target:= .fn f cap,args:=a++c.args.map ρ}:=by
 unfold resolve
 simp only[hc,hx,Deferred.ofValue]
theorem Ja_ {x:Operand}{c:Call}(ho:o.op= .call c)(hc:c.callee= .value x):OpS E o (Sn ds x c.args.toList) ds:=by
 obtain⟨g,h1,h2⟩:=By ds x
 obtain⟨g',h3,h4⟩:=D0 ds c.args.toList
 refine⟨fun call round rho tm=>M.on (g rho tm) fun f=>M.on (g' rho tm) fun l=>AZ call round f l,by unfold Sn;simp only[h1,h3], ?_, ?_⟩
 ·intro call round hc1 hc2 rho tm
  refine Ao _ fun f=>Ao _ fun l=> ?_
  unfold AZ
  split
  ·exact hc1.loc _ _
  ·exact As _ (hc2.loc _ _)
  ·exact Ah
 ·intro call round hc1 hc2 w0 w r U rho tm b t dfs cs base s out s' hs hu hr hx hb hf e ops i rest k hoi hw
  have on': ∀{α β:Type} {y:Option α} {f:α→M β} {o:Out β} {s s':St},M.on y f s=rOf o s'→ ∃a,y=some a∧f a s=rOf o s':=by
   intro α β y f o s s' h
   cases y with
   |none=>exact(AX h).elim
   |some a=>exact⟨a,rfl,h⟩
  obtain⟨fv,e1,e⟩:=on' e
  obtain⟨l,e2,e⟩:=on' e
  have hfv:=h2 _ _ _ _ ⟨t,dfs⟩ _ hs (fun t q=>hu t (by simp[ho,Op.operands,Call.operands,hc]at q ⊢;simp[q])) e1
  have hl:VRs r l (c.args.toList.map (Act.eval ⟨t,dfs⟩)):=h4 _ _ _ _ ⟨t,dfs⟩ _ hs (fun t q=>hu t (by simp[ho,Op.operands,Call.operands]at q ⊢;simp[q])) e2
  have hmap:c.args.map (Act.eval ⟨t,dfs⟩)=(c.args.toList.map (Act.eval ⟨t,dfs⟩)).toArray:=by rw[←List.map_toArray]
  have hd: ∀c,o.op≠ .defer c:=by rw[ho];intro c h;cases h
  unfold AZ at e
  split at e
  ·rename_i f first cap _
   obtain⟨f',a',c',q1,q2,q3,q4⟩:=hfv.func_inv
   cases f' with
   |func f'=>
    simp only[FnR]at q2
    subst q2
    have e1:(a'++c.args.map (Act.eval ⟨t,dfs⟩)++c')=(a'.toList++(c.args.toList.map (Act.eval ⟨t,dfs⟩)++c'.toList)).toArray:=by
     rw[hmap];simp
    rcases hc1.ok e hr hb hf (args':=a'.toList++(c.args.toList.map (Act.eval ⟨t,dfs⟩)++c'.toList)) (q3.append (hl.append q4))with⟨k1,k2⟩|⟨_,v,v',w',r',rfl,g1,g2,g3,g4,g5⟩
    case inr=>
     have hrun:(execOp (Act.eval ⟨t,dfs⟩) o).run E.P w= .ok (.value v') w':=by
      simp only[execOp,ho,I6 _ hc q1]
      simp only[invoke,Sem.run_bind,Sem.run_pure,Result.andThen_ok,e1,g5]
     refine⟨w',r',dfs,cs,g2,by rw[g4];exact hx.mono g2.le,g3,v',g1, .one (step_lone_go ?_)⟩
     rw[Ez hoi hw (.inr hd),←Er b t dfs hoi]
     simp[stepG.apply,hrun]
    obtain⟨w',r',g1,g2,g3,g4⟩:=k2 (frm b t dfs (.inRegion ops (i::rest)::k)) cs
    have henter:step E.P (lone (frm b t dfs (.inRegion ops (i::rest)::k)) cs w)=
      .next (lone (Frame.enter E.P f (a'.toList++(c.args.toList.map (Act.eval ⟨t,dfs⟩)++c'.toList)).toArray .normal) (frm b t dfs (.inRegion ops (i::rest)::k)::cs) w):=by
     refine step_lone_go ?_
     rw[Ez hoi hw (.inr hd)]
     have hrun:(execOp (Act.eval ⟨t,dfs⟩) o).run E.P w= .ok (.enter f (a'.toList++(c.args.toList.map (Act.eval ⟨t,dfs⟩)++c'.toList)).toArray) w:=by
      simp only[execOp,ho,I6 _ hc q1]
      simp only[invoke,Sem.run_bind,Sem.run_pure,Result.andThen_ok,e1,k1]
     simp[stepG.apply,hrun,frm]
    refine⟨w',r',dfs,cs,g1,by rw[g3];exact hx.mono g1.le,g2, ?_⟩
    unfold Ends at g4
    cases out with
    |inl v=>
     obtain⟨v',p1,p2⟩:=g4
     rw[Er b t dfs hoi]at p2
     exact⟨v',p1, .head henter p2⟩
    |inr ch=>
     obtain⟨ch',p1,p2⟩:=g4
     exact⟨ch',_,p1, .head henter p2⟩
   |_=>simp only[FnR]at q2
  ·rename_i lp first cap _
   obtain⟨f',a',c',q1,q2,q3,q4⟩:=hfv.func_inv
   cases f' with
   |yield lp'=>
    obtain⟨dd,q2⟩:=q2
    cases hemp:first.isEmpty with
    |false=>rw[hemp]at e;exact(AX e).elim
    |true=>
     rw[hemp]at e
     have e':round lp l s=rOf out s':=e
     have hfe:first= #[]:=by simpa using hemp
     subst hfe
     have ha':a'= #[]:=by have:=q3.1;simp at this;simpa using this.symm
     subst ha'
     obtain⟨fn,tmn,as,bd,k1,k2⟩:=hc2.ok e' hr hb hf hl q2
     obtain⟨w',r',g1,g2,g3,g4⟩:=k2 (frm b t dfs (.inRegion ops (i::rest)::k)) cs
     have henter:step E.P (lone (frm b t dfs (.inRegion ops (i::rest)::k)) cs w)=
       .next (lone (Frame.round lp' fn tmn as bd .normal) (frm b t dfs (.inRegion ops (i::rest)::k)::cs) w):=by
      refine step_lone_go ?_
      rw[Ez hoi hw (.inr hd)]
      have hrun:(execOp (Act.eval ⟨t,dfs⟩) o).run E.P w= .ok (.round lp' fn tmn as bd) w:=by
       simp only[execOp,ho,I6 _ hc q1]
       have e1:(#[]++c.args.map (Act.eval ⟨t,dfs⟩))=(c.args.toList.map (Act.eval ⟨t,dfs⟩)).toArray:=by
        rw[hmap];simp
       simp only[invoke,Sem.run_bind,Sem.run_pure,Result.andThen_ok,e1,k1]
      simp[stepG.apply,hrun,frm]
     refine⟨w',r',dfs,cs,g1,by rw[g3];exact hx.mono g1.le,g2, ?_⟩
     unfold Ends at g4
     cases out with
     |inl v=>
      obtain⟨v',p1,p2⟩:=g4
      rw[Er b t dfs hoi]at p2
      exact⟨v',p1, .head henter p2⟩
     |inr ch=>
      obtain⟨ch',p1,p2⟩:=g4
      exact⟨ch',_,p1, .head henter p2⟩
   |_=>simp only[FnR]at q2
  ·exact(AX e).elim
theorem Yd (s:FieldStep)(a:Addr):Loc (JT E s a):=Ae (Bv _ _) fun _i=>Ae (MR _ _ _) fun _p=>As _ (Ae (QL _) fun _v=>Ai _)
theorem Ra_ (s:FieldStep)(cs:List Value):Loc (L0 E s cs):=Ae (Bv _ _) fun _i=>Ae (MR _ _ _) fun _p=>Ae (PY _ _ _ _) fun _v=>Ai _
theorem KV_ (s:FieldStep)(v:Value)(b:Bool):Loc (EW E s v b):=by
 unfold EW
 split
 ·exact Ae (Gc _) fun a=>Ae (Yd _ _) fun p=>Ai _
 ·exact Ae (Gc _) fun a=>Ae (Yd _ _) fun p=>Ai _
 ·exact Ae (Wg _) fun a=>Ae (Ra_ _ _) fun p=>Ai _
 ·exact Ah
theorem Cd_: ∀(l:List FieldStep) (t:Nat) (v:Value) (b:Bool),Loc (Im E l t v b)
 |[],_,_,_=>Ai _
 |s::l,_,v,b=>Ae (KV_ s v b) fun _p=>Cd_ l _ _ _
theorem VP_ (t:Nat)(v:Value)(name:String):Loc (E5 E t v name):=Ao _ fun _m=>Ao _ fun _fp=>Ae (Cd_ _ _ _ _) fun _q=>Ae (Bv _ _) fun _i=>As _ (Ai _)
theorem Vm (s:FieldStep)(a:Addr):NoPan (JT E s a):=Ag (Bw _ _) fun _i=>Ag (M4 _ _ _) fun _p=>Aw _ (Ag (Ob _) fun _v=>Ap _)
theorem Ou_ (s:FieldStep)(cs:List Value):NoPan (L0 E s cs):=Ag (Bw _ _) fun _i=>Ag (M4 _ _ _) fun _p=>Ag (O0 _ _ _ _) fun _v=>Ap _
theorem Dk_ (s:FieldStep)(v:Value)(b:Bool):NoPan (EW E s v b):=by
 unfold EW
 split
 ·exact Ag (G8 _) fun a=>Ag (Vm _ _) fun p=>Ap _
 ·exact Ag (G8 _) fun a=>Ag (Vm _ _) fun p=>Ap _
 ·exact Ag (WZ _) fun a=>Ag (Ou_ _ _) fun p=>Ap _
 ·exact Aq
theorem VF: ∀(l:List FieldStep) (t:Nat) (v:Value) (b:Bool),NoPan (Im E l t v b)
 |[],_,_,_=>Ap _
 |s::l,_,v,b=>Ag (Dk_ s v b) fun _p=>VF l _ _ _
theorem Qs_ (t:Nat)(v:Value)(name:String):NoPan (E5 E t v name):=Ar _ fun _m=>Ar _ fun _fp=>Ag (VF _ _ _ _) fun _q=>Ag (Bw _ _) fun _i=>Aw _ (Ap _)
def PlR (r:Inj)(b:Bool)(v:Value)(p:Place):Prop:=
 match b,p with
 |false, .val v'=>VR r v v'
 |true, .var a'=> ∃a,v= .pointer (some a)∧AR r a a'
 |_,_=>False
theorem Ci_ {w:World}{r:Inj}{s s':St}{st:FieldStep}{a a2:Addr}{p:Nat×Value}(he:EnvTy E)(h:JT E st a s= .some p s')(ha:AR r a a2):
  s=s'∧ ∃fs fd a3,(underlying st.struct).run E.P w= .ok (.struct fs) w∧fs[st.index]?=some fd∧p.1=fd.type∧(fieldPlace a2 fd).run E.P w= .ok a3 w∧PlR r true p.2 (.var a3):=by
 obtain⟨i,s1,h1,h2⟩:=bind_some h
 obtain⟨hi,rfl⟩:=AY h1 he
 obtain⟨q,s2,h5,h6⟩:=bind_some h2
 obtain⟨h7,h8⟩:=Bt h6
 obtain⟨v,s3,h9,h10⟩:=bind_some h8
 obtain⟨rfl,rfl⟩:=LT h9
 obtain⟨rfl,rfl⟩:=An h10
 obtain⟨rfl,fs,fd,fi,hu,hfd,hfi,rfl⟩:=NB he h5
 have hz:fi.size≠0:=by
  intro h0
  simp[h0]at h7
 refine⟨rfl,fs,fd,a2.add fd.offset,by rw[hi.run_und,hu],hfd,rfl, ?_,_,rfl,ha.add _⟩
 simp[fieldPlace,hfi.run_size,hz]
theorem Tb_ {w:World}{r:Inj}{s s':St}{st:FieldStep}{cs:List Value}{cs':Array Value}{p:Nat×Value}(he:EnvTy E)(h:L0 E st cs s= .some p s')(hc:VRs r cs cs'.toList):
  s=s'∧ ∃fs fd v',(underlying st.struct).run E.P w= .ok (.struct fs) w∧fs[st.index]?=some fd∧p.1=fd.type∧(part fd.type cs' fd.offset).run E.P w= .ok v' w∧VR r p.2 v':=by
 obtain⟨i,s1,h1,h2⟩:=bind_some h
 obtain⟨hi,rfl⟩:=AY h1 he
 obtain⟨q,s2,h5,h6⟩:=bind_some h2
 obtain⟨v,s3,h9,h10⟩:=bind_some h6
 obtain⟨rfl,rfl⟩:=An h10
 obtain⟨rfl,fs,fd,fi,hu,hfd,hfi,rfl⟩:=NB he h5
 obtain⟨rfl,v',g1,g2⟩:=Qc (w:=w) he h9 hc
 exact⟨rfl,fs,fd,v',by rw[hi.run_und,hu],hfd,rfl,g1,g2⟩
theorem UM_ {w:World}{r:Inj}{s s':St}{st:FieldStep}{v:Value}{b:Bool}{p:Nat×Value×Bool}(he:EnvTy E)(h:EW E st v b s= .some p s'){pl:Place}(hp:PlR r b v pl)(t:Nat)(rest:List FieldStep):
  s=s'∧ ∃pl',(follow (st::rest) t pl).run E.P w=(follow rest p.1 pl').run E.P w∧PlR r p.2.2 p.2.1 pl':=by
 unfold EW at h
 generalize e:st.deref=dr at h
 match dr,b,h,hp with
 |true,false,h,hp=>
  obtain⟨a,s1,h1,h2⟩:=bind_some h
  obtain⟨rfl,rfl⟩:=GD h1
  obtain⟨q,s2,h3,h4⟩:=bind_some h2
  obtain⟨rfl,rfl⟩:=An h4
  cases pl with
  |var a'=>exact hp.elim
  |val v'=>
   obtain⟨a2,rfl,ha2⟩:=VR.ptr_inv hp
   obtain⟨rfl,fs,fd,a3,g1,g2,g3,g4,g5⟩:=Ci_ (w:=w) he h3 ha2
   refine⟨rfl, .var a3, ?_,g5⟩
   show(follow (st::rest) t _).run E.P w=(follow rest q.1 _).run E.P w
   rw[g3]
   simp[follow,g1,g2,e,Place.get,asAddr,g4]
 |false,true,h,hp=>
  obtain⟨a,s1,h1,h2⟩:=bind_some h
  obtain⟨rfl,rfl⟩:=GD h1
  obtain⟨q,s2,h3,h4⟩:=bind_some h2
  obtain⟨rfl,rfl⟩:=An h4
  cases pl with
  |val v'=>exact hp.elim
  |var a2=>
   obtain⟨a',q1,ha2⟩:=hp
   cases q1
   obtain⟨rfl,fs,fd,a3,g1,g2,g3,g4,g5⟩:=Ci_ (w:=w) he h3 ha2
   refine⟨rfl, .var a3, ?_,g5⟩
   show(follow (st::rest) t _).run E.P w=(follow rest q.1 _).run E.P w
   rw[g3]
   simp[follow,g1,g2,e,g4]
 |false,false,h,hp=>
  obtain⟨cs,s1,h1,h2⟩:=bind_some h
  obtain⟨⟨c,rfl,rfl⟩,rfl⟩:=Co_ h1
  obtain⟨q,s2,h3,h4⟩:=bind_some h2
  obtain⟨rfl,rfl⟩:=An h4
  cases pl with
  |var a'=>exact hp.elim
  |val v'=>
   obtain⟨c',rfl,hc⟩:=VR.agg_inv hp
   obtain⟨rfl,fs,fd,v2,g1,g2,g3,g4,g5⟩:=Tb_ (w:=w) he h3 hc
   refine⟨rfl, .val v2, ?_,g5⟩
   show(follow (st::rest) t _).run E.P w=(follow rest q.1 _).run E.P w
   rw[g3]
   simp[follow,g1,g2,e,g4]
 |true,true,h,hp=>cases h
theorem Tw {w:World}{r:Inj}(he:EnvTy E): ∀{l:List FieldStep} {t:Nat} {v:Value} {b:Bool} {pl:Place} {s s':St} {p:Nat×Value×Bool},Im E l t v b s= .some p s'→PlR r b v pl→
  s=s'∧ ∃pl',(follow l t pl).run E.P w= .ok (p.1,pl') w∧PlR r p.2.2 p.2.1 pl'
 |[],t,v,b,pl,s,s',p,h,hp=>by
  obtain⟨rfl,rfl⟩:=An (show M.pure (t,v,b) s= .some p s' from h)
  exact⟨rfl,pl,by simp[follow],hp⟩
 |st::l,t,v,b,pl,s,s',p,h,hp=>by
  obtain⟨q,s1,h1,h2⟩:=bind_some (show M.bind (EW E st v b) (fun p=>Im E l p.1 p.2.1 p.2.2) s= .some p s' from h)
  obtain⟨rfl,pl1,g1,g2⟩:=UM_ (w:=w) he h1 hp t l
  obtain⟨rfl,pl2,g3,g4⟩:=Tw (w:=w) he h2 g2
  exact⟨rfl,pl2,by rw[g1,g3],g4⟩
theorem Ph_ {w:World}{r:Inj}(he:EnvTy E){t n:Nat}{v v':Value}{name:String}{s s':St}{p:Nat×Value}(h:E5 E t v name s= .some p s')(hv:VR r v v'):
  s=s'∧ ∃x,(method (n+1) t v' name).run E.P w= .ok (p.1,x) w∧VR r p.2 x:=by
 obtain⟨m,h1,h⟩:=BH h
 obtain⟨fp,h2,h⟩:=BH h
 obtain⟨q,s1,h3,h⟩:=bind_some h
 obtain⟨i,s2,h4,h⟩:=bind_some h
 obtain⟨hi,rfl⟩:=AY h4 he
 obtain⟨h5,h6⟩:=Bt h
 obtain⟨rfl,rfl⟩:=An h6
 obtain⟨rfl,pl,g1,g2⟩:=Tw (w:=w) (r:=r) he h3 (pl:= .val v') hv
 obtain⟨info,h7,h8⟩:=DJ (show onO (E.P.info? t) (fun i=>i.methods.toList.find? fun m=>m.name==name)=some m from h1)
 have h9:info.methods.find? (fun m=>m.name==name)=some m:=by rw[←Array.find?_toList];exact h8
 obtain⟨f,pr⟩:=fp
 have key: ∃x,(∀wr,(receiverAt q.1 pl pr wr).run E.P w= .ok x w)∧VR r q.2.1 x:=by
  have hu:=hi.run_und (w:=w)
  generalize i.u=u at h5 hu
  obtain⟨q1,q2,q3⟩:=q
  simp only at h5 hu g2 ⊢
  unfold Yl at h5
  split at h5
  ·rename_i e
   rw[Bool.and_eq_true,Bool.not_eq_true']at h5
   obtain⟨h5a,h6a⟩:=h5
   subst h5a
   subst h6a
   cases pl with
   |var a=>exact g2.elim
   |val x=>exact⟨x,fun wr=>by simp[receiverAt,hu,Place.get],g2⟩
  ·rename_i hne
   have h5':=eq_of_beq h5
   subst h5'
   have hne2: ∀e,u≠ .pointer e:=fun e he=>hne e he
   cases pr with
   |true=>
    cases pl with
    |val x=>exact g2.elim
    |var a=>
     obtain⟨a1,rfl,ha⟩:=g2
     refine⟨.pointer (some a), ?_,ha.ptr⟩
     intro wr
     cases u<;>first|exact absurd rfl (hne2 _)|simp[receiverAt,hu]
   |false=>
    cases pl with
    |var a=>exact g2.elim
    |val x=>
     refine⟨x, ?_,g2⟩
     intro wr
     cases u<;>first|exact absurd rfl (hne2 _)|simp[receiverAt,hu,Place.get]
 obtain⟨x,k1,k2⟩:=key
 refine⟨rfl,x, ?_,k2⟩
 have hti:(typeInfo t).run E.P w= .ok info w:=by simp[typeInfo,program,Sem.run,h7]
 simp[method,hti,h9,g1,h2,k1]
theorem Iq_ (he:EnvTy E){x:Operand}{name:String}{c:Call}(ho:o.op= .call c)(hc:c.callee= .invoke x name):OpS E o (Oe E ds x name c.args.toList) ds:=by
 obtain⟨g,h1,h2⟩:=By ds x
 obtain⟨g',h3,h4⟩:=D0 ds c.args.toList
 refine⟨fun call round rho tm=>M.on (g rho tm) fun f=>M.on (g' rho tm) fun l=>NJ E call name f l,by unfold Oe;simp only[h1,h3], ?_, ?_⟩
 ·intro call round hc1 hc2 rho tm
  refine Ao _ fun f=>Ao _ fun l=> ?_
  unfold NJ
  split
  ·exact Ae (VP_ _ _ _) fun p=>hc1.loc _ _
  ·exact Ah
 ·intro call round hc1 hc2 w0 w r U rho tm b t dfs cs base s out s' hs hu hr hx hb hf e ops i rest k hoi hw
  have on': ∀{α β:Type} {y:Option α} {f:α→M β} {o:Out β} {s s':St},M.on y f s=rOf o s'→ ∃a,y=some a∧f a s=rOf o s':=by
   intro α β y f o s s' h
   cases y with
   |none=>exact(AX h).elim
   |some a=>exact⟨a,rfl,h⟩
  obtain⟨fv,e1,e⟩:=on' e
  obtain⟨l,e2,e⟩:=on' e
  have hfv:=h2 _ _ _ _ ⟨t,dfs⟩ _ hs (fun t q=>hu t (by simp[ho,Op.operands,Call.operands,hc]at q ⊢;simp[q])) e1
  have hl:VRs r l (c.args.toList.map (Act.eval ⟨t,dfs⟩)):=h4 _ _ _ _ ⟨t,dfs⟩ _ hs (fun t q=>hu t (by simp[ho,Op.operands,Call.operands]at q ⊢;simp[q])) e2
  have hmap:c.args.map (Act.eval ⟨t,dfs⟩)=(c.args.toList.map (Act.eval ⟨t,dfs⟩)).toArray:=by rw[←List.map_toArray]
  have hd: ∀c,o.op≠ .defer c:=by rw[ho];intro c h;cases h
  unfold NJ at e
  split at e
  ·rename_i ty v _
   have hbind: ∃p s1,E5 E ty v name s= .some p s1∧call p.1 (p.2::l) s1=rOf out s':=by
    have e':(match E5 E ty v name s with| .none=>R.none| .some p s1=>call p.1 (p.2::l) s1| .pan c s1=> .pan c s1)=rOf out s':=by
     rw[←e]
     unfold M.bind
     cases E5 E ty v name s<;>rfl
    cases e3:E5 E ty v name s with
    |none=>rw[e3]at e';exact(AX e').elim
    |some p s1=>rw[e3]at e';exact⟨p,s1,rfl,e'⟩
    |pan c s1=>exact((Qs_ _ _ _).no _ _ _ e3).elim
   obtain⟨p,s1,e3,e4⟩:=hbind
   have inv: ∀{z:Value},VR r (.iface ty v) z→ ∃v',z= .iface ty v'∧VR r v v':=by
    intro z hz
    cases hz with
    |iface h=>exact⟨_,rfl,h⟩
   obtain⟨v',hrecv,hv⟩:=inv hfv
   ·skip
    have hfuel: ∀z:Nat,z+Made.depth=(z+99)+1:=fun z=>rfl
    obtain⟨rfl,rv,m1,m2⟩:=Ph_ (w:=w) (n:=E.P.types.size+99) he e3 hv
    have hm: ∀(args:Array Value),(callMethod (.iface ty v') name args).run E.P w=(callFunc p.1 (#[rv]++args)).run E.P w:=by
     intro args
     unfold callMethod
     simp only[Sem.run_bind,run_program,Result.andThen_ok]
     rw[hfuel,m1]
     simp only[Result.andThen_ok]
    have e1:(#[rv]++c.args.map (Act.eval ⟨t,dfs⟩))=(rv::c.args.toList.map (Act.eval ⟨t,dfs⟩)).toArray:=by
     rw[hmap];simp
    have hexec:(execOp (Act.eval ⟨t,dfs⟩) o).run E.P w=(callFunc p.1 (rv::c.args.toList.map (Act.eval ⟨t,dfs⟩)).toArray).run E.P w:=by
     rw[←e1,←hm]
     simp only[execOp,ho,resolve,hc,hrecv]
     have hz: ∀(y:Value) (l:Array Value),(#[y]++l)[0]?=some y:=fun y l=>(Array.getElem?_append_left (by simp)).trans rfl
     have hz2: ∀(y:Value) (l:Array Value),(#[y]++l).extract 1 (#[y]++l).size=l:=fun y l=>by
      simp[Array.extract_append]
     simp only[invoke,Sem.run_bind,Sem.run_pure,Result.andThen_ok,hz,hz2]
    rcases hc1.ok e4 hr hb hf (args':=rv::c.args.toList.map (Act.eval ⟨t,dfs⟩)) (.cons m2 hl)with⟨k1,k2⟩|⟨_,v,v',w',r',rfl,g1,g2,g3,g4,g5⟩
    case inr=>
     refine⟨w',r',dfs,cs,g2,by rw[g4];exact hx.mono g2.le,g3,v',g1, .one (step_lone_go ?_)⟩
     rw[Ez hoi hw (.inr hd),←Er b t dfs hoi]
     rw[g5]at hexec
     simp[stepG.apply,hexec]
    obtain⟨w',r',g1,g2,g3,g4⟩:=k2 (frm b t dfs (.inRegion ops (i::rest)::k)) cs
    have henter:step E.P (lone (frm b t dfs (.inRegion ops (i::rest)::k)) cs w)=
      .next (lone (Frame.enter E.P p.1 (rv::c.args.toList.map (Act.eval ⟨t,dfs⟩)).toArray .normal) (frm b t dfs (.inRegion ops (i::rest)::k)::cs) w):=by
     refine step_lone_go ?_
     rw[Ez hoi hw (.inr hd)]
     rw[k1]at hexec
     simp[stepG.apply,hexec,frm]
    refine⟨w',r',dfs,cs,g1,by rw[g3];exact hx.mono g1.le,g2, ?_⟩
    unfold Ends at g4
    cases out with
    |inl v=>
     obtain⟨v',p1,p2⟩:=g4
     rw[Er b t dfs hoi]at p2
     exact⟨v',p1, .head henter p2⟩
    |inr ch=>
     obtain⟨ch',p1,p2⟩:=g4
     exact⟨ch',_,p1, .head henter p2⟩
  ·exact(AX e).elim
end
section
variable {E:Env}{ds:List Nat}{o:Oper}
theorem Eu {α:Type}{g:Option α}{f:α→M Value}(h: ∀a,Loc (f a)):Loc (fun s=>Option.rec (motive:=fun _=>R Value) .none (fun a=>f a s) g):=by
 cases g with
 |none=>exact Yw
 |some a=>exact h a
theorem Kp_ {α:Type}{x:Option α}{f:α→St→R Value}{s s':St}{out:Out Value}(h:Option.rec (motive:=fun _=>R Value) .none (fun a=>f a s) x=rOf out s'): ∃a,x=some a∧f a s=rOf out s':=by
 cases x with
 |none=>exact(AX h).elim
 |some a=>exact⟨a,rfl,h⟩
theorem Ve_ {α:Type}{b:Bool}{m:M α}{o:Out α}{s s':St}(h:M.chk b m s=rOf o s'):b=true∧m s=rOf o s':=by
 cases b with
 |false=>exact(AX h).elim
 |true=>exact⟨rfl,h⟩
theorem G6 {α β:Type}{y:Option α}{f:α→M β}{o:Out β}{s s':St}(h:M.on y f s=rOf o s'): ∃a,y=some a∧f a s=rOf o s':=by
 cases y with
 |none=>exact(AX h).elim
 |some a=>exact⟨a,rfl,h⟩
theorem CH {α β:Type}{m:M α}{f:α→M β}{o:Out β}{s s':St}(h:M.bind m f s=rOf o s'):(∃a s1,m s= .some a s1∧f a s1=rOf o s')∨ ∃c,m s= .pan c s'∧o= .inr c:=by
 unfold M.bind at h
 cases e:m s with
 |none=>rw[e]at h;exact(AX h).elim
 |some a s1=>rw[e]at h;exact .inl ⟨a,s1,rfl,h⟩
 |pan c s1=>
  rw[e]at h
  obtain⟨rfl,rfl⟩:=I5 h
  exact .inr ⟨c,rfl,rfl⟩
theorem N9 {β:Type}{f:Ctx→M β}{s:St}:M.bind getCx f s=f s.cx s:=rfl
theorem Vk_ {β:Type}{x:Ctx}{f:Unit→M β}{s:St}:M.bind (putCx x) f s=f () ⟨s.mem,s.next,s.lim,s.rd,s.wr,x⟩:=rfl
theorem FQ_ {x:Operand}(ho:o.op= .panic x):OpS E o (Bq ds x Y7) ds:=by
 obtain⟨g,h1,h2⟩:=By ds x
 refine⟨_,by unfold Bq;rw[h1],fun call round _ _ rho tm=>Eu fun a=> ?_, ?_⟩
 ·cases a<;>first|exact Sh _|exact Ah
 ·intro call round hc1 hc2 w0 w r U rho tm b t dfs cs base s out s' hs hu hr hx hb hf e ops i rest k hoi hw
  obtain⟨v,e1,e⟩:=Kp_ e
  have hv:VR r v (Act.eval ⟨t,dfs⟩ x):=h2 _ _ _ _ ⟨t,dfs⟩ _ hs (fun t q=>hu t (by simp[ho,Op.operands]at q ⊢;simp[q])) e1
  have hd: ∀c,o.op≠ .defer c:=by rw[ho];intro c h;cases h
  cases v with
  |iface ty y=>
   obtain⟨rfl,rfl⟩:=I5 (show R.pan [{v:= .iface ty y,recovered:=false}] s=rOf out s' from e)
   cases hv':Act.eval ⟨t,dfs⟩ x with
   |iface ty' y'=>
    rw[hv']at hv
    refine⟨w,r,dfs,cs, .of_rel rfl hr,hx,rfl,[{v:= .iface ty' y',recovered:=false}], .inRegion ops (i::rest)::k, .cons hv rfl rfl .nil, .one (step_lone_go ?_)⟩
    rw[Ez hoi hw (.inr hd)]
    simp only[execOp,ho,hv']
    rw[←Jn_]
    simp[stepG.apply,Instr.panic,goPanic,Sem.run]
   |_=>rw[hv']at hv;cases hv
  |_=>exact(AX e).elim
theorem Sv_ {c:Call}(ho:o.op= .call c)(hc:c.callee= .builtin .recover):OpS E o (.mk fun _ _ _ _=>Iv) ds:=by
 refine⟨_,rfl,fun _ _ _ _ _ _=>NR_, ?_⟩
 intro call round hc1 hc2 w0 w r U rho tm b t dfs cs base s out s' hs hu hr hx hb hf e ops i rest k hoi hw
 have hd: ∀c,o.op≠ .defer c:=by rw[ho];intro c h;cases h
 have hrun:(execOp (Act.eval ⟨t,dfs⟩) o).run E.P w= .ok .recover w:=by
  simp[execOp,ho,resolve,hc,invoke,builtin]
 have key: ∀{v v':Value} {cs':List Frame},b.roundOf=none→((tryRecover (frm b t dfs (.inRegion ops (i::rest)::k)) cs=some (v',cs'))∨(tryRecover (frm b t dfs (.inRegion ops (i::rest)::k)) cs=none∧v'= .nilIface∧cs'=cs))→
   step E.P (lone (frm b t dfs (.inRegion ops (i::rest)::k)) cs w)= .next (lone (frm b (putT t o.dst v') dfs (.inRegion ops rest::k)) cs' w):=by
  intro v v' cs' hro htr
  refine step_lone_go ?_
  rw[Ez hoi hw (.inr hd),←Er b t dfs hoi]
  have hro':(frm b t dfs (.inRegion ops (i::rest)::k)).roundOf=none:=hro
  rcases htr with htr|⟨htr,rfl,rfl⟩<;>simp[stepG.apply,hrun,hro',htr]
 unfold Iv at e
 rw[N9]at e
 have fin:(∃m d,s.cx= .cx (some m) (some d))∨(∃d,s.cx= .cx none (some d)):=by
  cases hcx:s.cx with
  |no=>rw[hcx]at e;exact(AX e).elim
  |cx up d=>
   cases d with
   |none=>rw[hcx]at e;cases up<;>exact(AX e).elim
   |some d=>cases up with
    |none=>exact .inr ⟨d,rfl⟩
    |some m=>exact .inl ⟨m,d,rfl⟩
 rcases fin with⟨m,d,hcx⟩|⟨d,hcx⟩
 ·rw[hcx]at hx e
  unfold CxR at hx
  obtain⟨⟨q1,c0,rest0,m',q2,q3,q4⟩,q5,q6⟩:=hx
  have htry:=tryRecover_deferred (fr:=frm b t dfs (.inRegion ops (i::rest)::k)) q1 cs
  cases hrm:recM m with
  |none=>
   replace e:Option.rec (motive:=fun _=>M Value) (M.pure .nilIface) (fun p=>M.bind (putCx (.cx (some p.2) (some d))) fun _=>M.pure p.1) (recM m) s=rOf out s':=e
   rw[hrm]at e
   obtain⟨rfl,rfl⟩:=Bu (show R.some .nilIface s=rOf out s' from e)
   refine⟨w,r,dfs,cs, .of_rel rfl hr, ?_,rfl, .nilIface, .nilIface, .one (key (v:= .nilIface) q5 (.inr ⟨?_,rfl,rfl⟩))⟩
   ·rw[hcx];exact⟨⟨q1,c0,rest0,m',q2,q3,q4⟩,q5,q6⟩
   ·rw[htry,q3]
    cases q4 with
    |run=>rfl
    |ret=>rfl
    |pan hch=>
     cases hch with
     |nil=>rfl
     | @cons e0 e1 l0 l1 p1 p2 p3 p4=>
      obtain⟨ev,er,eg⟩:=e0
      obtain⟨ev',er',eg'⟩:=e1
      simp only at p1 p2 p3
      subst p2
      subst p3
      cases er'<;>cases eg'<;>first|rfl|(simp[recM]at hrm)
  |some p=>
   replace e:Option.rec (motive:=fun _=>M Value) (M.pure .nilIface) (fun p=>M.bind (putCx (.cx (some p.2) (some d))) fun _=>M.pure p.1) (recM m) s=rOf out s':=e
   rw[hrm]at e
   obtain⟨pv,pm⟩:=p
   obtain⟨rfl,rfl⟩:=Bu (show R.some pv ⟨s.mem,s.next,s.lim,s.rd,s.wr, .cx (some pm) (some d)⟩=rOf out s' from e)
   unfold recM at hrm
   split at hrm
   ·rename_i v older
    simp only[Option.some.injEq,Prod.mk.injEq]at hrm
    obtain⟨rfl,rfl⟩:=hrm
    cases q4 with
    |pan hch=>
     cases hch with
     | @cons _ e1 _ l1 p1 p2 p3 p4=>
      obtain⟨ev,er,eg⟩:=e1
      simp only at p1 p2 p3
      subst p2
      subst p3
      refine⟨w,r,dfs,{c0 with mode:= .panicking ({v:=ev,recovered:=true}::l1)}::rest0, .of_rel rfl hr, ?_,rfl,ev,p1, .one (key (v:=v) q5 (.inl ?_))⟩
      ·exact⟨⟨q1,c0,rest0,_,q2,rfl, .pan (.cons p1 rfl rfl p4)⟩,q5,q6⟩
      ·rw[htry,q3];rfl
   ·cases hrm
 ·rw[hcx]at hx e
  unfold CxR at hx
  obtain⟨⟨q1,q2⟩,q5,q6⟩:=hx
  obtain⟨rfl,rfl⟩:=Bu (show R.some .nilIface s=rOf out s' from e)
  refine⟨w,r,dfs,cs, .of_rel rfl hr, ?_,rfl, .nilIface, .nilIface, .one (key (v:= .nilIface) q5 (.inr ⟨?_,rfl,rfl⟩))⟩
  ·rw[hcx];exact⟨⟨q1,q2⟩,q5,q6⟩
  ·have hk:(frm b t dfs (.inRegion ops (i::rest)::k)).kind= .normal:=q1
   unfold tryRecover
   rw[hk]
theorem GN_ {x:Operand}{c:Call}(ho:o.op= .defer c)(hc:c.callee= .value x):OpS E o (La ds c) ds:=by
 obtain⟨g,h1,h2⟩:=By ds x
 obtain⟨g',h3,h4⟩:=D0 ds c.args.toList
 refine⟨fun call round rho tm=>M.on (g rho tm) fun f=>M.on (g' rho tm) fun l=>Jv f l,by unfold La;simp only[hc,h1,h3], ?_, ?_⟩
 ·intro call round _ _ rho tm
  exact Ao _ fun f=>Ao _ fun l=>Tj_ _ _
 ·intro call round hc1 hc2 w0 w r U rho tm b t dfs cs base s out s' hs hu hr hx hb hf e ops i rest k hoi hw
  obtain⟨fv,e1,e⟩:=G6 e
  obtain⟨l,e2,e⟩:=G6 e
  have hfv:=h2 _ _ _ _ ⟨t,dfs⟩ _ hs (fun t q=>hu t (by simp[ho,Op.operands,Call.operands,hc]at q ⊢;simp[q])) e1
  have hl:VRs r l (c.args.toList.map (Act.eval ⟨t,dfs⟩)):=h4 _ _ _ _ ⟨t,dfs⟩ _ hs (fun t q=>hu t (by simp[ho,Op.operands,Call.operands]at q ⊢;simp[q])) e2
  have hmap:c.args.map (Act.eval ⟨t,dfs⟩)=(c.args.toList.map (Act.eval ⟨t,dfs⟩)).toArray:=by rw[←List.map_toArray]
  unfold Jv at e
  rw[N9]at e
  have fin: ∃up d fn first cap,s.cx= .cx up (some d)∧fv= .func fn first cap:=by
   cases hcx:s.cx with
   |no=>rw[hcx]at e;cases fv<;>exact(AX e).elim
   |cx up d=>
    cases d with
    |none=>rw[hcx]at e;cases fv<;>exact(AX e).elim
    |some d=>cases fv with
     |func fn first cap=>exact⟨up,d,fn,first,cap,rfl,rfl⟩
     |_=>rw[hcx]at e;exact(AX e).elim
  obtain⟨up,d,fn,first,cap,hcx,rfl⟩:=fin
  ·rw[hcx]at e
   obtain⟨f',a',c',q1,q2,q3,q4⟩:=hfv.func_inv
   obtain⟨rfl,rfl⟩:=Bu (show R.some undef ⟨s.mem,s.next,s.lim,s.rd,s.wr, .cx up (some ({target:= .fn fn cap,args:=first++l.toArray}::d))⟩=rOf out s' from e)
   rw[hcx]at hx
   unfold CxR at hx
   obtain⟨p1,p2,p3⟩:=hx
   refine⟨w,r,{target:= .fn f' c',args:=a'++c.args.map (Act.eval ⟨t,dfs⟩)}::dfs,cs, .of_rel rfl hr,⟨p1,p2, .cons (.fn q2 q4 ?_) p3⟩,rfl,undef, .undef, .one (step_lone_go ?_)⟩
   ·rw[hmap];simpa using q3.append hl
   ·rw[Ez hoi hw (.inl p2)]
    simp only[execOp,ho,I6 _ hc q1]
    rw[←Er b t _ hoi]
    simp[stepG.apply,frm]
theorem YF {k:Int→Int→St→R Value}{slow:Value→Value→M Value}(hk: ∀a b,Loc (k a b))(hs: ∀x y,Loc (slow x y))(x y:Value):Loc (int2 k slow x y):=by
 unfold int2 Cz
 cases x
 case int k1 a=>
  cases y
  case int k2 b=>
   cases h1:D2 k1 with
   |false=>simp only[h1];exact hs _ _
   |true=>
    cases h2:D2 k2 with
    |false=>simp only[h1,h2];exact hs _ _
    |true=>simp only[h1,h2];exact hk a b
  all_goals exact hs _ _
 all_goals exact hs _ _
theorem Pc {k:Cw}{slow:Value→Value→M Value}(hs: ∀x y,Loc (slow x y))(x y:Value):Loc (int3 k slow x y):=by
 unfold int3 Cz
 cases x
 case int k1 a=>
  cases y
  case int k2 b=>
   cases a with
   |negSucc m=>exact hs _ _
   |ofNat m=>
    cases b with
    |negSucc n=>exact hs _ _
    |ofNat n=>
     simp only
     cases k k1 k2 m n with
     |none=>exact hs _ _
     |some u=>exact Ai _
  all_goals exact hs _ _
 all_goals exact hs _ _
theorem Op_ {op:BinOp}{t:Nat}{x y:Operand}{f:Value→Value→M Value}(h:aBin E op t x y= .mk f): ∀a b,Loc (f a b):=by
 have slow: ∀op a b,Loc (A8 E op t x y a b):=fun op a b=>VZ_ _ _ _ _ _ _ _
 have rI': ∀n,Loc (rI n):=fun n=>by
  have:rI n=(M.pure (.int .i64 (wrap64 n)):M Value):=by funext s;unfold rI;rw[Ee];rfl
  rw[this];exact Ai _
 have rB': ∀b,Loc (rB b):=fun b=>by cases b<;>exact Ai _
 intro a b
 cases op<;>cases h<;>first|exact slow _ _ _|exact Pc (slow _) _ _|exact YF (fun a b=>rI' _) (Pc (slow _)) _ _|exact YF (fun a b=>rB' _) (Pc (slow _)) _ _
theorem Zw {x:Operand}: ∀f,EM ds x= .mk f→ ∀call round rho tm,Loc (f call round rho tm):=by
 obtain⟨g,h1,_⟩:=By ds x
 intro f h
 unfold EM at h
 rw[h1]at h
 cases h
 exact fun _ _ _ _=>Eu (f:=fun a=>M.pure a) fun a=>Ai a
theorem CP {x:Operand}{k:Value→M Value}(hk: ∀a,Loc (k a)): ∀f,Bq ds x k= .mk f→ ∀call round rho tm,Loc (f call round rho tm):=by
 obtain⟨g,h1,_⟩:=By ds x
 intro f h
 unfold Bq at h
 rw[h1]at h
 cases h
 exact fun _ _ _ _=>Eu hk
theorem FG {x y:Operand}{k:Value→Value→M Value}(hk: ∀a b,Loc (k a b)): ∀f,Cj ds x y k= .mk f→ ∀call round rho tm,Loc (f call round rho tm):=by
 obtain⟨g,h1,_⟩:=By ds x
 obtain⟨g',h2,_⟩:=By ds y
 intro f h
 unfold Cj at h
 rw[h1,h2]at h
 cases h
 exact fun _ _ rho tm=>Eu (f:=fun a s=>Option.rec (motive:=fun _=>R Value) .none (fun b=>k a b s) (g' rho tm)) fun a=>Eu (hk a)
theorem Jh_ {l:List Operand}{k:List Value→M Value}(hk: ∀a,Loc (k a)): ∀f,Gf ds l k= .mk f→ ∀call round rho tm,Loc (f call round rho tm):=by
 obtain⟨g,h1,_⟩:=D0 ds l
 intro f h
 unfold Gf at h
 rw[h1]at h
 cases h
 exact fun _ _ _ _=>Eu hk
theorem GZ_ {l l':List Operand}{k:List Value→List Value→M Value}(hk: ∀a b,Loc (k a b)): ∀f,Jz ds l l' k= .mk f→ ∀call round rho tm,Loc (f call round rho tm):=by
 obtain⟨g,h1,_⟩:=D0 ds l
 obtain⟨g',h2,_⟩:=D0 ds l'
 intro f h
 unfold Jz at h
 rw[h1,h2]at h
 cases h
 exact fun _ _ rho tm=>Eu (f:=fun a s=>Option.rec (motive:=fun _=>R Value) .none (fun b=>k a b s) (g' rho tm)) fun a=>Eu (hk a)
theorem Ct_ {l:List (Nat×Operand)}{k:List (Nat×Value)→M Value}(hk: ∀a,Loc (k a)): ∀f,EV ds l k= .mk f→ ∀call round rho tm,Loc (f call round rho tm):=by
 obtain⟨g,h1,_⟩:=Oc ds l
 intro f h
 unfold EV at h
 rw[h1]at h
 cases h
 exact fun _ _ _ _=>Eu hk
theorem NK {x y z:Operand}{k:Value→Value→Value→M Value}(hk: ∀a b c,Loc (k a b c)): ∀f,CV ds x y z k= .mk f→ ∀call round rho tm,Loc (f call round rho tm):=by
 obtain⟨g,h1,_⟩:=By ds x
 obtain⟨g',h2,_⟩:=By ds y
 obtain⟨g2,h3,_⟩:=By ds z
 intro f h
 unfold CV at h
 rw[h1,h2,h3]at h
 cases h
 exact fun _ _ rho tm=>Ao _ fun a=>Ao _ fun b=>Ao _ fun c=>hk a b c
theorem IR_ {t:Nat}{x:Operand}{lo hi mx:Option Operand}: ∀f,Jr E ds t x lo hi mx= .mk f→ ∀call round rho tm,Loc (f call round rho tm):=by
 cases mx with
 |some m=>intro f h;cases h;exact fun _ _ _ _=>Ah
 |none=>
  obtain⟨g,h1,_⟩:=By ds x
  obtain⟨g',h2,_⟩:=LI ds lo
  obtain⟨g2,h3,_⟩:=LI ds hi
  intro f h
  unfold Jr Pz at h
  simp only[h1,h2,h3]at h
  cases h
  exact fun _ _ rho tm=>Ao _ fun a=>Ao _ fun b=>Ao _ fun c=>Tr_ _ _ _ _ _
theorem Wm:OpS E o Me ds:=⟨_,rfl,fun _ _ _ _ _ _=>Ah,fun _call _round _ _ _w0 _w _r _U _rho _tm _b _t _dfs _cs _base _s _out _s' _hs _hu _hr _hx _hb _hf e=>(AX e).elim⟩
theorem Ir_ (he:EnvTy E)(o:Oper)(ds:List Nat):OpS E o (DW E ds o.op) ds:=by
 have nd: ∀{p:Op},o.op=p→(∀c,p≠ .defer c)→ ∀c,o.op≠ .defer c:=fun h k c=>by rw[h];exact k c
 generalize hop:o.op=op
 unfold DW
 split
 ·exact .ofV (RR_ hop) (nd hop (by intro c h;cases h)) Zw
 ·exact .ofV (HO_ hop) (nd hop (by intro c h;cases h)) Zw
 ·exact .ofV (QV_ hop) (nd hop (by intro c h;cases h)) (NK Ha_)
 ·exact .ofV (RO_ hop he) (nd hop (by intro c h;cases h)) (by intro f h;cases h;exact fun _ _ _ _=>Qw_ _ _)
 ·exact .ofV (Fj_ hop) (nd hop (by intro c h;cases h)) (CP Nt_)
 ·exact .ofV (WB_ hop he) (nd hop (by intro c h;cases h)) (Ct_ fun a=>RZ_ _ _ _)
 ·exact .ofV (LA_ hop he) (nd hop (by intro c h;cases h)) (Ct_ fun a=>HL_ _ _ _ _)
 ·exact .ofV (Pc_ hop he) (nd hop (by intro c h;cases h)) (CP fun a=>Xu_ _ _ _)
 ·exact .ofV (FN_ hop he) (nd hop (by intro c h;cases h)) (FG fun a b=>HU_ _ _ _ _)
 ·exact .ofV (KY_ hop) (nd hop (by intro c h;cases h)) (CP Nb_)
 ·refine .ofV (Fv_ hop he) (nd hop (by intro c h;cases h)) ?_
  rename_i op t x y yt
  generalize hc:aBin E op t x y=c
  obtain⟨f⟩:=c
  exact FG (Op_ hc)
 ·exact .ofV (UQ_ hop) (nd hop (by intro c h;cases h)) (CP fun a=>Rv_ _ _ _)
 ·exact .ofV (Dc_ hop he) (nd hop (by intro c h;cases h)) (CP fun a=>Ws_ _ _ _ _)
 ·exact .ofV (JM_ hop he) (nd hop (by intro c h;cases h)) (CP fun a=>VB_ _ _ _)
 ·exact .ofV (Np_ hop he) (nd hop (by intro c h;cases h)) (CP fun a=>KD_ _ _ _)
 ·exact .ofV (Lh_ hop) (nd hop (by intro c h;cases h)) (GZ_ fun a b=>Ai _)
 ·exact .ofV (XD_ hop he) (nd hop (by intro c h;cases h)) (FG fun a b=>Ob_ _ _ _ _)
 ·exact .ofV (Du_ hop he) (nd hop (by intro c h;cases h)) IR_
 ·exact .ofV (Lj_ hop he) (nd hop (by intro c h;cases h)) (CP fun a=>IO_ _ _ _ _)
 ·exact .ofV (WY_ hop he) (nd hop (by intro c h;cases h)) (CP fun a=>Nd_ _ _ _ _)
 ·exact .ofV (JA_ hop he) (nd hop (by intro c h;cases h)) (FG fun a b=>NL_ _ _ _ _)
 ·exact .ofV (Kw_ hop he) (nd hop (by intro c h;cases h)) (FG fun a b=>Nq_ _ _ _ _)
 ·exact .ofV (El_ hop) (nd hop (by intro c h;cases h)) (CP fun a=>IQ_ _ _)
 ·rename_i c
  cases hc:c.callee with
  |value f=>unfold Gz;simp only[hc];exact Ja_ hop hc
  |invoke a b=>unfold Gz;simp only[hc];exact Iq_ he hop hc
  |builtin bi=>
   by_cases hbr:bi= .recover
   ·subst hbr;unfold Gz;simp only[hc];exact Sv_ hop hc
   ·have:Gz E ds c=Gf ds c.args.toList (AT E bi c.argTypes.toList):=by
     unfold Gz
     rw[hc]
     cases bi<;>first|rfl|exact absurd rfl hbr
    rw[this]
    exact .ofV (Km_ hop hc hbr he) (nd hop (by intro c h;cases h)) (Jh_ fun a=>OS_ _ _ _ _)
 ·exact FQ_ hop
 ·rename_i c
  cases hc:c.callee with
  |value f=>exact GN_ hop hc
  |_=>unfold La;simp only[hc];exact Wm
 ·exact .ofV (VU_ hop he) (nd hop (by intro c h;cases h)) (CP fun a=>Rh_ _ _ _ _)
 ·exact .ofV (HK_ hop he) (nd hop (by intro c h;cases h)) (CP fun a=>QQ_ _ _ _)
 ·exact .ofV (To_ hop) (nd hop (by intro c h;cases h)) (CP fun a=>Xz_ _)
 ·exact .ofV (Ka_ hop) (nd hop (by intro c h;cases h)) (by intro f h;cases h;exact fun _ _ _ _=>YZ)
 ·exact .ofV (LQ_ hop he) (nd hop (by intro c h;cases h)) (CP fun a=>Fm_ _ _ _)
 ·exact .ofV (IP_ hop he) (nd hop (by intro c h;cases h)) (FG fun a b=>Ks_ _ _ _ _ _)
 ·exact .ofV (Kl_ hop he) (nd hop (by intro c h;cases h)) (NK fun a b c=>Y0 _ _ _ _ _)
 ·exact .ofV (Tk_ hop he) (nd hop (by intro c h;cases h)) (NK fun a b c=>Y0 _ _ _ _ _)
 ·exact .ofV (FG_ hop he) (nd hop (by intro c h;cases h)) (FG fun a b=>FH_ _ _ _ _)
 ·exact .ofV (Rg_ hop) (nd hop (by intro c h;cases h)) (NK fun a b c=>GU_ _ _ _)
 ·exact Wm
end
end Go.Proofs.Ytofanlcjeohcjaa.Am
