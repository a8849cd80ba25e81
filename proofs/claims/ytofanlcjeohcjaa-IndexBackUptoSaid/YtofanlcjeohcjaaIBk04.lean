import Derived.Test.YtofanlcjeohcjaaIBk03
import Derived.Recover
namespace Go.Proofs.Ytofanlcjeohcjaa.Am
open Go.RowKit
section
variable {E:Env}{ds:List Nat}{o:Oper}
theorem Wz_ {x:Operand}(ho:o.op= .move x):OpV E o (Ff ds x) ds:=Wj (by simp[ho,Op.operands]) λa=>by simp only[execOp,ho]
theorem TW_ {x:Operand}(ho:o.op= .assign x):OpV E o (Ff ds x) ds:=Wj (by simp[ho,Op.operands]) λa=>by simp only[execOp,ho]
theorem Uo_ {e:Nat}(ho:o.op= .alloc e)(he:EnvTy E):OpV E o (.mk λ_ _ _ _=>BV E e) ds:=by
 refine⟨_,rfl,λ_ _ _ _=>Vo_ _ _, ?_⟩
 intro call round w0 w r U rho tm a s v s' hs hu hr h hf
 exact(KB_ he h hr hf).val (by simp only[execOp,ho];rfl)
theorem Akn_ {e:Nat}{x:Operand}(ho:o.op= .box e x):OpV E o (Bw ds x kBox) ds:=
 Dc (m:=Instr.box e) (by simp[ho,Op.operands]) (λa=>by simp only[execOp,ho];rfl) Md_ λh hr hf hx=>Abe_ h hr hf hx
theorem TL_ {t:Nat}{ps:Array (Nat×Operand)}(ho:o.op= .build t ps)(he:EnvTy E):OpV E o (Fc ds ps.toList (C3 E t)) ds:=
 Cp_ (m:=λl=>Instr.build t l.toArray) (by simp[ho,Op.operands]) (λa=>by simp only[execOp,ho];rw[<-List.map_toArray];rfl) (ML_ _ _) λh hr hf hx=>Wg_ he h hr (by simpa using hx)
theorem AiH_ {t n:Nat}{ps:Array (Nat×Operand)}(ho:o.op= .buildSlice t n ps)(he:EnvTy E):OpV E o (Fc ds ps.toList (C5 E t n)) ds:=
 Cp_ (m:=λl=>Instr.buildSlice t n l.toArray) (by simp[ho,Op.operands]) (λa=>by simp only[execOp,ho];rw[<-List.map_toArray];rfl) (Wf_ _ _ _) λh hr hf hx=>AcX_ he h hr hf (by simpa using hx)
theorem UD_ {t:Nat}{x:Operand}(ho:o.op= .load t x)(he:EnvTy E):OpV E o (Bw ds x (AD E t)) ds:=
 Dc (m:=Instr.loadAt t) (by simp[ho,Op.operands]) (λa=>by simp only[execOp,ho];rfl) (Qx_ _ _) λh hr hf hx=>AjG_ he h hr hx
theorem OO_ {t:Nat}{x y:Operand}(ho:o.op= .store t x y)(he:EnvTy E):OpV E o (Cz ds x y (Bo E t)) ds:=by
 obtain⟨g,h1,h2⟩:=BC ds x
 obtain⟨g',h3,h4⟩:=BC ds y
 refine⟨_,by unfold Cz;rw[h1,h3],λ_ _ rho tm=>DQ (g:=g rho tm) (f:=λa s=>Option.rec (motive:=λ_=>R Value) .none (λb=>Bo E t a b s) (g' rho tm)) λa=>DQ (OI_ _ _ a), ?_⟩
 intro call round w0 w r U rho tm a s v s' hs hu hr h hf
 obtain⟨y,e1,e2⟩:=DF (f:=λa s=>Option.rec (motive:=λ_=>R Value) .none (λb=>Bo E t a b s) (g' rho tm)) h
 obtain⟨z,e3,e4⟩:=DF e2
 obtain⟨rfl,w',k1,k2,k3,k4,k5⟩:=Rn_ he e4 hr (h2 _ _ _ _ _ _ hs (λt q=>hu t (by simp[ho,Op.operands]at q ⊢;simp[q])) e1) (h4 _ _ _ _ _ _ hs (λt q=>hu t (by simp[ho,Op.operands]at q ⊢;simp[q])) e3)
 refine⟨undef,w',r, .inr ⟨?_,rfl⟩, .of_rel k3 k2, .tuple rfl (λi v v' e=>by simp at e),k4,k5⟩
 simp[execOp,ho,k1]
theorem SU_ {x:Operand}(ho:o.op= .nilCheck x):OpV E o (Bw ds x kNil) ds:=by
 obtain⟨g,h1,h2⟩:=BC ds x
 refine⟨_,by unfold Bw;rw[h1],λ_ _ rho tm=>DQ (g:=g rho tm) QR_, ?_⟩
 intro call round w0 w r U rho tm a s v s' hs hu hr h hf
 obtain⟨y,e1,e2⟩:=DF h
 have hx:=h2 _ _ _ _ _ _ hs (λt q=>hu t (by simp[ho,Op.operands]at q ⊢;simp[q])) e1
 obtain⟨rfl,rfl,e3⟩:=TS_ (P:=E.P) (w:=w) (a:=a) ho rfl e2 hx
 exact⟨_,w,r, .inl e3, .of_rel rfl hr,hx,rfl,rfl⟩
theorem QY_ {op:BinOp}{t yt:Nat}{x y:Operand}(ho:o.op= .binOp op t x y yt)(he:EnvTy E):OpV E o (Cl.rec (motive:=λ_=>Cl OpT) (λf=>Cz ds x y f) (aBin E op t x y)) ds:=by
 generalize hc:aBin E op t x y=c
 obtain⟨f⟩:=c
 refine Gn (m:=λy' z'=>do eqGuard op t x y y' z';binOp op t y' z') (by simp[ho,Op.operands]) (λa=>by simp only[execOp,ho];rfl) (λy' z'=> ?_) λh hr hf hx hy=>AaP_ hc he h hr hx hy
 have slow: ∀op,NoPan (Bi E op t x y y' z'):=λop=>LF_ _ _ _ _ _ _ _
 have fast3: ∀(k:CL) op,NoPan (int3 k (Bi E op t x y) y' z'):=λk op=>⟨λs c s' e=>by
  unfold int3 CI at e
  cases y'<;>simp only at e
  case int k1 a=>
   cases z'<;>simp only at e
   case int k2 b=>
    cases a with
    |negSucc m=>exact(slow op).no _ _ _ e
    |ofNat m=>
     cases b with
     |negSucc m=>exact(slow op).no _ _ _ e
     |ofNat n=>
      simp only at e
      cases e1:k k1 k2 m n with
      |none=>rw[e1]at e;exact(slow op).no _ _ _ e
      |some u=>rw[e1]at e;cases e
   all_goals exact(slow op).no _ _ _ e
  all_goals exact(slow op).no _ _ _ e⟩
 have fast2: ∀(k:Int->Int->St->R Value) (k3:CL) op,(∀a b,NoPan (k a b))->NoPan (int2 k (int3 k3 (Bi E op t x y)) y' z'):=λk k3 op hk=>⟨λs c s' e=>by
  have f3:=fast3 k3 op
  unfold int2 CI at e
  cases y'<;>simp only at e
  case int k1 a=>
   cases z'<;>simp only at e
   case int k2 b=>
    cases e1:Ep k1 with
    |false=>rw[e1]at e;exact f3.no _ _ _ e
    |true=>
     cases e2:Ep k2 with
     |false=>rw[e1,e2]at e;exact f3.no _ _ _ e
     |true=>rw[e1,e2]at e;exact(hk a b).no _ _ _ e
   all_goals exact f3.no _ _ _ e
  all_goals exact f3.no _ _ _ e⟩
 have rI': ∀n,NoPan (rI n):=λn=>⟨λs c s' e=>by unfold rI at e;rw[Ew]at e;cases e⟩
 have rB': ∀b,NoPan (rB b):=λb=>⟨λs c s' e=>by cases b<;>cases e⟩
 cases op<;>cases hc<;>first|exact slow _|exact fast3 _ _|exact fast2 _ _ _ λa b=>rI' _|exact fast2 _ _ _ λa b=>rB' _
theorem Agc_ {op:UnOp}{t:Nat}{x:Operand}(ho:o.op= .unOp op t x):OpV E o (Bw ds x (kUn E.P op)) ds:=
 Dc (m:=Op.unary op) (by simp[ho,Op.operands]) (λa=>by simp only[execOp,ho];rfl) (SY_ _ _) λh hr hf hx=>Agf_ h hr hx
theorem QQ_ {s d:Nat}{x:Operand}(ho:o.op= .convert s d x)(he:EnvTy E):OpV E o (Bw ds x (Cy E s d)) ds:=
 Dc (m:=convert s d) (by simp[ho,Op.operands]) (λa=>by simp only[execOp,ho];rfl) (AaV_ _ _ _) λh hr hf hx=>ZG_ he h hr hf hx
theorem OK_ {t:Nat}{x:Operand}(ho:o.op= .sliceToArrayPointer t x)(he:EnvTy E):OpV E o (Bw ds x (Gj E t)) ds:=
 Dc (m:=Instr.arrayAt t) (by simp[ho,Op.operands]) (λa=>by simp only[execOp,ho];rfl) (ST_ _ _) λh hr hf hx=>ZX_ he h hr hx
theorem Aby_ {t:Nat}{x:Operand}(ho:o.op= .makeInterface t x)(he:EnvTy E):OpV E o (Bw ds x (EH E t)) ds:=
 Dc (m:=Instr.makeInterface t) (by simp[ho,Op.operands]) (λa=>by simp only[execOp,ho];rfl) (Alo_ _ _) λh hr hf hx=>Aig_ he h hr hx
theorem Ada_ {t:Nat}{x y:Operand}(ho:o.op= .makeSlice t x y)(he:EnvTy E):OpV E o (Cz ds x y (Fb E t)) ds:=
 Gn (m:=Instr.makeSlice t) (by simp[ho,Op.operands]) (λa=>by simp only[execOp,ho];rfl) (AaO_ _ _) λh hr hf hx hy=>Zb_ he h hr hf hx hy
theorem Acx_ {t f:Nat}{x:Operand}(ho:o.op= .fieldAddr t x f)(he:EnvTy E):OpV E o (Bw ds x λa=>kFld E t a f) ds:=
 Dc (m:=λx=>Instr.fieldAt t x f) (by simp[ho,Op.operands]) (λa=>by simp only[execOp,ho];rfl) (λy=>UF_ _ _ y _) λh hr hf hx=>Ph_ he h hr hx
theorem Na_ {t f:Nat}{x:Operand}(ho:o.op= .field t x f)(he:EnvTy E):OpV E o (Bw ds x λa=>Du E t a f) ds:=
 Dc (m:=λx=>Instr.field t x f) (by simp[ho,Op.operands]) (λa=>by simp only[execOp,ho];rfl) (λy=>Ady_ _ _ y _) λh hr hf hx=>PS_ he h hr hx
theorem Zh_ {t:Nat}{x y:Operand}(ho:o.op= .indexAddr t x y)(he:EnvTy E):OpV E o (Cz ds x y (Bt E t)) ds:=
 Gn (m:=Instr.indexAt t) (by simp[ho,Op.operands]) (λa=>by simp only[execOp,ho];rfl) (Qk_ _ _) λh hr hf hx hy=>Abr_ he h hr hx hy
theorem AiU_ {t:Nat}{x y:Operand}(ho:o.op= .index t x y)(he:EnvTy E):OpV E o (Cz ds x y (kIdx E t)) ds:=
 Gn (m:=Instr.index t) (by simp[ho,Op.operands]) (λa=>by simp only[execOp,ho];rfl) (RC_ _ _) λh hr hf hx hy=>QF_ he h hr hx hy
theorem Abu_ {k:Nat}{x:Operand}(ho:o.op= .extract x k):OpV E o (Bw ds x (kExt k)) ds:=
 Dc (m:=λx=>Instr.extract x k) (by simp[ho,Op.operands]) (λa=>by simp only[execOp,ho];rfl) (AfH_ _) λh hr hf hx=>Ok_ h hr hx
theorem Tp_ {xt t:Nat}{c:Bool}{x:Operand}(ho:o.op= .typeAssert x xt t c)(he:EnvTy E):OpV E o (Bw ds x (EN E t c)) ds:=
 Dc (m:=λx=>Instr.typeAssert x xt t c) (by simp[ho,Op.operands]) (λa=>by simp only[execOp,ho];rfl) (AgK_ _ _ _) λh hr hf hx=>NY_ he h hr hx
end
section
variable {E:Env}{ds:List Nat}{o:Oper}
theorem Wo_ {x y z:Operand}(ho:o.op= .pick x y z):OpV E o (Df ds x y z Bp) ds:=by
 obtain⟨g,h1,h2⟩:=BC ds x
 obtain⟨g',h3,h4⟩:=BC ds y
 obtain⟨g2,h5,h6⟩:=BC ds z
 refine⟨_,by unfold Df;rw[h1,h3,h5],λ_ _ rho tm=>AJ _ λa=>AJ _ λb=>AJ _ λc=>Aau_ _ _ _, ?_⟩
 intro call round w0 w r U rho tm a s v s' hs hu hr h hf
 obtain⟨x',e1,h⟩:=BF h
 obtain⟨y',e2,h⟩:=BF h
 obtain⟨z',e3,h⟩:=BF h
 obtain⟨rfl,t,k1,k2⟩:=AhN_ h (h2 _ _ _ _ _ _ hs (λt q=>hu t (by simp[ho,Op.operands]at q ⊢;simp[q])) e1) (h4 _ _ _ _ _ _ hs (λt q=>hu t (by simp[ho,Op.operands]at q ⊢;simp[q])) e2) (h6 _ _ _ _ _ _ hs (λt q=>hu t (by simp[ho,Op.operands]at q ⊢;simp[q])) e3)
 refine⟨_,w,r, .inl ?_, .of_rel rfl hr,k2,rfl,rfl⟩
 simp only[execOp,ho,k1]
 cases t<;>simp[asBool]
theorem AkV_ {t:Nat}{x:Operand}{lo hi mx:Option Operand}(ho:o.op= .slice t x lo hi mx)(he:EnvTy E):OpV E o (JJ E ds t x lo hi mx) ds:=by
 cases mx with
 |some m=>
  exact⟨_,rfl,λ_ _ _ _=>AI,λcall round w0 w r U rho tm a s v s' hs hu hr h hf=>by cases h⟩
 |none=>
  obtain⟨g,h1,h2⟩:=BC ds x
  obtain⟨g',h3,h4⟩:=LB ds lo
  obtain⟨g2,h5,h6⟩:=LB ds hi
  refine⟨λ_ _ rho tm=>M.on (g rho tm) λa=>M.on (g' rho tm) λb=>M.on (g2 rho tm) λc=>B8 E t a b c,by unfold JJ Rl;simp only[h1,h3,h5],λ_ _ rho tm=>AJ _ λa=>AJ _ λb=>AJ _ λc=>RF_ _ _ _ _ _, ?_⟩
  intro call round w0 w r U rho tm a s v s' hs hu hr h hf
  obtain⟨x',e1,h⟩:=BF h
  obtain⟨y',e2,h⟩:=BF h
  obtain⟨z',e3,h⟩:=BF h
  exact(Mc_ he h hr (h2 _ _ _ _ _ _ hs (λt q=>hu t (by simp[ho,Op.operands]at q ⊢;simp[q])) e1) (h4 _ _ _ _ _ _ hs (λt q=>hu t (by simp[ho,Op.operands]at q ⊢;simp[q])) e2) (h6 _ _ _ _ _ _ hs (λt q=>hu t (by simp[ho,Op.operands]at q ⊢;simp[q])) e3)).val (by simp only[execOp,ho];rfl)
theorem NX_ {t:Nat}(ho:o.op= .makeMap t none):OpV E o (.mk λ_ _ _ _=>EM) ds:=by
 refine⟨_,rfl,λ_ _ _ _=>Ap_, ?_⟩
 intro call round w0 w r U rho tm a s v s' hs hu hr h hf
 exact(It_ h hr hf).val (by simp only[execOp,ho];rfl)
theorem Lq_ {t:Nat}{x:Operand}(ho:o.op= .makeMap t (some x))(he:EnvTy E):OpV E o (Bw ds x (FW E t)) ds:=
 Dc (m:=λx=>Instr.makeMap t (some x)) (by simp[ho,Op.operands]) (λa=>by simp only[execOp,ho];rfl) (Rx_ _ _) λh hr hf hx=>MO_ he h hr hf hx
theorem AhY_ {t:Nat}{c:Bool}{x y:Operand}(ho:o.op= .lookup t x y c)(he:EnvTy E):OpV E o (Cz ds x y (Jx E t c)) ds:=
 Gn (m:=λx y=>Instr.lookup t x y c) (by simp[ho,Op.operands]) (λa=>by simp only[execOp,ho];rfl) (Xv_ _ _ _) λh hr hf hx hy=>Qj_ he h hr hx hy
theorem ZT_ {t:Nat}{x y:Operand}(ho:o.op= .mapEntry t x y)(he:EnvTy E):OpV E o (Cz ds x y (JB E t)) ds:=
 Gn (m:=Instr.mapEntry t) (by simp[ho,Op.operands]) (λa=>by simp only[execOp,ho];rfl) (AiJ_ _ _) λh hr hf hx hy=>Pn_ he h hr hx hy
theorem T7 {x y z:Operand}{k:Value->Value->Value->M Value}{m:Value->Value->Value->Sem Unit}(hx:o.op.operands.toList=[x,y,z])(ho: ∀a:Act,execOp a.eval o=(do m (a.eval x) (a.eval y) (a.eval z);pure .skip))(np: ∀x y z,NoPan (k x y z))
  (hk: ∀{w0 w:World} {r:Inj} {x x' y y' z z':Value} {s v s'},k x y z s= .some v s'->Rel w0 r s.mem w->VR r x x'->VR r y y'->VR r z z'->v=undef/\ ∃w',(m x' y' z').run E.P w= .ok () w'/\Goes w0 r s s' r w'/\s'.lim=s.lim/\s'.cx=s.cx):OpV E o (Df ds x y z k) ds:=by
 obtain⟨g,h1,h2⟩:=BC ds x
 obtain⟨g',h3,h4⟩:=BC ds y
 obtain⟨g2,h5,h6⟩:=BC ds z
 refine⟨_,by unfold Df;rw[h1,h3,h5],λ_ _ rho tm=>AJ _ λa=>AJ _ λb=>AJ _ λc=>np _ _ _, ?_⟩
 intro call round w0 w r U rho tm a s v s' hs hu hr h hf
 obtain⟨x',e1,h⟩:=BF h
 obtain⟨y',e2,h⟩:=BF h
 obtain⟨z',e3,h⟩:=BF h
 obtain⟨rfl,w',k1,k2,k3,k4⟩:=hk h hr (h2 _ _ _ _ _ _ hs (λt q=>hu t (by rw[hx];simp at q ⊢;simp[q])) e1) (h4 _ _ _ _ _ _ hs (λt q=>hu t (by rw[hx];simp at q ⊢;simp[q])) e2) (h6 _ _ _ _ _ _ hs (λt q=>hu t (by rw[hx];simp at q ⊢;simp[q])) e3)
 refine⟨undef,w',r, .inr ⟨?_,rfl⟩,k2, .undef,k3,k4⟩
 rw[ho]
 simp[k1]
theorem AfY_ {t:Nat}{x y z:Operand}(ho:o.op= .mapUpdate t x y z)(he:EnvTy E):OpV E o (Df ds x y z (Gh E t)) ds:=
 T7 (m:=Instr.mapUpdate t) (by simp[ho,Op.operands]) (λa=>by simp only[execOp,ho]) (Yz _ _) λh hr hx hy hz=>Co_ he h hr hx hy hz
theorem On_ {t:Nat}{x y z:Operand}(ho:o.op= .insert t x y z)(he:EnvTy E):OpV E o (Df ds x y z (Gh E t)) ds:=
 T7 (m:=Instr.mapUpdate t) (by simp[ho,Op.operands]) (λa=>by simp only[execOp,ho]) (Yz _ _) λh hr hx hy hz=>Co_ he h hr hx hy hz
theorem Lv_ {t:Nat}{x y z:Operand}(ho:o.op= .entryStore t x y z):OpV E o (Df ds x y z EW) ds:=
 T7 (m:=Instr.entryStore t) (by simp[ho,Op.operands]) (λa=>by simp only[execOp,ho]) AaR_ λh hr hx hy hz=>VI_ h hr hx hy hz
theorem PB_ {t:Nat}{x:Operand}(ho:o.op= .range t x)(he:EnvTy E):OpV E o (Bw ds x (Gk E t)) ds:=
 Dc (m:=Instr.range t) (by simp[ho,Op.operands]) (λa=>by simp only[execOp,ho];rfl) (Xl_ _ _) λh hr hf hx=>AiX_ he h hr hf hx
theorem Abt_ {x:Operand}(ho:o.op= .next x true):OpV E o (Bw ds x EX) ds:=
 Dc (m:=λx=>Instr.next x true o.type) (by simp[ho,Op.operands]) (λa=>by simp only[execOp,ho];rfl) AeZ_ λh hr hf hx=>Ny_ h hr hx
theorem Im_ {α β:Type}(f:α->β)(a:Array α):a.map f=(a.toList.map f).toArray:=by rw[<-List.map_toArray]
theorem VRs.func {r:Inj}{f:Nat}{a a' c c':List Value}(h:VRs r a a')(k:VRs r c c'):VR r (.func (.func f) a.toArray c.toArray) (.func (.func f) a'.toArray c'.toArray):=
 .func rfl (by simpa using h.1) (λi v v' e e'=>h.2 i v v' (by simpa using e) (by simpa using e')) (by simpa using k.1) (λi v v' e e'=>k.2 i v v' (by simpa using e) (by simpa using e'))
theorem Kw_ {f:Nat}{first cap:Array Operand}(ho:o.op= .makeFunc (.func f) first cap):OpV E o (JH ds first.toList cap.toList λx c=>M.pure (.func (.func f) x.toArray c.toArray)) ds:=by
 obtain⟨g,h1,h2⟩:=Eb ds first.toList
 obtain⟨g',h3,h4⟩:=Eb ds cap.toList
 refine⟨_,by unfold JH;rw[h1,h3],λ_ _ rho tm=>DQ (g:=g rho tm) (f:=λ(a:List Value) s=>Option.rec (motive:=λ_=>R Value) .none (λ(b:List Value)=>M.pure (Value.func (.func f) a.toArray b.toArray) s) (g' rho tm)) λa=>DQ (f:=λ(b:List Value)=>M.pure (Value.func (.func f) a.toArray b.toArray)) λb=>AH _, ?_⟩
 intro call round w0 w r U rho tm a s v s' hs hu hr h hf
 obtain⟨x',e1,h⟩:=DF (f:=λ(a:List Value) s=>Option.rec (motive:=λ_=>R Value) .none (λ(b:List Value)=>M.pure (Value.func (.func f) a.toArray b.toArray) s) (g' rho tm)) h
 obtain⟨y',e2,h⟩:=DF (f:=λ(b:List Value)=>M.pure (Value.func (.func f) x'.toArray b.toArray)) h
 obtain⟨rfl,rfl⟩:=AG h
 refine⟨_,w,r, .inl ?_, .of_rel rfl hr,(h2 _ _ _ _ _ _ hs (λt q=>hu t (by simp[ho,Op.operands]at q ⊢;simp[q])) e1).func (h4 _ _ _ _ _ _ hs (λt q=>hu t (by simp[ho,Op.operands]at q ⊢;simp[q])) e2),rfl,rfl⟩
 simp[execOp,ho,Instr.makeFunc]
 exact⟨Im_ _ _,Im_ _ _⟩
theorem Ahc_ {b:Builtin}{c:Call}(ho:o.op= .call c)(hb:c.callee= .builtin b)(hn:b≠ .recover)(he:EnvTy E):OpV E o (Hm ds c.args.toList (A6 E b c.argTypes.toList)) ds:=by
 obtain⟨g,h1,h2⟩:=Eb ds c.args.toList
 refine⟨_,by unfold Hm;rw[h1],λ_ _ rho tm=>DQ (g:=g rho tm) (AgI_ _ _ _), ?_⟩
 intro call round w0 w r U rho tm a s v s' hs hu hr h hf
 obtain⟨l,e1,h⟩:=DF h
 have hl:VRs r l (c.args.toList.map a.eval):=h2 _ _ _ _ _ _ hs (λt q=>hu t (by simp[ho,Op.operands,Call.operands]at q ⊢;simp[q])) e1
 have key: ∀{m:Sem Value},Yields E w0 r s s' v w m->(∀(cs:Array Bool) w,(builtin b c.argTypes o.type cs (c.args.map a.eval)).run E.P w=(CW m).run E.P w)->
   ∃v' w' r',((execOp a.eval o).run E.P w= .ok (.value v') w'\/((execOp a.eval o).run E.P w= .ok .skip w'/\v'=undef))/\Goes w0 r s s' r' w'/\VR r' v v'/\s'.lim=s.lim/\s'.cx=s.cx:=by
  intro m hy hm
  obtain⟨v',w',r',k1,k2,k3,k4,k5⟩:=hy
  refine⟨v',w',r', .inl ?_,k2,k3,k4,k5⟩
  simp only[execOp,ho,resolve,hb,invoke,Sem.run_bind,Sem.run_pure,Result.andThen_ok,hm,CW,k1]
 generalize hts:c.argTypes.toList=ts at h
 have hmap:c.args.map a.eval=(c.args.toList.map a.eval).toArray:=by rw[<-List.map_toArray]
 have ht0: ∀{t:Nat} {l:List Nat},c.argTypes.toList=t::l->c.argTypes[0]?=some t:=by
  intro t l e;rw[<-Array.getElem?_toList,e];rfl
 have ht1: ∀{t t2:Nat} {l:List Nat},c.argTypes.toList=t::t2::l->c.argTypes[1]?=some t2:=by
  intro t t2 l e;rw[<-Array.getElem?_toList,e];rfl
 unfold A6 at h
 split at h
 ·rename_i t ts' x
  obtain⟨x',l',q1,q2,q3⟩:=hl.inv
  have:=q3.inv_nil
  subst this
  refine key (Aia_ (ty:=o.type) (ht0 hts) he h hr q2) λcs w=> ?_
  rw[hmap,q1];simp[builtin,CW]
 ·rename_i t ts' x
  obtain⟨x',l',q1,q2,q3⟩:=hl.inv
  have:=q3.inv_nil
  subst this
  refine key (Abi_ (ty:=o.type) (ht0 hts) he h hr q2) λcs w=> ?_
  rw[hmap,q1];simp[builtin,CW]
 ·obtain⟨y',l1,q1,q2,q3⟩:=hl.inv
  obtain⟨x',l',q4,q5,q6⟩:=q3.inv
  have:=q6.inv_nil
  subst this
  subst q4
  refine key (YC_ (ty:=o.type) (ht0 hts) (ht1 hts) he h hr hf q2 q5) λcs w=> ?_
  rw[hmap,q1];simp[builtin,CW]
 ·obtain⟨y',l1,q1,q2,q3⟩:=hl.inv
  obtain⟨x',l',q4,q5,q6⟩:=q3.inv
  have:=q6.inv_nil
  subst this
  subst q4
  refine key (Kq_ (ty:=o.type) (ht0 hts) he h hr q2 q5) λcs w=> ?_
  rw[hmap,q1];simp[builtin,CW]
 ·obtain⟨y',l1,q1,q2,q3⟩:=hl.inv
  obtain⟨x',l',q4,q5,q6⟩:=q3.inv
  have:=q6.inv_nil
  subst this
  subst q4
  refine key (YG_ (ty:=o.type) (ht0 hts) he h hr q2 q5) λcs w=> ?_
  rw[hmap,q1];simp[builtin,CW]
 ·obtain⟨x',l',q1,q2,q3⟩:=hl.inv
  have:=q3.inv_nil
  subst this
  refine key (RG_ (ty:=o.type) (ht0 hts) he h hr q2) λcs w=> ?_
  rw[hmap,q1];simp[builtin,CW]
 ·refine key (Adt_ (ts:=c.argTypes) (ty:=o.type) h hr hl) λcs w=> ?_
  rw[hmap];simp[builtin,CW]
 ·refine key (Qo_ (ts:=c.argTypes) (ty:=o.type) h hr hl) λcs w=> ?_
  rw[hmap];simp[builtin,CW]
 ·cases h
end
abbrev Out (α:Type):Type:=Sum α (List PanicEntry)
def rOf {α:Type}(o:Out α)(s:St):R α:=
 match o with
 | .inl a=> .some a s
 | .inr c=> .pan c s
def Bnd (s:St):Prop:=s.lim<=s.next
structure LocG {α:Type}(m:M α)(s:St)(o:Out α)(s':St)(Rd Wr:Nat->Prop)(dr dw:List Nat):Prop where
 rd:s'.rd=dr++s.rd
 wr:s'.wr=dw++s.wr
 nxt:s.next<=s'.next
 lim:s'.lim=s.lim
 bnd:Bnd s'
 rlt: ∀l,Rd l->l<s'.next
 wlt: ∀l,Wr l->l<s'.next
 old: ∀l,¬Wr l->T.get s'.mem l=T.get s.mem l
 any: ∀t:St,t.next=s.next->t.lim=s.lim->t.cx=s.cx->(∀l,Rd l\/Wr l->T.get t.mem l=T.get s.mem l)->
  ∃t',m t=rOf o t'/\t'.next=s'.next/\t'.lim=s'.lim/\t'.cx=s'.cx/\t'.rd=dr++t.rd/\t'.wr=dw++t.wr/\
   (∀l,Wr l->T.get t'.mem l=T.get s'.mem l)/\(∀l,¬Wr l->T.get t'.mem l=T.get t.mem l)
def Dl {α:Type}(m:M α)(s:St)(o:Out α)(s':St):Prop:=
 ∃Rd Wr dr dw,LocG m s o s' Rd Wr dr dw/\(∀l,Rd l->l<s.lim->l∈dr)/\(∀l,Wr l->l<s.lim->l∈dw)
structure Loc {α:Type}(m:M α):Prop where
 at': ∀s o s',m s=rOf o s'->Bnd s->Dl m s o s'
theorem LocG.seq {α β:Type}{m:M α}{n C:M β}{s s1 s':St}{o1:Out α}{o:Out β}{R1 W1 R2 W2:Nat->Prop}{r1 w1 r2 w2:List Nat}
  (h:LocG m s o1 s1 R1 W1 r1 w1) (k:LocG n s1 o s' R2 W2 r2 w2) (hC: ∀t t1,m t=rOf o1 t1->C t=n t1):LocG C s o s' (λl=>R1 l\/R2 l) (λl=>W1 l\/W2 l) (r2++r1) (w2++w1) where
 rd:=by rw[k.rd,h.rd,List.append_assoc]
 wr:=by rw[k.wr,h.wr,List.append_assoc]
 nxt:=Nat.le_trans h.nxt k.nxt
 lim:=k.lim.trans h.lim
 bnd:=k.bnd
 rlt:=λl e=>e.elim (λe=>Nat.lt_of_lt_of_le (h.rlt l e) k.nxt) (k.rlt l)
 wlt:=λl e=>e.elim (λe=>Nat.lt_of_lt_of_le (h.wlt l e) k.nxt) (k.wlt l)
 old:=λl e=>(k.old l λx=>e (.inr x)).trans (h.old l λx=>e (.inl x))
 any:=λt e1 e2 e3 e4=>by
  obtain⟨t1,q1,q2,q3,q4,q5,q6,q7,q8⟩:=h.any t e1 e2 e3 λl e=>e4 l (e.elim (λe=> .inl (.inl e)) (λe=> .inr (.inl e)))
  obtain⟨t2,p1,p2,p3,p4,p5,p6,p7,p8⟩:=k.any t1 q2 q3 q4 (λl e=>by
   by_cases hw:W1 l
   ·exact q7 l hw
   ·rw[q8 l hw,h.old l hw]
    exact e4 l (e.elim (λe=> .inl (.inr e)) (λe=> .inr (.inr e))))
  refine⟨t2,(hC t t1 q1).trans p1,p2,p3,p4,by rw[p5,q5,List.append_assoc],by rw[p6,q6,List.append_assoc],λl e=> ?_,λl e=>(p8 l λx=>e (.inr x)).trans (q8 l λx=>e (.inl x))⟩
  by_cases hw:W2 l
  ·exact p7 l hw
  ·rw[p8 l hw,k.old l hw]
   exact e.elim (q7 l) (λx=>absurd x hw)
theorem Dl.bnd {α:Type}{m:M α}{s s':St}{o:Out α}(h:Dl m s o s'):Bnd s':=let ⟨_,_,_,_,e,_⟩:=h;e.bnd
theorem Dl.lim {α:Type}{m:M α}{s s':St}{o:Out α}(h:Dl m s o s'):s'.lim=s.lim:=let ⟨_,_,_,_,e,_⟩:=h;e.lim
theorem Dl.next {α:Type}{m:M α}{s s':St}{o:Out α}(h:Dl m s o s'):s.next<=s'.next:=let ⟨_,_,_,_,e,_⟩:=h;e.nxt
theorem Dl.seq {α β:Type}{m:M α}{n C:M β}{s s1 s':St}{o1:Out α}{o:Out β}(h:Dl m s o1 s1)(k:Dl n s1 o s')(hC: ∀t t1,m t=rOf o1 t1->C t=n t1):Dl C s o s':=by
 obtain⟨R1,W1,r1,w1,h1,h2,h3⟩:=h
 obtain⟨R2,W2,r2,w2,k1,k2,k3⟩:=k
 refine⟨_,_,_,_,h1.seq k1 hC,λl e x=> ?_,λl e x=> ?_⟩
 ·exact e.elim (λe=>List.mem_append_right _ (h2 l e x)) (λe=>List.mem_append_left _ (k2 l e (by rw[h1.lim];exact x)))
 ·exact e.elim (λe=>List.mem_append_right _ (h3 l e x)) (λe=>List.mem_append_left _ (k3 l e (by rw[h1.lim];exact x)))
theorem Bv {α:Type}{o:Out α}{a:α}{s s':St}(h:R.some a s=rOf o s'):o= .inl a/\s'=s:=by cases o<;>cases h;exact⟨rfl,rfl⟩
theorem Jf {α:Type}{o:Out α}{c:List PanicEntry}{s s':St}(h:R.pan c s=rOf o s'):o= .inr c/\s'=s:=by cases o<;>cases h;exact⟨rfl,rfl⟩
theorem A7 {α:Type}{o:Out α}{s':St}(h:R.none=rOf o s'):False:=by cases o<;>cases h
theorem Dl.quiet {α:Type}{m:M α}{s:St}{o:Out α}(hb:Bnd s)(h: ∀t:St,t.cx=s.cx->m t=rOf o t):Dl m s o s:=
 ⟨λ_=>False,λ_=>False,[],[],⟨rfl,rfl,Nat.le_refl _,rfl,hb,λ_ e=>e.elim,λ_ e=>e.elim,λ_ _=>rfl,
  λt e1 e2 e3 _=>⟨t,h t e3,e1,e2,e3,rfl,rfl,λ_ e=>e.elim,λ_ _=>rfl⟩⟩,λ_ e=>e.elim,λ_ e=>e.elim⟩
theorem AA {α:Type}(a:α):Loc (M.pure a):=⟨λs o s' h hb=>by
 obtain⟨rfl,rfl⟩:=Bv h
 exact .quiet hb λt _=>rfl⟩
theorem Az {α:Type}:Loc (aB:M α):=⟨λs o s' h hb=>(A7 h).elim⟩
theorem AO {α:Type}(x:Option α):Loc (M.ofOpt x):=by
 cases x with
 |none=>exact Az
 |some a=>exact AA a
theorem Kx {α β:Type}{m:M α}{f:α->M β}{g:List PanicEntry->M β}(h:Loc m)(kf: ∀a,Loc (f a))(kg: ∀c,Loc (g c)):
  Loc (λs=>R.rec (motive:=λ_=>R β) .none (λa s=>f a s) (λc s=>g c s) (m s)):=⟨λs o s' e hb=>by
 cases e1:m s with
 |none=>rw[e1]at e;exact(A7 e).elim
 |some a s1=>
  rw[e1]at e
  have h1:=h.at' s (.inl a) s1 e1 hb
  exact h1.seq ((kf a).at' s1 o s' e h1.bnd) λt t1 q=>by rw[q];rfl
 |pan c s1=>
  rw[e1]at e
  have h1:=h.at' s (.inr c) s1 e1 hb
  exact h1.seq ((kg c).at' s1 o s' e h1.bnd) λt t1 q=>by rw[q];rfl⟩
theorem Vb {α:Type}(c:List PanicEntry):Loc (λs=>R.pan c s:M α):=⟨λs o s' h hb=>by
 obtain⟨rfl,rfl⟩:=Jf h
 exact .quiet hb λt _=>rfl⟩
theorem EU_ {α:Type}:Loc (λ_=>R.none:M α):=⟨λs o s' h hb=>(A7 h).elim⟩
theorem Ax {α β:Type}{m:M α}{f:α->M β}(h:Loc m)(k: ∀a,Loc (f a)):Loc (M.bind m f):=Kx h k λc=>Vb c
theorem FD {α:Type}{m:M α}(h:Loc m):Loc (noP m):=Kx h (λa=>AA a) λ_=>EU_
theorem AK {α:Type}(b:Bool){m:M α}(h:Loc m):Loc (M.chk b m):=by
 cases b with
 |false=>exact Az
 |true=>exact h
theorem AQ {α:Type}(b:Bool){m n:M α}(h:Loc m)(k:Loc n):Loc (aC b m n):=by cases b<;>assumption
theorem AE {α β:Type}(x:Option α){f:α->M β}(k: ∀a,Loc (f a)):Loc (M.on x f):=by
 cases x with
 |none=>exact Az
 |some a=>exact k a
theorem AN {α:Type}(n:Nat){f:Nat->M α}(k: ∀a,Loc (f a)):Loc (fN n f):=by rw[AY];exact k _
theorem AZ {α:Type}(n:Int){f:Int->M α}(k: ∀a,Loc (f a)):Loc (fI n f):=by rw[Ew];exact k _
theorem AP {α:Type}(n:Addr){f:Addr->M α}(k: ∀a,Loc (f a)):Loc (fA n f):=by rw[Db];exact k _
theorem AV {α:Type}(v:Value){f:IntKind->Int->M α}{d:M α}(h: ∀k n,Loc (f k n))(k:Loc d):Loc (CI v f d):=by
 cases v<;>first|exact h _ _|exact k
theorem AU {α:Type}(b:Bool){m n:M α}(h:Loc m)(k:Loc n):Loc (Bool.rec (motive:=λ_=>M α) m n b):=by cases b<;>assumption
theorem AM {α β:Type}(x:Option α){m:M β}{f:α->M β}(h:Loc m)(k: ∀a,Loc (f a)):Loc (Option.rec (motive:=λ_=>M β) m (λa=>f a) x):=by
 cases x with
 |none=>exact h
 |some a=>exact k a
theorem LP (loc lim:Nat)(l:List Nat):notes loc lim l=if loc<lim then loc::l else l:=by
 unfold notes
 cases h:Nat.blt loc lim with
 |true=>rw[if_pos (BI h)]
 |false=>rw[if_neg];intro h2;rw[show Nat.blt loc lim=true from Nat.ble_eq_true_of_le h2]at h;cases h
theorem Fm (loc lim:Nat)(l:List Nat):notes loc lim l=notes loc lim []++l:=by
 rw[LP,LP]
 split<;>rfl
theorem Sz {loc lim:Nat}(h:loc<lim):loc∈notes loc lim []:=by rw[LP,if_pos h];exact List.mem_cons_self
theorem W0 (loc:Nat)(s:St):rdC loc s=if loc<s.next then match T.get s.mem loc with|none=> .none|some c=> .some c ⟨s.mem,s.next,s.lim,notes loc s.lim s.rd,s.wr,s.cx⟩else .none:=by
 obtain⟨mem,next,lim,rd,wr,cx⟩:=s
 unfold rdC
 simp only
 cases hb:Nat.blt loc next with
 |false=>rw[if_neg];intro h2;rw[show Nat.blt loc next=true from Nat.ble_eq_true_of_le h2]at hb;cases hb
 |true=>
  rw[if_pos (BI hb)]
  cases T.get mem loc<;>rfl
theorem Bp_ (loc:Nat)(c:Cell)(s:St):wrC loc c s=if loc<s.next then .some () ⟨T.set s.mem loc c,s.next,s.lim,s.rd,notes loc s.lim s.wr,s.cx⟩else .none:=by
 obtain⟨mem,next,lim,rd,wr,cx⟩:=s
 unfold wrC
 obtain⟨v,l,r,e⟩:=aP mem loc c
 simp only[e]
 cases hb:Nat.blt loc next with
 |false=>rw[if_neg];intro h2;rw[show Nat.blt loc next=true from Nat.ble_eq_true_of_le h2]at hb;cases hb
 |true=>rw[if_pos (BI hb)]
theorem DA_ (loc:Nat)(s:St):delC loc s=if loc<s.next then .some () ⟨T.del s.mem loc,s.next,s.lim,s.rd,notes loc s.lim s.wr,s.cx⟩else .none:=by
 obtain⟨mem,next,lim,rd,wr,cx⟩:=s
 unfold delC
 simp only
 cases hb:Nat.blt loc next with
 |false=>rw[if_neg];intro h2;rw[show Nat.blt loc next=true from Nat.ble_eq_true_of_le h2]at hb;cases hb
 |true=>rw[if_pos (BI hb)]
theorem DJ_ (vs:List Value)(s:St):newL vs s= .some s.next ⟨layL s.next vs s.next s.mem,s.next+vs.length+1,s.lim,s.rd,s.wr,s.cx⟩:=by
 obtain⟨mem,next,lim,rd,wr,cx⟩:=s
 have h0:newL vs ⟨mem,next,lim,rd,wr,cx⟩=fN next λb=>fN (Nat.succ (Nat.add b vs.length)) λn=>R.some b (St.mk (layL b vs b mem) n lim rd wr cx):=rfl
 rw[h0,AY,AY]
 rfl
theorem JN_ (o:AObj)(s:St):newO o s= .some s.next ⟨T.set s.mem s.next (.O o),s.next+1,s.lim,s.rd,s.wr,s.cx⟩:=by
 obtain⟨mem,next,lim,rd,wr,cx⟩:=s
 have h0:newO o ⟨mem,next,lim,rd,wr,cx⟩=fN next λb=>fN (Nat.succ b) λn=>R.some b (St.mk (T.set mem b (.O o)) n lim rd wr cx):=rfl
 rw[h0,AY,AY]
theorem Dy (loc:Nat):Loc (rdC loc):=⟨λs o s' h hb=>by
 rw[W0]at h
 split at h
 case isFalse=>exact(A7 h).elim
 case isTrue hl=>
  cases e:T.get s.mem loc with
  |none=>rw[e]at h;exact(A7 h).elim
  |some c=>
   rw[e]at h
   obtain⟨rfl,rfl⟩:=Bv h
   refine⟨λl=>l=loc,λ_=>False,notes loc s.lim [],[],⟨Fm _ _ _,rfl,Nat.le_refl _,rfl,hb,λl e1=>by rw[e1];exact hl,λ_ e=>e.elim,λ_ _=>rfl,λt e1 e2 e3 e4=> ?_⟩,λl e1 e2=> ?_,λ_ e=>e.elim⟩
   ·refine⟨⟨t.mem,t.next,t.lim,notes loc t.lim t.rd,t.wr,t.cx⟩, ?_,e1,e2,e3, ?_,rfl,λ_ e=>e.elim,λ_ _=>rfl⟩
    ·rw[W0,if_pos (by rw[e1];exact hl),e4 loc (.inl rfl),e];rfl
    ·rw[<-e2];exact Fm _ _ _
   ·rw[e1];exact Sz (by rw[<-e1];exact e2)⟩
theorem CQ (loc:Nat)(c:Cell):Loc (wrC loc c):=⟨λs o s' h hb=>by
 rw[Bp_]at h
 split at h
 case isFalse=>exact(A7 h).elim
 case isTrue hl=>
  obtain⟨rfl,rfl⟩:=Bv h
  refine⟨λ_=>False,λl=>l=loc,[],notes loc s.lim [],⟨rfl,Fm _ _ _,Nat.le_refl _,rfl,hb,λ_ e=>e.elim,λl e1=>by rw[e1];exact hl,λl e=> ?_,λt e1 e2 e3 e4=> ?_⟩,λ_ e=>e.elim,λl e1 e2=> ?_⟩
  ·simp only[aA,if_neg e]
  ·refine⟨⟨T.set t.mem loc c,t.next,t.lim,t.rd,notes loc t.lim t.wr,t.cx⟩, ?_,e1,e2,e3,rfl, ?_,λl e=> ?_,λl e=> ?_⟩
   ·rw[Bp_,if_pos (by rw[e1];exact hl)];rfl
   ·rw[<-e2];exact Fm _ _ _
   ·simp only[aA,if_pos e]
   ·simp only[aA,if_neg e]
  ·rw[e1];exact Sz (by rw[<-e1];exact e2)⟩
theorem WN_ (loc:Nat):Loc (delC loc):=⟨λs o s' h hb=>by
 rw[DA_]at h
 split at h
 case isFalse=>exact(A7 h).elim
 case isTrue hl=>
  obtain⟨rfl,rfl⟩:=Bv h
  refine⟨λ_=>False,λl=>l=loc,[],notes loc s.lim [],⟨rfl,Fm _ _ _,Nat.le_refl _,rfl,hb,λ_ e=>e.elim,λl e1=>by rw[e1];exact hl,λl e=> ?_,λt e1 e2 e3 e4=> ?_⟩,λ_ e=>e.elim,λl e1 e2=> ?_⟩
  ·simp only[aO,if_neg e]
  ·refine⟨⟨T.del t.mem loc,t.next,t.lim,t.rd,notes loc t.lim t.wr,t.cx⟩, ?_,e1,e2,e3,rfl, ?_,λl e=> ?_,λl e=> ?_⟩
   ·rw[DA_,if_pos (by rw[e1];exact hl)];rfl
   ·rw[<-e2];exact Fm _ _ _
   ·simp only[aO,if_pos e]
   ·simp only[aO,if_neg e]
  ·rw[e1];exact Sz (by rw[<-e1];exact e2)⟩
theorem Mk (b:Nat): ∀(vs:List Value) (loc:Nat) (t:T Cell) (k:Nat),T.get (layL b vs loc t) k=if loc<=k/\k<loc+vs.length then(vs[k-loc]?).map (.C b)else T.get t k
 |[],loc,t,k=>by rw[if_neg (λe=>by have:=e.2;simp at this;omega)];rfl
 |v::vs,loc,t,k=>by
  have h0:layL b (v::vs) loc t=fN loc λloc=>layL b vs (Nat.succ loc) (T.set t loc (.C b v)):=rfl
  rw[h0,AY,Mk b vs]
  by_cases h1:loc=k
  ·subst h1
   rw[if_neg (by omega),if_pos (by simp),aA,if_pos rfl]
   simp
  ·by_cases h2:loc<=k/\k<loc+(v::vs).length
   ·have h3:k-loc=(k-Nat.succ loc)+1:=by omega
    rw[if_pos h2,if_pos (by simp at h2 ⊢;omega),h3,List.getElem?_cons_succ]
   ·rw[if_neg h2,if_neg (by simp at h2 ⊢;omega),aA,if_neg (λe=>h1 e.symm)]
theorem Gq (vs:List Value):Loc (newL vs):=⟨λs o s' h hb=>by
 rw[DJ_]at h
 obtain⟨rfl,rfl⟩:=Bv h
 refine⟨λ_=>False,λl=>s.next<=l/\l<s.next+vs.length,[],[],⟨rfl,rfl,by show s.next<=s.next+vs.length+1;omega,rfl, ?_,λ_ e=>e.elim,λl e=> ?_,λl e=> ?_,λt e1 e2 e3 e4=> ?_⟩,λ_ e=>e.elim,λl e1 e2=> ?_⟩
 ·show s.lim<=s.next+vs.length+1
  unfold Bnd at hb;omega
 ·show l<s.next+vs.length+1
  omega
 ·simp only[Mk,if_neg e]
 ·refine⟨⟨layL t.next vs t.next t.mem,t.next+vs.length+1,t.lim,t.rd,t.wr,t.cx⟩, ?_,by rw[e1],e2,e3,rfl,rfl,λl e=> ?_,λl e=> ?_⟩
  ·rw[DJ_,e1];rfl
  ·simp only[Mk,e1,if_pos e]
  ·simp only[Mk,e1,if_neg e]
 ·unfold Bnd at hb;omega⟩
theorem GI (x:AObj):Loc (newO x):=⟨λs o s' h hb=>by
 rw[JN_]at h
 obtain⟨rfl,rfl⟩:=Bv h
 refine⟨λ_=>False,λl=>l=s.next,[],[],⟨rfl,rfl,by show s.next<=s.next+1;omega,rfl, ?_,λ_ e=>e.elim,λl e=> ?_,λl e=> ?_,λt e1 e2 e3 e4=> ?_⟩,λ_ e=>e.elim,λl e1 e2=> ?_⟩
 ·show s.lim<=s.next+1
  unfold Bnd at hb;omega
 ·show l<s.next+1
  omega
 ·simp only[aA,if_neg e]
 ·refine⟨⟨T.set t.mem t.next (.O x),t.next+1,t.lim,t.rd,t.wr,t.cx⟩, ?_,by rw[e1],e2,e3,rfl,rfl,λl e=> ?_,λl e=> ?_⟩
  ·rw[JN_,e1];rfl
  ·simp only[aA,e1,if_pos e]
  ·simp only[aA,e1,if_neg e]
 ·unfold Bnd at hb;omega⟩
theorem JW:Loc getCx:=⟨λs o s' h hb=>by
 obtain⟨rfl,rfl⟩:=Bv (show R.some s.cx s=rOf o s' from h)
 exact .quiet hb λt e=>by rw[<-e];rfl⟩
theorem Pb (x:Ctx):Loc (putCx x):=⟨λs o s' h hb=>by
 obtain⟨rfl,rfl⟩:=Bv (show R.some () (St.mk s.mem s.next s.lim s.rd s.wr x)=rOf o s' from h)
 exact⟨λ_=>False,λ_=>False,[],[],⟨rfl,rfl,Nat.le_refl _,rfl,hb,λ_ e=>e.elim,λ_ e=>e.elim,λ_ _=>rfl,
  λt e1 e2 e3 _=>⟨St.mk t.mem t.next t.lim t.rd t.wr x,rfl,e1,e2,rfl,rfl,rfl,λ_ e=>e.elim,λ_ _=>rfl⟩⟩,λ_ e=>e.elim,λ_ e=>e.elim⟩⟩
theorem V5 (a:Addr):Loc (rdV a):=by
 obtain⟨b,o,s⟩:=a
 cases s with
 |some x=>exact Az
 |none=>exact Ax (Dy _) λc=>AO _
theorem AeI_ (a:Addr)(v:Value):Loc (wrV a v):=by
 obtain⟨b,o,s⟩:=a
 cases s with
 |some x=>exact Az
 |none=>exact Ax (Dy _) λc=>AK _ (CQ _ _)
theorem Fk: ∀(n:Nat) (a:Addr),Loc (rdL n a)
 |0,_=>AA _
 |n+1,a=>by
  have h0:rdL (n+1) a=fA a λa=>M.bind (rdV a) λv=>M.bind (rdL n ⟨a.block,Nat.succ a.off,a.spot⟩) λl=>M.pure (v::l):=rfl
  rw[h0]
  exact AP _ λa=>Ax (V5 a) λv=>Ax (Fk n _) λl=>AA _
theorem Kg: ∀(vs:List Value) (a:Addr),Loc (wrL vs a)
 |[],_=>AA _
 |v::vs,a=>by
  have h0:wrL (v::vs) a=fA a λa=>M.bind (wrV a v) λ_=>wrL vs ⟨a.block,Nat.succ a.off,a.spot⟩:=rfl
  rw[h0]
  exact AP _ λa=>Ax (AeI_ a v) λv=>Kg vs _
theorem JO_: ∀(n l:Nat),Loc (Dd n l)
 |0,_=>AA _
 |n+1,l=>by
  have h0:Dd (n+1) l=M.bind (delC l) λ_=>Dd n (l+1):=rfl
  rw[h0]
  exact Ax (WN_ l) λ_=>JO_ n _
theorem Bx (x0:_)(x1:_):Loc (ti x0 x1):=by
 unfold ti
 repeat' (first|exact AA _|exact Az|exact AO _|apply Ax|apply AK|apply AQ|apply AE|apply AN|apply AZ|apply AP|apply AV|apply AU|apply AM|intro _|split)
theorem Ja (x0:_):Loc (pV x0):=by
 unfold pV
 repeat' (first|exact AA _|exact Az|exact AO _|apply Ax|apply AK|apply AQ|apply AE|apply AN|apply AZ|apply AP|apply AV|apply AU|apply AM|intro _|split)
theorem Acf_ (x0:_)(x1:_)(x2:_)(x3:_)(x4:_):Loc (EJ x0 x1 x2 x3 x4):=by
 unfold EJ
 repeat' (first|exact AA _|exact Az|exact AO _|exact Bx _ _|apply Ax|apply AK|apply AQ|apply AE|apply AN|apply AZ|apply AP|apply AV|apply AU|apply AM|intro _|split)
theorem WP_ (x0:_)(x1:_):Loc (Hb x0 x1):=by
 unfold Hb
 repeat' (first|exact AA _|exact Az|exact AO _|apply Ax|apply AK|apply AQ|apply AE|apply AN|apply AZ|apply AP|apply AV|apply AU|apply AM|intro _|split)
theorem AbJ_ (x0:_)(x1:_)(x2:_):Loc (HP x0 x1 x2):=by
 unfold HP
 repeat' (first|exact AA _|exact Az|exact AO _|exact WP_ _ _|apply Ax|apply AK|apply AQ|apply AE|apply AN|apply AZ|apply AP|apply AV|apply AU|apply AM|intro _|split)
theorem WY_ (x0:_)(x1:_)(x2:_)(x3:_)(x4:_)(x5:_)(x6:_):Loc (Bi x0 x1 x2 x3 x4 x5 x6):=by
 unfold Bi
 repeat' (first|exact AA _|exact Az|exact AO _|exact AbJ_ _ _ _|exact Acf_ _ _ _ _ _|exact Ja _|apply Ax|apply AK|apply AQ|apply AE|apply AN|apply AZ|apply AP|apply AV|apply AU|apply AM|intro _|split)
theorem LG_ (x0:_):Loc (lenOf x0):=by
 unfold lenOf
 repeat' (first|exact AA _|exact Az|exact AO _|apply Ax|apply AK|apply AQ|apply AE|apply AN|apply AZ|apply AP|apply AV|apply AU|apply AM|intro _|split)
theorem At_ (x0:_)(x1:_)(x2:_):Loc (Fq x0 x1 x2):=by
 unfold Fq
 repeat' (first|exact AA _|exact Az|exact AO _|exact Bx _ _|exact Fk _ _|exact V5 _|apply Ax|apply AK|apply AQ|apply AE|apply AN|apply AZ|apply AP|apply AV|apply AU|apply AM|intro _|split)
theorem AdO_ (x0:_)(x1:_)(x2:_)(x3:_):Loc (GM x0 x1 x2 x3):=by
 unfold GM
 repeat' (first|exact AA _|exact Az|exact AO _|exact Bx _ _|exact Kg _ _|apply Ax|apply AK|apply AQ|apply AE|apply AN|apply AZ|apply AP|apply AV|apply AU|apply AM|intro _|split)
theorem GV (x0:_):Loc (asA x0):=by
 unfold asA
 repeat' (first|exact AA _|exact Az|exact AO _|apply Ax|apply AK|apply AQ|apply AE|apply AN|apply AZ|apply AP|apply AV|apply AU|apply AM|intro _|split)
theorem L0 (x0:_)(x1:_)(x2:_):Loc (bnd x0 x1 x2):=by
 unfold bnd
 repeat' (first|exact AA _|exact Az|exact AO _|apply Ax|apply AK|apply AQ|apply AE|apply AN|apply AZ|apply AP|apply AV|apply AU|apply AM|intro _|split)
theorem T9 (x0:_):Loc (ptrA x0):=by
 unfold ptrA
 repeat' (first|exact AA _|exact Az|exact AO _|apply Ax|apply AK|apply AQ|apply AE|apply AN|apply AZ|apply AP|apply AV|apply AU|apply AM|intro _|split)
theorem Ks (x0:_)(x1:_)(x2:_):Loc (pSl x0 x1 x2):=by
 unfold pSl
 repeat' (first|exact AA _|exact Az|exact AO _|apply Ax|apply AK|apply AQ|apply AE|apply AN|apply AZ|apply AP|apply AV|apply AU|apply AM|intro _|split)
theorem Ox (x0:_):Loc (pN x0):=by
 unfold pN
 repeat' (first|exact AA _|exact Az|exact AO _|apply Ax|apply AK|apply AQ|apply AE|apply AN|apply AZ|apply AP|apply AV|apply AU|apply AM|intro _|split)
theorem Tz_ (x0:_)(x1:_)(x2:_)(x3:_)(x4:_):Loc (F6 x0 x1 x2 x3 x4):=by
 unfold F6
 repeat' (first|exact AA _|exact Az|exact AO _|exact Ks _ _ _|exact L0 _ _ _|apply Ax|apply AK|apply AQ|apply AE|apply AN|apply AZ|apply AP|apply AV|apply AU|apply AM|intro _|split)
theorem Aib_ (x0:_)(x1:_)(x2:_)(x3:_)(x4:_)(x5:_):Loc (slSl x0 x1 x2 x3 x4 x5):=by
 unfold slSl
 repeat' (first|exact AA _|exact Az|exact AO _|exact Ks _ _ _|exact L0 _ _ _|apply Ax|apply AK|apply AQ|apply AE|apply AN|apply AZ|apply AP|apply AV|apply AU|apply AM|intro _|split)
theorem Ahd_ (x0:_)(x1:_)(x2:_):Loc (Ig x0 x1 x2):=by
 unfold Ig
 repeat' (first|exact AA _|exact Az|exact AO _|exact L0 _ _ _|apply Ax|apply AK|apply AQ|apply AE|apply AN|apply AZ|apply AP|apply AV|apply AU|apply AM|intro _|split)
theorem Ty_ (x0:_)(x1:_)(x2:_)(x3:_)(x4:_):Loc (B8 x0 x1 x2 x3 x4):=by
 unfold B8
 repeat' (first|exact AA _|exact Az|exact AO _|exact Ahd_ _ _ _|exact Aib_ _ _ _ _ _ _|exact Tz_ _ _ _ _ _|exact L0 _ _ _|exact Bx _ _|apply Ax|apply AK|apply AQ|apply AE|apply AN|apply AZ|apply AP|apply AV|apply AU|apply AM|intro _|split)
theorem Ej_ (x0:_)(x1:_)(x2:_):Loc (srcL x0 x1 x2):=by
 unfold srcL
 repeat' (first|exact AA _|exact Az|exact AO _|exact Fk _ _|apply Ax|apply AK|apply AQ|apply AE|apply AN|apply AZ|apply AP|apply AV|apply AU|apply AM|intro _|split)
theorem Acm_ (x0:_)(x1:_)(x2:_):Loc (appN x0 x1 x2):=by
 unfold appN
 repeat' (first|exact AA _|exact Az|exact AO _|apply Ax|apply AK|apply AQ|apply AE|apply AN|apply AZ|apply AP|apply AV|apply AU|apply AM|intro _|split)
theorem Acy_ (x0:_)(x1:_)(x2:_)(x3:_):Loc (appL x0 x1 x2 x3):=by
 unfold appL
 repeat' (first|exact AA _|exact Az|exact AO _|exact Ej_ _ _ _|apply Ax|apply AK|apply AQ|apply AE|apply AN|apply AZ|apply AP|apply AV|apply AU|apply AM|intro _|split)
theorem AeW_ (x0:_)(x1:_)(x2:_):Loc (oldL x0 x1 x2):=by
 unfold oldL
 repeat' (first|exact AA _|exact Az|exact AO _|exact Fk _ _|apply Ax|apply AK|apply AQ|apply AE|apply AN|apply AZ|apply AP|apply AV|apply AU|apply AM|intro _|split)
theorem AiF_ (x0:_)(x1:_)(x2:_):Loc (FI x0 x1 x2):=by
 unfold FI
 repeat' (first|exact AA _|exact Az|exact AO _|exact JO_ _ _|apply Ax|apply AK|apply AQ|apply AE|apply AN|apply AZ|apply AP|apply AV|apply AU|apply AM|intro _|split)
theorem Acv_ (x0:_)(x1:_)(x2:_)(x3:_):Loc (DT x0 x1 x2 x3):=by
 unfold DT
 repeat' (first|exact AA _|exact Az|exact AO _|exact AiF_ _ _ _|exact CQ _ _|exact Dy _|apply Ax|apply AK|apply AQ|apply AE|apply AN|apply AZ|apply AP|apply AV|apply AU|apply AM|intro _|split)
theorem To_ (x0:_)(x1:_)(x2:_)(x3:_)(x4:_)(x5:_)(x6:_):Loc (grow x0 x1 x2 x3 x4 x5 x6):=by
 unfold grow
 repeat' (first|exact AA _|exact Az|exact AO _|exact Acv_ _ _ _ _|exact AeW_ _ _ _|exact Ks _ _ _|exact Gq _|exact CQ _ _|apply Ax|apply AK|apply AQ|apply AE|apply AN|apply AZ|apply AP|apply AV|apply AU|apply AM|intro _|split)
theorem AcP_ (x0:_)(x1:_)(x2:_)(x3:_)(x4:_)(x5:_):Loc (E0 x0 x1 x2 x3 x4 x5):=by
 unfold E0
 repeat' (first|exact AA _|exact Az|exact AO _|exact Ks _ _ _|exact Kg _ _|apply Ax|apply AK|apply AQ|apply AE|apply AN|apply AZ|apply AP|apply AV|apply AU|apply AM|intro _|split)
theorem Sz_ (x0:_)(x1:_)(x2:_)(x3:_)(x4:_):Loc (C7 x0 x1 x2 x3 x4):=by
 unfold C7
 repeat' (first|exact AA _|exact Az|exact AO _|exact AcP_ _ _ _ _ _ _|exact To_ _ _ _ _ _ _ _|exact Acy_ _ _ _ _|exact Acm_ _ _ _|exact Bx _ _|apply Ax|apply AK|apply AQ|apply AE|apply AN|apply AZ|apply AP|apply AV|apply AU|apply AM|intro _|split)
theorem KA_ (x0:_)(x1:_)(x2:_):Loc (C3 x0 x1 x2):=by
 unfold C3
 repeat' (first|exact AA _|exact Az|exact AO _|exact Bx _ _|apply Ax|apply AK|apply AQ|apply AE|apply AN|apply AZ|apply AP|apply AV|apply AU|apply AM|intro _|split)
theorem Yl_ (x0:_)(x1:_)(x2:_)(x3:_):Loc (C5 x0 x1 x2 x3):=by
 unfold C5
 repeat' (first|exact AA _|exact Az|exact AO _|exact Bx _ _|exact Gq _|exact CQ _ _|apply Ax|apply AK|apply AQ|apply AE|apply AN|apply AZ|apply AP|apply AV|apply AU|apply AM|intro _|split)
theorem Uq (x0:_)(x1:_)(x2:_)(x3:_):Loc (Ei x0 x1 x2 x3):=by
 unfold Ei
 repeat' (first|exact AA _|exact Az|exact AO _|exact Bx _ _|apply Ax|apply AK|apply AQ|apply AE|apply AN|apply AZ|apply AP|apply AV|apply AU|apply AM|intro _|split)
theorem XR_ (x0:_)(x1:_)(x2:_)(x3:_)(x4:_):Loc (FA x0 x1 x2 x3 x4):=by
 unfold FA
 repeat' (first|exact AA _|exact Az|exact AO _|exact Ej_ _ _ _|exact Ox _|exact LG_ _|exact Bx _ _|exact Kg _ _|apply Ax|apply AK|apply AQ|apply AE|apply AN|apply AZ|apply AP|apply AV|apply AU|apply AM|intro _|split)
theorem IB (x0:_):Loc (CR x0):=by
 unfold CR
 repeat' (first|exact AA _|exact Az|exact AO _|exact Dy _|apply Ax|apply AK|apply AQ|apply AE|apply AN|apply AZ|apply AP|apply AV|apply AU|apply AM|intro _|split)
theorem Akb_ (x0:_):Loc (IU x0):=by
 unfold IU
 repeat' (first|exact AA _|exact Az|exact AO _|exact IB _|exact Ox _|apply Ax|apply AK|apply AQ|apply AE|apply AN|apply AZ|apply AP|apply AV|apply AU|apply AM|intro _|split)
theorem Aff_ (x0:_)(x1:_)(x2:_):Loc (aLen x0 x1 x2):=by
 unfold aLen
 repeat' (first|exact AA _|exact Az|exact AO _|exact Akb_ _|exact Ox _|exact Bx _ _|apply Ax|apply AK|apply AQ|apply AE|apply AN|apply AZ|apply AP|apply AV|apply AU|apply AM|intro _|split)
theorem Za_ (x0:_)(x1:_)(x2:_):Loc (aCap x0 x1 x2):=by
 unfold aCap
 repeat' (first|exact AA _|exact Az|exact AO _|exact Ox _|exact Bx _ _|apply Ax|apply AK|apply AQ|apply AE|apply AN|apply AZ|apply AP|apply AV|apply AU|apply AM|intro _|split)
theorem QO_ (x0:_)(x1:_)(x2:_):Loc (Iw x0 x1 x2):=by
 unfold Iw
 repeat' (first|exact AA _|exact Az|exact AO _|exact Bx _ _|exact Kg _ _|apply Ax|apply AK|apply AQ|apply AE|apply AN|apply AZ|apply AP|apply AV|apply AU|apply AM|intro _|split)
theorem FS_ (x0:_):Loc (zeroV x0):=by
 unfold zeroV
 repeat' (first|exact AA _|exact Az|exact AO _|apply Ax|apply AK|apply AQ|apply AE|apply AN|apply AZ|apply AP|apply AV|apply AU|apply AM|intro _|split)
theorem Ij (E:_)(e:_)(t:_)(k:_)(es:_):Loc (Dr E e t k es):=AK _ (AE _ λ_=>AA _)
theorem Qj (x0:_)(x1:_)(x2:_):Loc (EC x0 x1 x2):=by
 unfold EC
 repeat' (first|exact AA _|exact Az|exact AO _|apply Ax|apply AK|apply AQ|apply AE|apply AN|apply AZ|apply AP|apply AV|apply AU|apply AM|intro _|split)
theorem Ti (x0:_)(x1:_):Loc (zeroOf x0 x1):=by
 unfold zeroOf
 repeat' (first|exact AA _|exact Az|exact AO _|exact FS_ _|exact Bx _ _|apply Ax|apply AK|apply AQ|apply AE|apply AN|apply AZ|apply AP|apply AV|apply AU|apply AM|intro _|split)
theorem AfN_ (E:_)(a:_)(b:_)(k:_)(c:_):Loc (T2 E a b k c):=Ax (Ij _ _ _ _ _) λr=>by
 cases r with
 |none=>exact Ax (Ti _ _) λ_=>Qj _ _ _
 |some j=>exact Az
theorem Xg_ (E:_)(a:_)(b:_)(k:_)(c:_)(es:_):Loc (Nz E a b k c es):=Ax (Ij _ _ _ _ _) λr=>by
 cases r with
 |none=>exact Ax (Ti _ _) λ_=>Qj _ _ _
 |some j=>exact AE _ λ_=>Qj _ _ _
theorem Jr (x0:_)(x1:_):Loc (mapT x0 x1):=by
 unfold mapT
 repeat' (first|exact AA _|exact Az|exact AO _|exact Bx _ _|apply Ax|apply AK|apply AQ|apply AE|apply AN|apply AZ|apply AP|apply AV|apply AU|apply AM|intro _|split)
theorem AjP_ (E:_)(t:_)(c:_)(x:_)(k:_):Loc (Jx E t c x k):=Ax (Jr _ _) λke=>by
 cases x with
 |map m=>
  cases m with
  |none=>exact AfN_ _ _ _ _ _
  |some l=>exact Ax (IB _) λp=>Xg_ _ _ _ _ _ _
 |_=>exact Az
theorem YU_ (E:_)(t:_)(k:_)(x:_)(l:_)(p:_):Loc (putE E t k x l p):=Ax (Ij _ _ _ _ _) λr=>by
 cases r with
 |none=>exact CQ _ _
 |some j=>exact AE _ λ_=>AK _ (CQ _ _)
theorem Bh_ (E:_)(t:_)(m:_)(k:_)(x:_):Loc (Gh E t m k x):=Ax (Jr _ _) λke=>by
 cases m with
 |map m=>
  cases m with
  |none=>exact Az
  |some l=>exact Ax (IB _) λp=>Ax (YU_ _ _ _ _ _ _) λ_=>AA _
 |_=>exact Az
theorem Kz_ (E:_)(a:_)(b:_)(k:_)(l:_)(p:_):Loc (entE E a b k l p):=Ax (Ij _ _ _ _ _) λr=>by
 cases r with
 |none=>exact Ax (Ti _ _) λ_=>Ax (CQ _ _) λ_=>AA _
 |some j=>exact AE _ λ_=>AK _ (Ax (CQ _ _) λ_=>AA _)
theorem Aeu_ (E:_)(t:_)(m:_)(k:_):Loc (JB E t m k):=Ax (Jr _ _) λke=>by
 cases m with
 |map m=>
  cases m with
  |none=>exact Az
  |some l=>exact Ax (IB _) λp=>Kz_ _ _ _ _ _ _
 |_=>exact Az
theorem TR_ (x0:_)(x1:_)(x2:_):Loc (EW x0 x1 x2):=by
 unfold EW
 repeat' (first|exact AA _|exact Az|exact AO _|exact IB _|exact CQ _ _|apply Ax|apply AK|apply AQ|apply AE|apply AN|apply AZ|apply AP|apply AV|apply AU|apply AM|intro _|split)
theorem HF_:Loc (EM):=by
 unfold EM
 repeat' (first|exact AA _|exact Az|exact AO _|exact GI _|apply Ax|apply AK|apply AQ|apply AE|apply AN|apply AZ|apply AP|apply AV|apply AU|apply AM|intro _|split)
theorem Ahj_ (x0:_)(x1:_)(x2:_):Loc (FW x0 x1 x2):=by
 unfold FW
 repeat' (first|exact AA _|exact Az|exact AO _|exact HF_|exact Jr _ _|apply Ax|apply AK|apply AQ|apply AE|apply AN|apply AZ|apply AP|apply AV|apply AU|apply AM|intro _|split)
theorem Ve_ (E:_)(t:_)(m:_)(k:_):Loc (kDel E t m k):=Ax (Jr _ _) λke=>by
 cases m with
 |map m=>
  cases m with
  |none=>exact Ax (Ij _ _ _ _ _) λ_=>AA _
  |some l=>exact Ax (IB _) λp=>Ax (Ij _ _ _ _ _) λr=>by cases r<;>exact Ax (CQ _ _) λ_=>AA _
 |_=>exact Az
theorem AaA_ (x0:_)(x1:_)(x2:_)(x3:_):Loc (A6 x0 x1 x2 x3):=by
 unfold A6
 repeat' (first|exact AA _|exact Az|exact AO _|exact Ve_ _ _ _ _|exact QO_ _ _ _|exact Za_ _ _ _|exact Aff_ _ _ _|exact XR_ _ _ _ _ _|exact Sz_ _ _ _ _ _|exact Ja _|apply Ax|apply AK|apply AQ|apply AE|apply AN|apply AZ|apply AP|apply AV|apply AU|apply AM|intro _|split)
theorem AgL_ (x0:_)(x1:_)(x2:_)(x3:_):Loc (idxN x0 x1 x2 x3):=by
 unfold idxN
 repeat' (first|exact AA _|exact Az|exact AO _|exact T9 _|exact Bx _ _|apply Ax|apply AK|apply AQ|apply AE|apply AN|apply AZ|apply AP|apply AV|apply AU|apply AM|intro _|split)
theorem VG (x0:_):Loc (asN x0):=by
 unfold asN
 repeat' (first|exact AA _|exact Az|exact AO _|apply Ax|apply AK|apply AQ|apply AE|apply AN|apply AZ|apply AP|apply AV|apply AU|apply AM|intro _|split)
theorem MP_ (x0:_)(x1:_)(x2:_):Loc (Bp x0 x1 x2):=by
 unfold Bp
 repeat' (first|exact AA _|exact Az|exact AO _|apply Ax|apply AK|apply AQ|apply AE|apply AN|apply AZ|apply AP|apply AV|apply AU|apply AM|intro _|split)
theorem Io_ (x0:_):Loc (ptrN x0):=by
 unfold ptrN
 repeat' (first|exact AA _|exact Az|exact AO _|apply Ax|apply AK|apply AQ|apply AE|apply AN|apply AZ|apply AP|apply AV|apply AU|apply AM|intro _|split)
theorem QD_ (x0:_)(x1:_):Loc (BV x0 x1):=by
 unfold BV
 repeat' (first|exact AA _|exact Az|exact AO _|exact Io_ _|exact Bx _ _|exact Gq _|apply Ax|apply AK|apply AQ|apply AE|apply AN|apply AZ|apply AP|apply AV|apply AU|apply AM|intro _|split)
theorem QZ_ (x0:_):Loc (kBox x0):=by
 unfold kBox
 repeat' (first|exact AA _|exact Az|exact AO _|exact Io_ _|exact Gq _|apply Ax|apply AK|apply AQ|apply AE|apply AN|apply AZ|apply AP|apply AV|apply AU|apply AM|intro _|split)
theorem Ui_ (x0:_)(x1:_)(x2:_):Loc (AD x0 x1 x2):=by
 unfold AD
 repeat' (first|exact AA _|exact Az|exact AO _|exact GV _|exact At_ _ _ _|apply Ax|apply AK|apply AQ|apply AE|apply AN|apply AZ|apply AP|apply AV|apply AU|apply AM|intro _|split)
theorem Qr_ (x0:_)(x1:_)(x2:_)(x3:_):Loc (Bo x0 x1 x2 x3):=by
 unfold Bo
 repeat' (first|exact AA _|exact Az|exact AO _|exact GV _|exact AdO_ _ _ _ _|apply Ax|apply AK|apply AQ|apply AE|apply AN|apply AZ|apply AP|apply AV|apply AU|apply AM|intro _|split)
theorem AbV_ (x0:_):Loc (kNil x0):=by
 unfold kNil
 repeat' (first|exact AA _|exact Az|exact AO _|apply Ax|apply AK|apply AQ|apply AE|apply AN|apply AZ|apply AP|apply AV|apply AU|apply AM|intro _|split)
theorem Nn_ (b:Bool):Loc (pB b):=by cases b<;>exact AA _
theorem L7 (x0:_)(x1:_)(x2:_):Loc (Dv x0 x1 x2):=by
 unfold Dv
 repeat' (first|exact AA _|exact Az|exact AO _|exact Ja _|apply Ax|apply AK|apply AQ|apply AE|apply AN|apply AZ|apply AP|apply AV|apply AU|apply AM|intro _|split)
theorem Lu_ (P:Program)(v:Value):Loc (xorU P v):=by
 have h:=L7 P .xor v
 cases v with
 |int k n=>
  cases n with
  |negSucc m=>exact L7 P .xor (.int k (.negSucc m))
  |ofNat m=>
   show Loc (Option.rec (motive:=λ_=>M Value) (Dv P .xor (.int k (.ofNat m))) (λx=>M.pure x) (notK k m))
   exact AM _ (L7 _ _ _) λ_=>AA _
 |_=>exact h
theorem Aba_ (x0:_)(x1:_)(x2:_):Loc (kUn x0 x1 x2):=by
 unfold kUn
 repeat' (first|exact AA _|exact Az|exact AO _|exact Lu_ _ _|exact L7 _ _ _|exact Nn_ _|apply Ax|apply AK|apply AQ|apply AE|apply AN|apply AZ|apply AP|apply AV|apply AU|apply AM|intro _|split)
theorem Ti_ (x0:_)(x1:_):Loc (strOf x0 x1):=by
 unfold strOf
 repeat' (first|exact AA _|exact Az|exact AO _|exact Fk _ _|apply Ax|apply AK|apply AQ|apply AE|apply AN|apply AZ|apply AP|apply AV|apply AU|apply AM|intro _|split)
theorem OQ_ (x0:_)(x1:_)(x2:_)(x3:_)(x4:_):Loc (Fx x0 x1 x2 x3 x4):=by
 unfold Fx
 repeat' (first|exact AA _|exact Az|exact AO _|exact Ti_ _ _|exact Bx _ _|apply Ax|apply AK|apply AQ|apply AE|apply AN|apply AZ|apply AP|apply AV|apply AU|apply AM|intro _|split)
theorem AiY_ (x0:_)(x1:_)(x2:_)(x3:_)(x4:_):Loc (FN x0 x1 x2 x3 x4):=by
 unfold FN
 repeat' (first|exact AA _|exact Az|exact AO _|exact Ja _|exact Bx _ _|apply Ax|apply AK|apply AQ|apply AE|apply AN|apply AZ|apply AP|apply AV|apply AU|apply AM|intro _|split)
theorem SB (x0:_)(x1:_)(x2:_)(x3:_):Loc (Ea x0 x1 x2 x3):=by
 unfold Ea
 repeat' (first|exact AA _|exact Az|exact AO _|exact AiY_ _ _ _ _ _|exact OQ_ _ _ _ _ _|exact Ja _|apply Ax|apply AK|apply AQ|apply AE|apply AN|apply AZ|apply AP|apply AV|apply AU|apply AM|intro _|split)
theorem YH_ (x0:_)(x1:_):Loc (rowN x0 x1):=by
 unfold rowN
 repeat' (first|exact AA _|exact Az|exact AO _|exact Ks _ _ _|exact Gq _|exact CQ _ _|apply Ax|apply AK|apply AQ|apply AE|apply AN|apply AZ|apply AP|apply AV|apply AU|apply AM|intro _|split)
theorem Aey_ (l:List UInt8):Loc (FX l):=by
 unfold FX
 rw[Lg]
 exact AN _ λn=>YH_ _ _
theorem Mu_ (x0:_)(x1:_)(x2:_)(x3:_):Loc (Hs x0 x1 x2 x3):=by
 unfold Hs
 repeat' (first|exact AA _|exact Az|exact AO _|exact Aey_ _|exact SB _ _ _ _|exact Bx _ _|apply Ax|apply AK|apply AQ|apply AE|apply AN|apply AZ|apply AP|apply AV|apply AU|apply AM|intro _|split)
theorem NC_ (x0:_)(x1:_)(x2:_)(x3:_)(x4:_)(x5:_):Loc (Et x0 x1 x2 x3 x4 x5):=by
 unfold Et
 repeat' (first|exact AA _|exact Az|exact AO _|exact SB _ _ _ _|exact Bx _ _|exact Fk _ _|exact Dy _|apply Ax|apply AK|apply AQ|apply AE|apply AN|apply AZ|apply AP|apply AV|apply AU|apply AM|intro _|split)
theorem AdU_ (x0:_)(x1:_)(x2:_)(x3:_):Loc (Cy x0 x1 x2 x3):=by
 unfold Cy
 repeat' (first|exact AA _|exact Az|exact AO _|exact NC_ _ _ _ _ _ _|exact Mu_ _ _ _ _|exact SB _ _ _ _|apply Ax|apply AK|apply AQ|apply AE|apply AN|apply AZ|apply AP|apply AV|apply AU|apply AM|intro _|split)
theorem Vv_ (x0:_)(x1:_):Loc (Gl x0 x1):=by
 unfold Gl
 repeat' (first|exact AA _|exact Az|exact AO _|apply Ax|apply AK|apply AQ|apply AE|apply AN|apply AZ|apply AP|apply AV|apply AU|apply AM|intro _|split)
theorem AjV_ (x0:_)(x1:_)(x2:_):Loc (Gj x0 x1 x2):=by
 unfold Gj
 repeat' (first|exact AA _|exact Az|exact AO _|exact Vv_ _ _|exact Bx _ _|apply Ax|apply AK|apply AQ|apply AE|apply AN|apply AZ|apply AP|apply AV|apply AU|apply AM|intro _|split)
theorem Ala_ (x0:_)(x1:_)(x2:_):Loc (EH x0 x1 x2):=by
 unfold EH
 repeat' (first|exact AA _|exact Az|exact AO _|exact Bx _ _|apply Ax|apply AK|apply AQ|apply AE|apply AN|apply AZ|apply AP|apply AV|apply AU|apply AM|intro _|split)
theorem Zd_ (x0:_)(x1:_)(x2:_)(x3:_):Loc (mkSl x0 x1 x2 x3):=by
 unfold mkSl
 repeat' (first|exact AA _|exact Az|exact AO _|exact Bx _ _|exact Gq _|apply Ax|apply AK|apply AQ|apply AE|apply AN|apply AZ|apply AP|apply AV|apply AU|apply AM|intro _|split)
theorem Sb_ (x0:_)(x1:_)(x2:_)(x3:_):Loc (Fb x0 x1 x2 x3):=by
 unfold Fb
 repeat' (first|exact AA _|exact Az|exact AO _|exact Zd_ _ _ _ _|exact VG _|exact Bx _ _|apply Ax|apply AK|apply AQ|apply AE|apply AN|apply AZ|apply AP|apply AV|apply AU|apply AM|intro _|split)
theorem ML (x0:_)(x1:_)(x2:_):Loc (Da x0 x1 x2):=by
 unfold Da
 repeat' (first|exact AA _|exact Az|exact AO _|exact Bx _ _|apply Ax|apply AK|apply AQ|apply AE|apply AN|apply AZ|apply AP|apply AV|apply AU|apply AM|intro _|split)
theorem Qd_ (x0:_)(x1:_)(x2:_)(x3:_):Loc (kFld x0 x1 x2 x3):=by
 unfold kFld
 repeat' (first|exact AA _|exact Az|exact AO _|exact ML _ _ _|exact T9 _|exact GV _|exact Bx _ _|apply Ax|apply AK|apply AQ|apply AE|apply AN|apply AZ|apply AP|apply AV|apply AU|apply AM|intro _|split)
theorem Ec_ (x0:_):Loc (asCs x0):=by
 unfold asCs
 repeat' (first|exact AA _|exact Az|exact AO _|apply Ax|apply AK|apply AQ|apply AE|apply AN|apply AZ|apply AP|apply AV|apply AU|apply AM|intro _|split)
theorem Aal_ (x0:_)(x1:_)(x2:_)(x3:_):Loc (Du x0 x1 x2 x3):=by
 unfold Du
 repeat' (first|exact AA _|exact Az|exact AO _|exact Ec_ _|exact ML _ _ _|exact Uq _ _ _ _|exact Bx _ _|apply Ax|apply AK|apply AQ|apply AE|apply AN|apply AZ|apply AP|apply AV|apply AU|apply AM|intro _|split)
theorem NN_ (x0:_)(x1:_)(x2:_)(x3:_):Loc (Bt x0 x1 x2 x3):=by
 unfold Bt
 repeat' (first|exact AA _|exact Az|exact AO _|exact VG _|exact AgL_ _ _ _ _|exact Bx _ _|apply Ax|apply AK|apply AQ|apply AE|apply AN|apply AZ|apply AP|apply AV|apply AU|apply AM|intro _|split)
theorem Yy_ (x0:_)(x1:_)(x2:_)(x3:_):Loc (idxV x0 x1 x2 x3):=by
 unfold idxV
 repeat' (first|exact AA _|exact Az|exact AO _|exact Uq _ _ _ _|exact Bx _ _|apply Ax|apply AK|apply AQ|apply AE|apply AN|apply AZ|apply AP|apply AV|apply AU|apply AM|intro _|split)
theorem Me_ (x0:_)(x1:_)(x2:_)(x3:_):Loc (kIdx x0 x1 x2 x3):=by
 unfold kIdx
 repeat' (first|exact AA _|exact Az|exact AO _|exact Yy_ _ _ _ _|exact VG _|exact Bx _ _|apply Ax|apply AK|apply AQ|apply AE|apply AN|apply AZ|apply AP|apply AV|apply AU|apply AM|intro _|split)
theorem We_ (x0:_)(x1:_):Loc (kExt x0 x1):=by
 unfold kExt
 repeat' (first|exact AA _|exact Az|exact AO _|apply Ax|apply AK|apply AQ|apply AE|apply AN|apply AZ|apply AP|apply AV|apply AU|apply AM|intro _|split)
theorem Ads_ (x0:_)(x1:_)(x2:_):Loc (okV x0 x1 x2):=by
 unfold okV
 repeat' (first|exact AA _|exact Az|exact AO _|apply Ax|apply AK|apply AQ|apply AE|apply AN|apply AZ|apply AP|apply AV|apply AU|apply AM|intro _|split)
theorem AeM_ (x0:_)(x1:_)(x2:_):Loc (Gk x0 x1 x2):=by
 unfold Gk
 repeat' (first|exact AA _|exact Az|exact AO _|exact Bx _ _|exact GI _|apply Ax|apply AK|apply AQ|apply AE|apply AN|apply AZ|apply AP|apply AV|apply AU|apply AM|intro _|split)
theorem Ra_ (x0:_)(x1:_)(x2:_):Loc (sitN x0 x1 x2):=by
 unfold sitN
 repeat' (first|exact AA _|exact Az|exact AO _|exact CQ _ _|apply Ax|apply AK|apply AQ|apply AE|apply AN|apply AZ|apply AP|apply AV|apply AU|apply AM|intro _|split)
theorem Alh_ (x0:_):Loc (EX x0):=by
 unfold EX
 repeat' (first|exact AA _|exact Az|exact AO _|exact Ra_ _ _ _|exact Dy _|apply Ax|apply AK|apply AQ|apply AE|apply AN|apply AZ|apply AP|apply AV|apply AU|apply AM|intro _|split)
theorem SQ_ (x0:_)(x1:_)(x2:_)(x3:_):Loc (EN x0 x1 x2 x3):=by
 unfold EN
 repeat' (first|exact AA _|exact Az|exact AO _|exact Ads_ _ _ _|exact FS_ _|exact Bx _ _|apply Ax|apply AK|apply AQ|apply AE|apply AN|apply AZ|apply AP|apply AV|apply AU|apply AM|intro _|split)
theorem LP_:Loc (Fh):=by
 unfold Fh
 repeat' (first|exact AA _|exact Az|exact AO _|exact Pb _|exact JW|apply Ax|apply AK|apply AQ|apply AE|apply AN|apply AZ|apply AP|apply AV|apply AU|apply AM|intro _|split)
theorem AhZ_ (x0:_)(x1:_):Loc (Ft x0 x1):=by
 unfold Ft
 repeat' (first|exact AA _|exact Az|exact AO _|exact Pb _|exact JW|apply Ax|apply AK|apply AQ|apply AE|apply AN|apply AZ|apply AP|apply AV|apply AU|apply AM|intro _|split)
inductive ChR (r:Inj):List PanicEntry->List PanicEntry->Prop
 |nil:ChR r [] []
 |cons {e e':PanicEntry} {l l':List PanicEntry}:VR r e.v e'.v->e'.recovered=e.recovered->e'.goexit=e.goexit->ChR r l l'->ChR r (e::l) (e'::l')
theorem ChR.mono {r r':Inj}(h:r.le r'){l l':List PanicEntry}(k:ChR r l l'):ChR r' l l':=by
 induction k with
 |nil=>exact .nil
 |cons a b c _ ih=>exact .cons (a.mono h) b c ih
theorem ChR.append {r:Inj}{a a' b b':List PanicEntry}(h:ChR r a a')(k:ChR r b b'):ChR r (a++b) (a'++b'):=by
 induction h with
 |nil=>exact k
 |cons x y z _ ih=>exact .cons x y z ih
inductive MoR (r:Inj):FrameMode->FrameMode->Prop
 |run:MoR r .run .run
 |ret:MoR r .returning .returning
 |pan {c c':List PanicEntry}:ChR r c c'->MoR r (.panicking c) (.panicking c')
theorem MoR.mono {r r':Inj}(h:r.le r'){m m':FrameMode}(k:MoR r m m'):MoR r' m m':=by
 cases k with
 |run=>exact .run
 |ret=>exact .ret
 |pan c=>exact .pan (c.mono h)
inductive DfR (r:Inj):Deferred->Deferred->Prop
 |fn {f f':Fn} {c c' a a':Array Value}:FnR r f f'->VRs r c.toList c'.toList->VRs r a.toList a'.toList->DfR r ⟨.fn f c,a⟩ ⟨.fn f' c',a'⟩
 |coll {b b' d:Nat}:r.blk b=some (b',d)->DfR r ⟨.collected b, #[]⟩ ⟨.collected b', #[]⟩
theorem DfR.mono {r r':Inj}(h:r.le r'){m m':Deferred}(k:DfR r m m'):DfR r' m m':=by
 cases k with
 |fn a b c=>exact .fn (a.mono h) (b.mono h) (c.mono h)
 |coll a=>exact .coll (h.1 _ _ a)
inductive DfsR (r:Inj):List Deferred->List Deferred->Prop
 |nil:DfsR r [] []
 |cons {e e':Deferred} {l l':List Deferred}:DfR r e e'->DfsR r l l'->DfsR r (e::l) (e'::l')
theorem DfsR.mono {r r':Inj}(h:r.le r'){l l':List Deferred}(k:DfsR r l l'):DfsR r' l l':=by
 induction k with
 |nil=>exact .nil
 |cons a _ ih=>exact .cons (a.mono h) ih
def CxR (r:Inj)(base:List Deferred×List Frame)(cx:Ctx)(b:Frame)(dfs:List Deferred)(cs:List Frame):Prop:=
 match cx with
 | .no=>dfs=base.1/\cs=base.2
 | .cx up d=>
  (match up with
   |none=>b.kind= .normal/\cs=base.2
   |some m=>b.kind= .deferred/\ ∃c rest m',base.2=c::rest/\cs={c with mode:=m'}::rest/\MoR r m m')/\
  (match d with
   |none=>b.roundOf≠none/\dfs=[]
   |some l=>b.roundOf=none/\DfsR r l dfs)
theorem CxR.mono {r r':Inj}(h:r.le r'){base:List Deferred×List Frame}{cx:Ctx}{b:Frame}{dfs:List Deferred}{cs:List Frame}(k:CxR r base cx b dfs cs):CxR r' base cx b dfs cs:=by
 unfold CxR at *
 cases cx with
 |no=>exact k
 |cx up d=>
  obtain⟨k1,k2⟩:=k
  constructor
  ·cases up with
   |none=>exact k1
   |some m=>obtain⟨q1,c,rest,m',q2,q3,q4⟩:=k1;exact⟨q1,c,rest,m',q2,q3,q4.mono h⟩
  ·cases d with
   |none=>exact k2
   |some l=>exact⟨k2.1,k2.2.mono h⟩
def frm (b:Frame)(t:Array Value)(d:List Deferred)(todo:List Item):Frame:={fn:=b.fn,tmps:=t,todo,defers:=d,mode:= .run,kind:=b.kind,roundOf:=b.roundOf}
def putT (t:Array Value)(dst:Option Nat)(v:Value):Array Value:=
 match dst with
 |some d=>t.setIfInBounds d v
 |none=>t
theorem Q7 (b:Frame)(t:Array Value)(d:List Deferred)(todo:List Item):(frm b t d todo).eval=Act.eval ⟨t,d⟩:=funext λx=>by cases x<;>rfl
theorem Ev (b:Frame)(t:Array Value)(d:List Deferred){ops:Array Oper}{i:Nat}{o:Oper}(ho:ops[i]?=some o)(rest:List Nat)(k:List Item)(v:Value):
  (frm b t d (.inRegion ops (i::rest)::k)).finish v=frm b (putT t o.dst v) d (.inRegion ops rest::k):=by
 cases h:o.dst<;>simp[Frame.finish,frm,putT,ho,h]
section
variable {P:Program}{b:Frame}{t:Array Value}{d:List Deferred}{k:List Item}{cs:List Frame}{w:World}{ops:Array Oper}
theorem Es {i:Nat}{rest:List Nat}{o:Oper}(ho:ops[i]?=some o)(hw:Region.wanted o (yielded ops t)=true)(hd:b.roundOf=none\/ ∀c,o.op≠ .defer c):
  stepG P true {frame:=frm b t d (.inRegion ops (i::rest)::k),callers:=cs,status:= .running,dying:=none} w=
   stepG.apply P true (frm b t d (.inRegion ops (i::rest)::k)) cs none (execOp (Act.eval ⟨t,d⟩) o) w:=by
 have he:=Q7 b t d (.inRegion ops (i::rest)::k)
 have e1:stepG P true {frame:=frm b t d (.inRegion ops (i::rest)::k),callers:=cs,status:= .running,dying:=none} w=
   stepG.oper P true (frm b t d (.inRegion ops (i::rest)::k)) cs none w:=by
  simp[stepG,stepG.exec,frm,ho,hw]
 rw[e1]
 have e2:(frm b t d (.inRegion ops (i::rest)::k)).oper?=some o:=ho
 unfold stepG.oper
 simp only[e2,he]
 split
 ·rename_i l c h1 h2
  rcases hd with hd|hd
  ·rw[show(frm b t d (.inRegion ops (i::rest)::k)).roundOf=b.roundOf from rfl,hd]at h1
   cases h1
  ·exact absurd h2 (hd c)
 ·rfl
theorem XF_ {id:Nat}:step P (lone (frm b t d (.code (.region id ops false)::k)) cs w)= .next (lone (frm b t d (.inRegion ops (List.range ops.size)::k)) cs w):=
 step_lone_go (by simp[stepG,stepG.exec,frm])
theorem AI_ {id:Nat}:
  step P (lone (frm b t d (.code (.region id ops true)::k)) cs w)=
   .next (lone (frm b t d (.inRegion ops (Region.schedule (P.follows .mixedOrders) ops (w.tape w.drawn (.order b.fn id)))::k)) cs {w with drawn:=w.drawn+1}):=
 step_lone_go (by simp[stepG,stepG.exec,frm,choose,Sem.run,Question.forced,Question.cut])
theorem Ox_:step P (lone (frm b t d (.inRegion ops []::k)) cs w)= .next (lone (frm b t d k) cs w):=
 step_lone_go (by simp[stepG,stepG.exec,frm])
theorem KO_ {i:Nat}{o:Oper}{rest:List Nat}(ho:ops[i]?=some o)(h:Region.wanted o (yielded ops t)=false):
  step P (lone (frm b t d (.inRegion ops (i::rest)::k)) cs w)= .next (lone (frm b (putT t o.dst undef) d (.inRegion ops rest::k)) cs w):=by
 rw[<-Ev b t d ho]
 exact step_lone_go (by simp[stepG,stepG.exec,frm,ho,h])
end
def Ends (P:Program)(r:Inj)(out:Out Value)(m:Machine)(c:Frame)(cs:List Frame)(w':World):Prop:=
 match out with
 | .inl v=> ∃v',VR r v v'/\Steps P m (lone (c.finish v') cs w')
 | .inr ch=> ∃ch',ChR r ch ch'/\Steps P m (lone (c.raise ch') cs w')
def QD (P:Program)(w0 w:World)(r:Inj)(s:St)(f:Nat)(args':List Value)(out:Out Value)(s':St):Prop:=
 ∃v v' w' r',out= .inl v/\VR r' v v'/\Goes w0 r s s' r' w'/\s'.lim=s.lim/\s'.cx=s.cx/\(callFunc f args'.toArray).run P w= .ok (.value v') w'
structure CallOK (E:Env)(call:Ad):Prop where
 loc: ∀f args,Loc (call f args)
 ok: ∀{w0 w:World} {r:Inj} {f:Nat} {args args':List Value} {s:St} {out:Out Value} {s':St},call f args s=rOf out s'->Rel w0 r s.mem w->Bnd s->Bj r s.next s'.next->VRs r args args'->
  ((∀w,(callFunc f args'.toArray).run E.P w= .ok (.enter f args'.toArray) w)/\
  ∀c cs,∃w' r',Goes w0 r s s' r' w'/\s'.lim=s.lim/\s'.cx=s.cx/\Ends E.P r' out (lone (Frame.enter E.P f args'.toArray .normal) (c::cs) w) c cs w')\/
  (E.ext.get f≠none/\QD E.P w0 w r s f args' out s')
structure RoundOK (E:Env)(round:Ad):Prop where
 loc: ∀l args,Loc (round l args)
 ok: ∀{w0 w:World} {r:Inj} {l l' d:Nat} {args args':List Value} {s:St} {out:Out Value} {s':St},round l args s=rOf out s'->Rel w0 r s.mem w->Bnd s->Bj r s.next s'.next->VRs r args args'->r.blk l=some (l',d)->
  ∃f tm as bd,(Instr.yield l' args'.toArray).run E.P w= .ok (.round l' f tm as bd) w/\
  ∀c cs,∃w' r',Goes w0 r s s' r' w'/\s'.lim=s.lim/\s'.cx=s.cx/\Ends E.P r' out (lone (Frame.round l' f tm as bd .normal) (c::cs) w) c cs w'
def Sn (P:Program)(r:Inj)(out:Out Value)(m:Machine)(b:Frame)(t:Array Value)(dfs:List Deferred)(ops:Array Oper)(o:Oper)(rest:List Nat)(k:List Item)(cs:List Frame)(w':World):Prop:=
 match out with
 | .inl v=> ∃v',VR r v v'/\Steps P m (lone (frm b (putT t o.dst v') dfs (.inRegion ops rest::k)) cs w')
 | .inr ch=> ∃ch' td,ChR r ch ch'/\Steps P m (lone {frm b t dfs td with mode:= .panicking ch'} cs w')
def OpS (E:Env)(o:Oper)(c:Cl OpT)(ds:List Nat):Prop:=
 ∃f,c= .mk f/\(∀call round,CallOK E call->RoundOK E round-> ∀rho tm,Loc (f call round rho tm))/\
  ∀call round,CallOK E call->RoundOK E round-> ∀(w0 w:World) (r:Inj) (U:Nat->Prop) rho tm (b:Frame) (t:Array Value) (dfs:List Deferred) (cs:List Frame) (base:List Deferred×List Frame) (s:St) (out:Out Value) (s':St),
   SlR r U ds rho tm t->(∀t,Operand.tmp t∈o.op.operands.toList->U t)->Rel w0 r s.mem w->CxR r base s.cx b dfs cs->Bnd s->Bj r s.next s'.next->f call round rho tm s=rOf out s'->
   ∀(ops:Array Oper) i rest k,ops[i]?=some o->Region.wanted o (yielded ops t)=true->
    ∃w' r' dfs' cs',Goes w0 r s s' r' w'/\CxR r' base s'.cx b dfs' cs'/\s'.lim=s.lim/\
     Sn E.P r' out (lone (frm b t dfs (.inRegion ops (i::rest)::k)) cs w) b t dfs' ops o rest k cs' w'
theorem OpS.ofV {E:Env}{o:Oper}{c:Cl OpT}{ds:List Nat}(h:OpV E o c ds)(hd: ∀c,o.op≠ .defer c)(hl: ∀f,c= .mk f-> ∀call round rho tm,Loc (f call round rho tm)):OpS E o c ds:=by
 obtain⟨f,h1,h2,h3⟩:=h
 refine⟨f,h1,λcall round _ _=>hl f h1 call round, ?_⟩
 intro call round hc hro w0 w r U rho tm b t dfs cs base s out s' hs hu hr hx hb hf e ops i rest k ho hw
 cases out with
 |inr ch=>exact((h2 call round rho tm).no _ _ _ e).elim
 |inl v=>
  obtain⟨v',w',r',k1,k2,k3,k4,k5⟩:=h3 call round w0 w r U rho tm ⟨t,dfs⟩ s v s' hs hu hr e hf
  refine⟨w',r',dfs,cs,k2,by rw[k5];exact hx.mono k2.le,k4,v',k3, .one (step_lone_go ?_)⟩
  rw[Es ho hw (.inr hd),<-Ev b t dfs ho]
  rcases k1 with k1|⟨k1,rfl⟩<;>simp[stepG.apply,k1]
theorem Abf_ (b:Frame)(t:Array Value)(d:List Deferred)(td:List Item)(ch:List PanicEntry):(frm b t d td).raise ch={frm b t d td with mode:= .panicking ch}:=rfl
section
variable {E:Env}{ds:List Nat}{o:Oper}
theorem VR.func_inv {r:Inj}{f:Fn}{a c:Array Value}{v':Value}(h:VR r (.func f a c) v'): ∃f' a' c',v'= .func f' a' c'/\FnR r f f'/\VRs r a.toList a'.toList/\VRs r c.toList c'.toList:=by
 cases h with
 |func h1 h2 h3 h4 h5=>exact⟨_,_,_,rfl,h1,aT h2 h3,aT h4 h5⟩
theorem JG (ρ:Operand->Value){c:Call}{ty:TypeId}{x:Operand}{f:Fn}{a cap:Array Value}(hc:c.callee= .value x)(hx:ρ x= .func f a cap):
  resolve ρ c ty=pure {target:= .fn f cap,args:=a++c.args.map ρ}:=by
 unfold resolve
 simp only[hc,hx,Deferred.ofValue]
theorem WF_ {x:Operand}{c:Call}(ho:o.op= .call c)(hc:c.callee= .value x):OpS E o (QV ds x c.args.toList) ds:=by
 obtain⟨g,h1,h2⟩:=BC ds x
 obtain⟨g',h3,h4⟩:=Eb ds c.args.toList
 refine⟨λcall round rho tm=>M.on (g rho tm) λf=>M.on (g' rho tm) λl=>AW call round f l,by unfold QV;simp only[h1,h3], ?_, ?_⟩
 ·intro call round hc1 hc2 rho tm
  refine AE _ λf=>AE _ λl=> ?_
  unfold AW
  split
  ·exact hc1.loc _ _
  ·exact AK _ (hc2.loc _ _)
  ·exact Az
 ·intro call round hc1 hc2 w0 w r U rho tm b t dfs cs base s out s' hs hu hr hx hb hf e ops i rest k hoi hw
  have on': ∀{α β:Type} {y:Option α} {f:α->M β} {o:Out β} {s s':St},M.on y f s=rOf o s'-> ∃a,y=some a/\f a s=rOf o s':=by
   intro α β y f o s s' h
   cases y with
   |none=>exact(A7 h).elim
   |some a=>exact⟨a,rfl,h⟩
  obtain⟨fv,e1,e⟩:=on' e
  obtain⟨l,e2,e⟩:=on' e
  have hfv:=h2 _ _ _ _ ⟨t,dfs⟩ _ hs (λt q=>hu t (by simp[ho,Op.operands,Call.operands,hc]at q ⊢;simp[q])) e1
  have hl:VRs r l (c.args.toList.map (Act.eval ⟨t,dfs⟩)):=h4 _ _ _ _ ⟨t,dfs⟩ _ hs (λt q=>hu t (by simp[ho,Op.operands,Call.operands]at q ⊢;simp[q])) e2
  have hmap:c.args.map (Act.eval ⟨t,dfs⟩)=(c.args.toList.map (Act.eval ⟨t,dfs⟩)).toArray:=by rw[<-List.map_toArray]
  have hd: ∀c,o.op≠ .defer c:=by rw[ho];intro c h;cases h
  unfold AW at e
  split at e
  ·rename_i f first cap _
   obtain⟨f',a',c',q1,q2,q3,q4⟩:=hfv.func_inv
   cases f' with
   |func f'=>
    simp only[FnR]at q2
    subst q2
    have e1:(a'++c.args.map (Act.eval ⟨t,dfs⟩)++c')=(a'.toList++(c.args.toList.map (Act.eval ⟨t,dfs⟩)++c'.toList)).toArray:=by
     rw[hmap];simp
    rcases hc1.ok e hr hb hf (args':=a'.toList++(c.args.toList.map (Act.eval ⟨t,dfs⟩)++c'.toList)) (q3.append (hl.append q4))with⟨k1,k2⟩|⟨_,v,v',w',r',rfl,g1,g2,g3,g4,g5⟩
    case inr=>
     have hrun:(execOp (Act.eval ⟨t,dfs⟩) o).run E.P w= .ok (.value v') w':=by
      simp only[execOp,ho,JG _ hc q1]
      simp only[invoke,Sem.run_bind,Sem.run_pure,Result.andThen_ok,e1,g5]
     refine⟨w',r',dfs,cs,g2,by rw[g4];exact hx.mono g2.le,g3,v',g1, .one (step_lone_go ?_)⟩
     rw[Es hoi hw (.inr hd),<-Ev b t dfs hoi]
     simp[stepG.apply,hrun]
    obtain⟨w',r',g1,g2,g3,g4⟩:=k2 (frm b t dfs (.inRegion ops (i::rest)::k)) cs
    have henter:step E.P (lone (frm b t dfs (.inRegion ops (i::rest)::k)) cs w)=
      .next (lone (Frame.enter E.P f (a'.toList++(c.args.toList.map (Act.eval ⟨t,dfs⟩)++c'.toList)).toArray .normal) (frm b t dfs (.inRegion ops (i::rest)::k)::cs) w):=by
     refine step_lone_go ?_
     rw[Es hoi hw (.inr hd)]
     have hrun:(execOp (Act.eval ⟨t,dfs⟩) o).run E.P w= .ok (.enter f (a'.toList++(c.args.toList.map (Act.eval ⟨t,dfs⟩)++c'.toList)).toArray) w:=by
      simp only[execOp,ho,JG _ hc q1]
      simp only[invoke,Sem.run_bind,Sem.run_pure,Result.andThen_ok,e1,k1]
     simp[stepG.apply,hrun,frm]
    refine⟨w',r',dfs,cs,g1,by rw[g3];exact hx.mono g1.le,g2, ?_⟩
    unfold Ends at g4
    cases out with
    |inl v=>
     obtain⟨v',p1,p2⟩:=g4
     rw[Ev b t dfs hoi]at p2
     exact⟨v',p1, .head henter p2⟩
    |inr ch=>
     obtain⟨ch',p1,p2⟩:=g4
     exact⟨ch',_,p1, .head henter p2⟩
   |_=>simp only[FnR]at q2
  ·rename_i lp first cap _
   obtain⟨f',a',c',q1,q2,q3,q4⟩:=hfv.func_inv
   cases f' with
   |yield lp'=>
    obtain⟨dd,q2⟩:=q2
    cases hemp:first.isEmpty with
    |false=>rw[hemp]at e;exact(A7 e).elim
    |true=>
     rw[hemp]at e
     have e':round lp l s=rOf out s':=e
     have hfe:first= #[]:=by simpa using hemp
     subst hfe
     have ha':a'= #[]:=by have:=q3.1;simp at this;simpa using this.symm
     subst ha'
     obtain⟨fn,tmn,as,bd,k1,k2⟩:=hc2.ok e' hr hb hf hl q2
     obtain⟨w',r',g1,g2,g3,g4⟩:=k2 (frm b t dfs (.inRegion ops (i::rest)::k)) cs
     have henter:step E.P (lone (frm b t dfs (.inRegion ops (i::rest)::k)) cs w)=
       .next (lone (Frame.round lp' fn tmn as bd .normal) (frm b t dfs (.inRegion ops (i::rest)::k)::cs) w):=by
      refine step_lone_go ?_
      rw[Es hoi hw (.inr hd)]
      have hrun:(execOp (Act.eval ⟨t,dfs⟩) o).run E.P w= .ok (.round lp' fn tmn as bd) w:=by
       simp only[execOp,ho,JG _ hc q1]
       have e1:(#[]++c.args.map (Act.eval ⟨t,dfs⟩))=(c.args.toList.map (Act.eval ⟨t,dfs⟩)).toArray:=by
        rw[hmap];simp
       simp only[invoke,Sem.run_bind,Sem.run_pure,Result.andThen_ok,e1,k1]
      simp[stepG.apply,hrun,frm]
     refine⟨w',r',dfs,cs,g1,by rw[g3];exact hx.mono g1.le,g2, ?_⟩
     unfold Ends at g4
     cases out with
     |inl v=>
      obtain⟨v',p1,p2⟩:=g4
      rw[Ev b t dfs hoi]at p2
      exact⟨v',p1, .head henter p2⟩
     |inr ch=>
      obtain⟨ch',p1,p2⟩:=g4
      exact⟨ch',_,p1, .head henter p2⟩
   |_=>simp only[FnR]at q2
  ·exact(A7 e).elim
theorem VS (s:FieldStep)(a:Addr):Loc (Mc E s a):=Ax (Bx _ _) λ_i=>Ax (ML _ _ _) λ_p=>AK _ (Ax (T9 _) λ_v=>AA _)
theorem Rr_ (s:FieldStep)(cs:List Value):Loc (NX E s cs):=Ax (Bx _ _) λ_i=>Ax (ML _ _ _) λ_p=>Ax (Uq _ _ _ _) λ_v=>AA _
theorem Aip_ (s:FieldStep)(v:Value)(b:Bool):Loc (EY E s v b):=by
 unfold EY
 split
 ·exact Ax (GV _) λa=>Ax (VS _ _) λp=>AA _
 ·exact Ax (GV _) λa=>Ax (VS _ _) λp=>AA _
 ·exact Ax (Ec_ _) λa=>Ax (Rr_ _ _) λp=>AA _
 ·exact Az
theorem Hv_: ∀(l:List FieldStep) (t:Nat) (v:Value) (b:Bool),Loc (Kn E l t v b)
 |[],_,_,_=>AA _
 |s::l,_,v,b=>Ax (Aip_ s v b) λ_p=>Hv_ l _ _ _
theorem Afg_ (t:Nat)(v:Value)(name:String):Loc (E5 E t v name):=AE _ λ_m=>AE _ λ_fp=>Ax (Hv_ _ _ _ _) λ_q=>Ax (Bx _ _) λ_i=>AK _ (AA _)
theorem EW_ (s:FieldStep)(a:Addr):NoPan (Mc E s a):=AB (BA _ _) λ_i=>AB (ON _ _ _) λ_p=>AL _ (AB (RN _) λ_v=>AH _)
theorem Agz_ (s:FieldStep)(cs:List Value):NoPan (NX E s cs):=AB (BA _ _) λ_i=>AB (ON _ _ _) λ_p=>AB (RB _ _ _ _) λ_v=>AH _
theorem Zg_ (s:FieldStep)(v:Value)(b:Bool):NoPan (EY E s v b):=by
 unfold EY
 split
 ·exact AB (Ha _) λa=>AB (EW_ _ _) λp=>AH _
 ·exact AB (Ha _) λa=>AB (EW_ _ _) λp=>AH _
 ·exact AB (Fc_ _) λa=>AB (Agz_ _ _) λp=>AH _
 ·exact AI
theorem Aj_: ∀(l:List FieldStep) (t:Nat) (v:Value) (b:Bool),NoPan (Kn E l t v b)
 |[],_,_,_=>AH _
 |s::l,_,v,b=>AB (Zg_ s v b) λ_p=>Aj_ l _ _ _
theorem AcB_ (t:Nat)(v:Value)(name:String):NoPan (E5 E t v name):=AJ _ λ_m=>AJ _ λ_fp=>AB (Aj_ _ _ _ _) λ_q=>AB (BA _ _) λ_i=>AL _ (AH _)
def PlR (r:Inj)(b:Bool)(v:Value)(p:Place):Prop:=
 match b,p with
 |false, .val v'=>VR r v v'
 |true, .var a'=> ∃a,v= .pointer (some a)/\AR r a a'
 |_,_=>False
theorem BS_ {w:World}{r:Inj}{s s':St}{st:FieldStep}{a a2:Addr}{p:Nat×Value}(he:EnvTy E)(h:Mc E st a s= .some p s')(ha:AR r a a2):
  s=s'/\ ∃fs fd a3,(underlying st.struct).run E.P w= .ok (.struct fs) w/\fs[st.index]?=some fd/\p.1=fd.type/\(fieldPlace a2 fd).run E.P w= .ok a3 w/\PlR r true p.2 (.var a3):=by
 obtain⟨i,s1,h1,h2⟩:=bind_some h
 obtain⟨hi,rfl⟩:=Bh h1 he
 obtain⟨q,s2,h5,h6⟩:=bind_some h2
 obtain⟨h7,h8⟩:=By h6
 obtain⟨v,s3,h9,h10⟩:=bind_some h8
 obtain⟨rfl,rfl⟩:=Ny h9
 obtain⟨rfl,rfl⟩:=AG h10
 obtain⟨rfl,fs,fd,fi,hu,hfd,hfi,rfl⟩:=On he h5
 have hz:fi.size≠0:=by
  intro h0
  simp[h0]at h7
 refine⟨rfl,fs,fd,a2.add fd.offset,by rw[hi.run_und,hu],hfd,rfl, ?_,_,rfl,ha.add _⟩
 simp[fieldPlace,hfi.run_size,hz]
theorem Aci_ {w:World}{r:Inj}{s s':St}{st:FieldStep}{cs:List Value}{cs':Array Value}{p:Nat×Value}(he:EnvTy E)(h:NX E st cs s= .some p s')(hc:VRs r cs cs'.toList):
  s=s'/\ ∃fs fd v',(underlying st.struct).run E.P w= .ok (.struct fs) w/\fs[st.index]?=some fd/\p.1=fd.type/\(part fd.type cs' fd.offset).run E.P w= .ok v' w/\VR r p.2 v':=by
 obtain⟨i,s1,h1,h2⟩:=bind_some h
 obtain⟨hi,rfl⟩:=Bh h1 he
 obtain⟨q,s2,h5,h6⟩:=bind_some h2
 obtain⟨v,s3,h9,h10⟩:=bind_some h6
 obtain⟨rfl,rfl⟩:=AG h10
 obtain⟨rfl,fs,fd,fi,hu,hfd,hfi,rfl⟩:=On he h5
 obtain⟨rfl,v',g1,g2⟩:=SJ (w:=w) he h9 hc
 exact⟨rfl,fs,fd,v',by rw[hi.run_und,hu],hfd,rfl,g1,g2⟩
theorem LQ_ {w:World}{r:Inj}{s s':St}{st:FieldStep}{v:Value}{b:Bool}{p:Nat×Value×Bool}(he:EnvTy E)(h:EY E st v b s= .some p s'){pl:Place}(hp:PlR r b v pl)(t:Nat)(rest:List FieldStep):
  s=s'/\ ∃pl',(follow (st::rest) t pl).run E.P w=(follow rest p.1 pl').run E.P w/\PlR r p.2.2 p.2.1 pl':=by
 unfold EY at h
 generalize e:st.deref=dr at h
 match dr,b,h,hp with
 |true,false,h,hp=>
  obtain⟨a,s1,h1,h2⟩:=bind_some h
  obtain⟨rfl,rfl⟩:=H8 h1
  obtain⟨q,s2,h3,h4⟩:=bind_some h2
  obtain⟨rfl,rfl⟩:=AG h4
  cases pl with
  |var a'=>exact hp.elim
  |val v'=>
   obtain⟨a2,rfl,ha2⟩:=VR.ptr_inv hp
   obtain⟨rfl,fs,fd,a3,g1,g2,g3,g4,g5⟩:=BS_ (w:=w) he h3 ha2
   refine⟨rfl, .var a3, ?_,g5⟩
   show(follow (st::rest) t _).run E.P w=(follow rest q.1 _).run E.P w
   rw[g3]
   simp[follow,g1,g2,e,Place.get,asAddr,g4]
 |false,true,h,hp=>
  obtain⟨a,s1,h1,h2⟩:=bind_some h
  obtain⟨rfl,rfl⟩:=H8 h1
  obtain⟨q,s2,h3,h4⟩:=bind_some h2
  obtain⟨rfl,rfl⟩:=AG h4
  cases pl with
  |val v'=>exact hp.elim
  |var a2=>
   obtain⟨a',q1,ha2⟩:=hp
   cases q1
   obtain⟨rfl,fs,fd,a3,g1,g2,g3,g4,g5⟩:=BS_ (w:=w) he h3 ha2
   refine⟨rfl, .var a3, ?_,g5⟩
   show(follow (st::rest) t _).run E.P w=(follow rest q.1 _).run E.P w
   rw[g3]
   simp[follow,g1,g2,e,g4]
 |false,false,h,hp=>
  obtain⟨cs,s1,h1,h2⟩:=bind_some h
  obtain⟨⟨c,rfl,rfl⟩,rfl⟩:=Bs_ h1
  obtain⟨q,s2,h3,h4⟩:=bind_some h2
  obtain⟨rfl,rfl⟩:=AG h4
  cases pl with
  |var a'=>exact hp.elim
  |val v'=>
   obtain⟨c',rfl,hc⟩:=VR.agg_inv hp
   obtain⟨rfl,fs,fd,v2,g1,g2,g3,g4,g5⟩:=Aci_ (w:=w) he h3 hc
   refine⟨rfl, .val v2, ?_,g5⟩
   show(follow (st::rest) t _).run E.P w=(follow rest q.1 _).run E.P w
   rw[g3]
   simp[follow,g1,g2,e,g4]
 |true,true,h,hp=>cases h
theorem EV_ {w:World}{r:Inj}(he:EnvTy E): ∀{l:List FieldStep} {t:Nat} {v:Value} {b:Bool} {pl:Place} {s s':St} {p:Nat×Value×Bool},Kn E l t v b s= .some p s'->PlR r b v pl->
  s=s'/\ ∃pl',(follow l t pl).run E.P w= .ok (p.1,pl') w/\PlR r p.2.2 p.2.1 pl'
 |[],t,v,b,pl,s,s',p,h,hp=>by
  obtain⟨rfl,rfl⟩:=AG (show M.pure (t,v,b) s= .some p s' from h)
  exact⟨rfl,pl,by simp[follow],hp⟩
 |st::l,t,v,b,pl,s,s',p,h,hp=>by
  obtain⟨q,s1,h1,h2⟩:=bind_some (show M.bind (EY E st v b) (λp=>Kn E l p.1 p.2.1 p.2.2) s= .some p s' from h)
  obtain⟨rfl,pl1,g1,g2⟩:=LQ_ (w:=w) he h1 hp t l
  obtain⟨rfl,pl2,g3,g4⟩:=EV_ (w:=w) he h2 g2
  exact⟨rfl,pl2,by rw[g1,g3],g4⟩
theorem Ajj_ {w:World}{r:Inj}(he:EnvTy E){t n:Nat}{v v':Value}{name:String}{s s':St}{p:Nat×Value}(h:E5 E t v name s= .some p s')(hv:VR r v v'):
  s=s'/\ ∃x,(method (n+1) t v' name).run E.P w= .ok (p.1,x) w/\VR r p.2 x:=by
 obtain⟨m,h1,h⟩:=BF h
 obtain⟨fp,h2,h⟩:=BF h
 obtain⟨q,s1,h3,h⟩:=bind_some h
 obtain⟨i,s2,h4,h⟩:=bind_some h
 obtain⟨hi,rfl⟩:=Bh h4 he
 obtain⟨h5,h6⟩:=By h
 obtain⟨rfl,rfl⟩:=AG h6
 obtain⟨rfl,pl,g1,g2⟩:=EV_ (w:=w) (r:=r) he h3 (pl:= .val v') hv
 obtain⟨info,h7,h8⟩:=Eh (show onO (E.P.info? t) (λi=>i.methods.toList.find? λm=>m.name==name)=some m from h1)
 have h9:info.methods.find? (λm=>m.name==name)=some m:=by rw[<-Array.find?_toList];exact h8
 obtain⟨f,pr⟩:=fp
 have key: ∃x,(∀wr,(receiverAt q.1 pl pr wr).run E.P w= .ok x w)/\VR r q.2.1 x:=by
  have hu:=hi.run_und (w:=w)
  generalize i.u=u at h5 hu
  obtain⟨q1,q2,q3⟩:=q
  simp only at h5 hu g2 ⊢
  unfold YB at h5
  split at h5
  ·rename_i e
   rw[Bool.and_eq_true,Bool.not_eq_true']at h5
   obtain⟨h5a,h6a⟩:=h5
   subst h5a
   subst h6a
   cases pl with
   |var a=>exact g2.elim
   |val x=>exact⟨x,λwr=>by simp[receiverAt,hu,Place.get],g2⟩
  ·rename_i hne
   have h5':=eq_of_beq h5
   subst h5'
   have hne2: ∀e,u≠ .pointer e:=λe he=>hne e he
   cases pr with
   |true=>
    cases pl with
    |val x=>exact g2.elim
    |var a=>
     obtain⟨a1,rfl,ha⟩:=g2
     refine⟨.pointer (some a), ?_,ha.ptr⟩
     intro wr
     cases u<;>first|exact absurd rfl (hne2 _)|simp[receiverAt,hu]
   |false=>
    cases pl with
    |var a=>exact g2.elim
    |val x=>
     refine⟨x, ?_,g2⟩
     intro wr
     cases u<;>first|exact absurd rfl (hne2 _)|simp[receiverAt,hu,Place.get]
 obtain⟨x,k1,k2⟩:=key
 refine⟨rfl,x, ?_,k2⟩
 have hti:(typeInfo t).run E.P w= .ok info w:=by simp[typeInfo,program,Sem.run,h7]
 simp[method,hti,h9,g1,h2,k1]
theorem AgF_ (he:EnvTy E){x:Operand}{name:String}{c:Call}(ho:o.op= .call c)(hc:c.callee= .invoke x name):OpS E o (T0 E ds x name c.args.toList) ds:=by
 obtain⟨g,h1,h2⟩:=BC ds x
 obtain⟨g',h3,h4⟩:=Eb ds c.args.toList
 refine⟨λcall round rho tm=>M.on (g rho tm) λf=>M.on (g' rho tm) λl=>Lm E call name f l,by unfold T0;simp only[h1,h3], ?_, ?_⟩
 ·intro call round hc1 hc2 rho tm
  refine AE _ λf=>AE _ λl=> ?_
  unfold Lm
  split
  ·exact Ax (Afg_ _ _ _) λp=>hc1.loc _ _
  ·exact Az
 ·intro call round hc1 hc2 w0 w r U rho tm b t dfs cs base s out s' hs hu hr hx hb hf e ops i rest k hoi hw
  have on': ∀{α β:Type} {y:Option α} {f:α->M β} {o:Out β} {s s':St},M.on y f s=rOf o s'-> ∃a,y=some a/\f a s=rOf o s':=by
   intro α β y f o s s' h
   cases y with
   |none=>exact(A7 h).elim
   |some a=>exact⟨a,rfl,h⟩
  obtain⟨fv,e1,e⟩:=on' e
  obtain⟨l,e2,e⟩:=on' e
  have hfv:=h2 _ _ _ _ ⟨t,dfs⟩ _ hs (λt q=>hu t (by simp[ho,Op.operands,Call.operands,hc]at q ⊢;simp[q])) e1
  have hl:VRs r l (c.args.toList.map (Act.eval ⟨t,dfs⟩)):=h4 _ _ _ _ ⟨t,dfs⟩ _ hs (λt q=>hu t (by simp[ho,Op.operands,Call.operands]at q ⊢;simp[q])) e2
  have hmap:c.args.map (Act.eval ⟨t,dfs⟩)=(c.args.toList.map (Act.eval ⟨t,dfs⟩)).toArray:=by rw[<-List.map_toArray]
  have hd: ∀c,o.op≠ .defer c:=by rw[ho];intro c h;cases h
  unfold Lm at e
  split at e
  ·rename_i ty v _
   have hbind: ∃p s1,E5 E ty v name s= .some p s1/\call p.1 (p.2::l) s1=rOf out s':=by
    have e':(match E5 E ty v name s with| .none=>R.none| .some p s1=>call p.1 (p.2::l) s1| .pan c s1=> .pan c s1)=rOf out s':=by
     rw[<-e]
     unfold M.bind
     cases E5 E ty v name s<;>rfl
    cases e3:E5 E ty v name s with
    |none=>rw[e3]at e';exact(A7 e').elim
    |some p s1=>rw[e3]at e';exact⟨p,s1,rfl,e'⟩
    |pan c s1=>exact((AcB_ _ _ _).no _ _ _ e3).elim
   obtain⟨p,s1,e3,e4⟩:=hbind
   have inv: ∀{z:Value},VR r (.iface ty v) z-> ∃v',z= .iface ty v'/\VR r v v':=by
    intro z hz
    cases hz with
    |iface h=>exact⟨_,rfl,h⟩
   obtain⟨v',hrecv,hv⟩:=inv hfv
   ·skip
    have hfuel: ∀z:Nat,z+Made.depth=(z+99)+1:=λz=>rfl
    obtain⟨rfl,rv,m1,m2⟩:=Ajj_ (w:=w) (n:=E.P.types.size+99) he e3 hv
    have hm: ∀(args:Array Value),(callMethod (.iface ty v') name args).run E.P w=(callFunc p.1 (#[rv]++args)).run E.P w:=by
     intro args
     unfold callMethod
     simp only[Sem.run_bind,run_program,Result.andThen_ok]
     rw[hfuel,m1]
     simp only[Result.andThen_ok]
    have e1:(#[rv]++c.args.map (Act.eval ⟨t,dfs⟩))=(rv::c.args.toList.map (Act.eval ⟨t,dfs⟩)).toArray:=by
     rw[hmap];simp
    have hexec:(execOp (Act.eval ⟨t,dfs⟩) o).run E.P w=(callFunc p.1 (rv::c.args.toList.map (Act.eval ⟨t,dfs⟩)).toArray).run E.P w:=by
     rw[<-e1,<-hm]
     simp only[execOp,ho,resolve,hc,hrecv]
     have hz: ∀(y:Value) (l:Array Value),(#[y]++l)[0]?=some y:=λy l=>(Array.getElem?_append_left (by simp)).trans rfl
     have hz2: ∀(y:Value) (l:Array Value),(#[y]++l).extract 1 (#[y]++l).size=l:=λy l=>by
      simp[Array.extract_append]
     simp only[invoke,Sem.run_bind,Sem.run_pure,Result.andThen_ok,hz,hz2]
    rcases hc1.ok e4 hr hb hf (args':=rv::c.args.toList.map (Act.eval ⟨t,dfs⟩)) (.cons m2 hl)with⟨k1,k2⟩|⟨_,v,v',w',r',rfl,g1,g2,g3,g4,g5⟩
    case inr=>
     refine⟨w',r',dfs,cs,g2,by rw[g4];exact hx.mono g2.le,g3,v',g1, .one (step_lone_go ?_)⟩
     rw[Es hoi hw (.inr hd),<-Ev b t dfs hoi]
     rw[g5]at hexec
     simp[stepG.apply,hexec]
    obtain⟨w',r',g1,g2,g3,g4⟩:=k2 (frm b t dfs (.inRegion ops (i::rest)::k)) cs
    have henter:step E.P (lone (frm b t dfs (.inRegion ops (i::rest)::k)) cs w)=
      .next (lone (Frame.enter E.P p.1 (rv::c.args.toList.map (Act.eval ⟨t,dfs⟩)).toArray .normal) (frm b t dfs (.inRegion ops (i::rest)::k)::cs) w):=by
     refine step_lone_go ?_
     rw[Es hoi hw (.inr hd)]
     rw[k1]at hexec
     simp[stepG.apply,hexec,frm]
    refine⟨w',r',dfs,cs,g1,by rw[g3];exact hx.mono g1.le,g2, ?_⟩
    unfold Ends at g4
    cases out with
    |inl v=>
     obtain⟨v',p1,p2⟩:=g4
     rw[Ev b t dfs hoi]at p2
     exact⟨v',p1, .head henter p2⟩
    |inr ch=>
     obtain⟨ch',p1,p2⟩:=g4
     exact⟨ch',_,p1, .head henter p2⟩
  ·exact(A7 e).elim
end
section
variable {E:Env}{ds:List Nat}{o:Oper}
theorem EQ {α:Type}{g:Option α}{f:α->M Value}(h: ∀a,Loc (f a)):Loc (λs=>Option.rec (motive:=λ_=>R Value) .none (λa=>f a s) g):=by
 cases g with
 |none=>exact EU_
 |some a=>exact h a
theorem Ws_ {α:Type}{x:Option α}{f:α->St->R Value}{s s':St}{out:Out Value}(h:Option.rec (motive:=λ_=>R Value) .none (λa=>f a s) x=rOf out s'): ∃a,x=some a/\f a s=rOf out s':=by
 cases x with
 |none=>exact(A7 h).elim
 |some a=>exact⟨a,rfl,h⟩
theorem Zc_ {α:Type}{b:Bool}{m:M α}{o:Out α}{s s':St}(h:M.chk b m s=rOf o s'):b=true/\m s=rOf o s':=by
 cases b with
 |false=>exact(A7 h).elim
 |true=>exact⟨rfl,h⟩
theorem Hg {α β:Type}{y:Option α}{f:α->M β}{o:Out β}{s s':St}(h:M.on y f s=rOf o s'): ∃a,y=some a/\f a s=rOf o s':=by
 cases y with
 |none=>exact(A7 h).elim
 |some a=>exact⟨a,rfl,h⟩
theorem CE {α β:Type}{m:M α}{f:α->M β}{o:Out β}{s s':St}(h:M.bind m f s=rOf o s'):(∃a s1,m s= .some a s1/\f a s1=rOf o s')\/ ∃c,m s= .pan c s'/\o= .inr c:=by
 unfold M.bind at h
 cases e:m s with
 |none=>rw[e]at h;exact(A7 h).elim
 |some a s1=>rw[e]at h;exact .inl ⟨a,s1,rfl,h⟩
 |pan c s1=>
  rw[e]at h
  obtain⟨rfl,rfl⟩:=Jf h
  exact .inr ⟨c,rfl,rfl⟩
theorem QP {β:Type}{f:Ctx->M β}{s:St}:M.bind getCx f s=f s.cx s:=rfl
theorem Akd_ {β:Type}{x:Ctx}{f:Unit->M β}{s:St}:M.bind (putCx x) f s=f () ⟨s.mem,s.next,s.lim,s.rd,s.wr,x⟩:=rfl
theorem Rf_ {x:Operand}(ho:o.op= .panic x):OpS E o (Bw ds x H2) ds:=by
 obtain⟨g,h1,h2⟩:=BC ds x
 refine⟨_,by unfold Bw;rw[h1],λcall round _ _ rho tm=>EQ λa=> ?_, ?_⟩
 ·cases a<;>first|exact Vb _|exact Az
 ·intro call round hc1 hc2 w0 w r U rho tm b t dfs cs base s out s' hs hu hr hx hb hf e ops i rest k hoi hw
  obtain⟨v,e1,e⟩:=Ws_ e
  have hv:VR r v (Act.eval ⟨t,dfs⟩ x):=h2 _ _ _ _ ⟨t,dfs⟩ _ hs (λt q=>hu t (by simp[ho,Op.operands]at q ⊢;simp[q])) e1
  have hd: ∀c,o.op≠ .defer c:=by rw[ho];intro c h;cases h
  cases v with
  |iface ty y=>
   obtain⟨rfl,rfl⟩:=Jf (show R.pan [{v:= .iface ty y,recovered:=false}] s=rOf out s' from e)
   cases hv':Act.eval ⟨t,dfs⟩ x with
   |iface ty' y'=>
    rw[hv']at hv
    refine⟨w,r,dfs,cs, .of_rel rfl hr,hx,rfl,[{v:= .iface ty' y',recovered:=false}], .inRegion ops (i::rest)::k, .cons hv rfl rfl .nil, .one (step_lone_go ?_)⟩
    rw[Es hoi hw (.inr hd)]
    simp only[execOp,ho,hv']
    rw[<-Abf_]
    simp[stepG.apply,Instr.panic,goPanic,Sem.run]
   |_=>rw[hv']at hv;cases hv
  |_=>exact(A7 e).elim
theorem Afn_ {c:Call}(ho:o.op= .call c)(hc:c.callee= .builtin .recover):OpS E o (.mk λ_ _ _ _=>Fh) ds:=by
 refine⟨_,rfl,λ_ _ _ _ _ _=>LP_, ?_⟩
 intro call round hc1 hc2 w0 w r U rho tm b t dfs cs base s out s' hs hu hr hx hb hf e ops i rest k hoi hw
 have hd: ∀c,o.op≠ .defer c:=by rw[ho];intro c h;cases h
 have hrun:(execOp (Act.eval ⟨t,dfs⟩) o).run E.P w= .ok .recover w:=by
  simp[execOp,ho,resolve,hc,invoke,builtin]
 have key: ∀{v v':Value} {cs':List Frame},b.roundOf=none->((tryRecover (frm b t dfs (.inRegion ops (i::rest)::k)) cs=some (v',cs'))\/(tryRecover (frm b t dfs (.inRegion ops (i::rest)::k)) cs=none/\v'= .nilIface/\cs'=cs))->
   step E.P (lone (frm b t dfs (.inRegion ops (i::rest)::k)) cs w)= .next (lone (frm b (putT t o.dst v') dfs (.inRegion ops rest::k)) cs' w):=by
  intro v v' cs' hro htr
  refine step_lone_go ?_
  rw[Es hoi hw (.inr hd),<-Ev b t dfs hoi]
  have hro':(frm b t dfs (.inRegion ops (i::rest)::k)).roundOf=none:=hro
  rcases htr with htr|⟨htr,rfl,rfl⟩<;>simp[stepG.apply,hrun,hro',htr]
 unfold Fh at e
 rw[QP]at e
 have fin:(∃m d,s.cx= .cx (some m) (some d))\/(∃d,s.cx= .cx none (some d)):=by
  cases hcx:s.cx with
  |no=>rw[hcx]at e;exact(A7 e).elim
  |cx up d=>
   cases d with
   |none=>rw[hcx]at e;cases up<;>exact(A7 e).elim
   |some d=>cases up with
    |none=>exact .inr ⟨d,rfl⟩
    |some m=>exact .inl ⟨m,d,rfl⟩
 rcases fin with⟨m,d,hcx⟩|⟨d,hcx⟩
 ·rw[hcx]at hx e
  unfold CxR at hx
  obtain⟨⟨q1,c0,rest0,m',q2,q3,q4⟩,q5,q6⟩:=hx
  have htry:=tryRecover_deferred (fr:=frm b t dfs (.inRegion ops (i::rest)::k)) q1 cs
  cases hrm:recM m with
  |none=>
   replace e:Option.rec (motive:=λ_=>M Value) (M.pure .nilIface) (λp=>M.bind (putCx (.cx (some p.2) (some d))) λ_=>M.pure p.1) (recM m) s=rOf out s':=e
   rw[hrm]at e
   obtain⟨rfl,rfl⟩:=Bv (show R.some .nilIface s=rOf out s' from e)
   refine⟨w,r,dfs,cs, .of_rel rfl hr, ?_,rfl, .nilIface, .nilIface, .one (key (v:= .nilIface) q5 (.inr ⟨?_,rfl,rfl⟩))⟩
   ·rw[hcx];exact⟨⟨q1,c0,rest0,m',q2,q3,q4⟩,q5,q6⟩
   ·rw[htry,q3]
    cases q4 with
    |run=>rfl
    |ret=>rfl
    |pan hch=>
     cases hch with
     |nil=>rfl
     | @cons e0 e1 l0 l1 p1 p2 p3 p4=>
      obtain⟨ev,er,eg⟩:=e0
      obtain⟨ev',er',eg'⟩:=e1
      simp only at p1 p2 p3
      subst p2
      subst p3
      cases er'<;>cases eg'<;>first|rfl|(simp[recM]at hrm)
  |some p=>
   replace e:Option.rec (motive:=λ_=>M Value) (M.pure .nilIface) (λp=>M.bind (putCx (.cx (some p.2) (some d))) λ_=>M.pure p.1) (recM m) s=rOf out s':=e
   rw[hrm]at e
   obtain⟨pv,pm⟩:=p
   obtain⟨rfl,rfl⟩:=Bv (show R.some pv ⟨s.mem,s.next,s.lim,s.rd,s.wr, .cx (some pm) (some d)⟩=rOf out s' from e)
   unfold recM at hrm
   split at hrm
   ·rename_i v older
    simp only[Option.some.injEq,Prod.mk.injEq]at hrm
    obtain⟨rfl,rfl⟩:=hrm
    cases q4 with
    |pan hch=>
     cases hch with
     | @cons _ e1 _ l1 p1 p2 p3 p4=>
      obtain⟨ev,er,eg⟩:=e1
      simp only at p1 p2 p3
      subst p2
      subst p3
      refine⟨w,r,dfs,{c0 with mode:= .panicking ({v:=ev,recovered:=true}::l1)}::rest0, .of_rel rfl hr, ?_,rfl,ev,p1, .one (key (v:=v) q5 (.inl ?_))⟩
      ·exact⟨⟨q1,c0,rest0,_,q2,rfl, .pan (.cons p1 rfl rfl p4)⟩,q5,q6⟩
      ·rw[htry,q3];rfl
   ·cases hrm
 ·rw[hcx]at hx e
  unfold CxR at hx
  obtain⟨⟨q1,q2⟩,q5,q6⟩:=hx
  obtain⟨rfl,rfl⟩:=Bv (show R.some .nilIface s=rOf out s' from e)
  refine⟨w,r,dfs,cs, .of_rel rfl hr, ?_,rfl, .nilIface, .nilIface, .one (key (v:= .nilIface) q5 (.inr ⟨?_,rfl,rfl⟩))⟩
  ·rw[hcx];exact⟨⟨q1,q2⟩,q5,q6⟩
  ·have hk:(frm b t dfs (.inRegion ops (i::rest)::k)).kind= .normal:=q1
   unfold tryRecover
   rw[hk]
theorem LK_ {x:Operand}{c:Call}(ho:o.op= .defer c)(hc:c.callee= .value x):OpS E o (NK ds c) ds:=by
 obtain⟨g,h1,h2⟩:=BC ds x
 obtain⟨g',h3,h4⟩:=Eb ds c.args.toList
 refine⟨λcall round rho tm=>M.on (g rho tm) λf=>M.on (g' rho tm) λl=>Ft f l,by unfold NK;simp only[hc,h1,h3], ?_, ?_⟩
 ·intro call round _ _ rho tm
  exact AE _ λf=>AE _ λl=>AhZ_ _ _
 ·intro call round hc1 hc2 w0 w r U rho tm b t dfs cs base s out s' hs hu hr hx hb hf e ops i rest k hoi hw
  obtain⟨fv,e1,e⟩:=Hg e
  obtain⟨l,e2,e⟩:=Hg e
  have hfv:=h2 _ _ _ _ ⟨t,dfs⟩ _ hs (λt q=>hu t (by simp[ho,Op.operands,Call.operands,hc]at q ⊢;simp[q])) e1
  have hl:VRs r l (c.args.toList.map (Act.eval ⟨t,dfs⟩)):=h4 _ _ _ _ ⟨t,dfs⟩ _ hs (λt q=>hu t (by simp[ho,Op.operands,Call.operands]at q ⊢;simp[q])) e2
  have hmap:c.args.map (Act.eval ⟨t,dfs⟩)=(c.args.toList.map (Act.eval ⟨t,dfs⟩)).toArray:=by rw[<-List.map_toArray]
  unfold Ft at e
  rw[QP]at e
  have fin: ∃up d fn first cap,s.cx= .cx up (some d)/\fv= .func fn first cap:=by
   cases hcx:s.cx with
   |no=>rw[hcx]at e;cases fv<;>exact(A7 e).elim
   |cx up d=>
    cases d with
    |none=>rw[hcx]at e;cases fv<;>exact(A7 e).elim
    |some d=>cases fv with
     |func fn first cap=>exact⟨up,d,fn,first,cap,rfl,rfl⟩
     |_=>rw[hcx]at e;exact(A7 e).elim
  obtain⟨up,d,fn,first,cap,hcx,rfl⟩:=fin
  ·rw[hcx]at e
   obtain⟨f',a',c',q1,q2,q3,q4⟩:=hfv.func_inv
   obtain⟨rfl,rfl⟩:=Bv (show R.some undef ⟨s.mem,s.next,s.lim,s.rd,s.wr, .cx up (some ({target:= .fn fn cap,args:=first++l.toArray}::d))⟩=rOf out s' from e)
   rw[hcx]at hx
   unfold CxR at hx
   obtain⟨p1,p2,p3⟩:=hx
   refine⟨w,r,{target:= .fn f' c',args:=a'++c.args.map (Act.eval ⟨t,dfs⟩)}::dfs,cs, .of_rel rfl hr,⟨p1,p2, .cons (.fn q2 q4 ?_) p3⟩,rfl,undef, .undef, .one (step_lone_go ?_)⟩
   ·rw[hmap];simpa using q3.append hl
   ·rw[Es hoi hw (.inl p2)]
    simp only[execOp,ho,JG _ hc q1]
    rw[<-Ev b t _ hoi]
    simp[stepG.apply,frm]
theorem DB_ {k:Int->Int->St->R Value}{slow:Value->Value->M Value}(hk: ∀a b,Loc (k a b))(hs: ∀x y,Loc (slow x y))(x y:Value):Loc (int2 k slow x y):=by
 unfold int2 CI
 cases x
 case int k1 a=>
  cases y
  case int k2 b=>
   cases h1:Ep k1 with
   |false=>simp only[h1];exact hs _ _
   |true=>
    cases h2:Ep k2 with
    |false=>simp only[h1,h2];exact hs _ _
    |true=>simp only[h1,h2];exact hk a b
  all_goals exact hs _ _
 all_goals exact hs _ _
theorem TX {k:CL}{slow:Value->Value->M Value}(hs: ∀x y,Loc (slow x y))(x y:Value):Loc (int3 k slow x y):=by
 unfold int3 CI
 cases x
 case int k1 a=>
  cases y
  case int k2 b=>
   cases a with
   |negSucc m=>exact hs _ _
   |ofNat m=>
    cases b with
    |negSucc n=>exact hs _ _
    |ofNat n=>
     simp only
     cases k k1 k2 m n with
     |none=>exact hs _ _
     |some u=>exact AA _
  all_goals exact hs _ _
 all_goals exact hs _ _
theorem SR_ {op:BinOp}{t:Nat}{x y:Operand}{f:Value->Value->M Value}(h:aBin E op t x y= .mk f): ∀a b,Loc (f a b):=by
 have slow: ∀op a b,Loc (Bi E op t x y a b):=λop a b=>WY_ _ _ _ _ _ _ _
 have rI': ∀n,Loc (rI n):=λn=>by
  have:rI n=(M.pure (.int .i64 (wrap64 n)):M Value):=by funext s;unfold rI;rw[Ew];rfl
  rw[this];exact AA _
 have rB': ∀b,Loc (rB b):=λb=>by cases b<;>exact AA _
 intro a b
 cases op<;>cases h<;>first|exact slow _ _ _|exact TX (slow _) _ _|exact DB_ (λa b=>rI' _) (TX (slow _)) _ _|exact DB_ (λa b=>rB' _) (TX (slow _)) _ _
theorem Cy_ {x:Operand}: ∀f,Ff ds x= .mk f-> ∀call round rho tm,Loc (f call round rho tm):=by
 obtain⟨g,h1,_⟩:=BC ds x
 intro f h
 unfold Ff at h
 rw[h1]at h
 cases h
 exact λ_ _ _ _=>EQ (f:=λa=>M.pure a) λa=>AA a
theorem C8 {x:Operand}{k:Value->M Value}(hk: ∀a,Loc (k a)): ∀f,Bw ds x k= .mk f-> ∀call round rho tm,Loc (f call round rho tm):=by
 obtain⟨g,h1,_⟩:=BC ds x
 intro f h
 unfold Bw at h
 rw[h1]at h
 cases h
 exact λ_ _ _ _=>EQ hk
theorem F3 {x y:Operand}{k:Value->Value->M Value}(hk: ∀a b,Loc (k a b)): ∀f,Cz ds x y k= .mk f-> ∀call round rho tm,Loc (f call round rho tm):=by
 obtain⟨g,h1,_⟩:=BC ds x
 obtain⟨g',h2,_⟩:=BC ds y
 intro f h
 unfold Cz at h
 rw[h1,h2]at h
 cases h
 exact λ_ _ rho tm=>EQ (f:=λa s=>Option.rec (motive:=λ_=>R Value) .none (λb=>k a b s) (g' rho tm)) λa=>EQ (hk a)
theorem Xn_ {l:List Operand}{k:List Value->M Value}(hk: ∀a,Loc (k a)): ∀f,Hm ds l k= .mk f-> ∀call round rho tm,Loc (f call round rho tm):=by
 obtain⟨g,h1,_⟩:=Eb ds l
 intro f h
 unfold Hm at h
 rw[h1]at h
 cases h
 exact λ_ _ _ _=>EQ hk
theorem Aaj_ {l l':List Operand}{k:List Value->List Value->M Value}(hk: ∀a b,Loc (k a b)): ∀f,JH ds l l' k= .mk f-> ∀call round rho tm,Loc (f call round rho tm):=by
 obtain⟨g,h1,_⟩:=Eb ds l
 obtain⟨g',h2,_⟩:=Eb ds l'
 intro f h
 unfold JH at h
 rw[h1,h2]at h
 cases h
 exact λ_ _ rho tm=>EQ (f:=λa s=>Option.rec (motive:=λ_=>R Value) .none (λb=>k a b s) (g' rho tm)) λa=>EQ (hk a)
theorem Xd {l:List (Nat×Operand)}{k:List (Nat×Value)->M Value}(hk: ∀a,Loc (k a)): ∀f,Fc ds l k= .mk f-> ∀call round rho tm,Loc (f call round rho tm):=by
 obtain⟨g,h1,_⟩:=Uz ds l
 intro f h
 unfold Fc at h
 rw[h1]at h
 cases h
 exact λ_ _ _ _=>EQ hk
theorem O8 {x y z:Operand}{k:Value->Value->Value->M Value}(hk: ∀a b c,Loc (k a b c)): ∀f,Df ds x y z k= .mk f-> ∀call round rho tm,Loc (f call round rho tm):=by
 obtain⟨g,h1,_⟩:=BC ds x
 obtain⟨g',h2,_⟩:=BC ds y
 obtain⟨g2,h3,_⟩:=BC ds z
 intro f h
 unfold Df at h
 rw[h1,h2,h3]at h
 cases h
 exact λ_ _ rho tm=>AE _ λa=>AE _ λb=>AE _ λc=>hk a b c
theorem Aaw_ {t:Nat}{x:Operand}{lo hi mx:Option Operand}: ∀f,JJ E ds t x lo hi mx= .mk f-> ∀call round rho tm,Loc (f call round rho tm):=by
 cases mx with
 |some m=>intro f h;cases h;exact λ_ _ _ _=>Az
 |none=>
  obtain⟨g,h1,_⟩:=BC ds x
  obtain⟨g',h2,_⟩:=LB ds lo
  obtain⟨g2,h3,_⟩:=LB ds hi
  intro f h
  unfold JJ Rl at h
  simp only[h1,h2,h3]at h
  cases h
  exact λ_ _ rho tm=>AE _ λa=>AE _ λb=>AE _ λc=>Ty_ _ _ _ _ _
theorem Y9:OpS E o Og ds:=⟨_,rfl,λ_ _ _ _ _ _=>Az,λ_call _round _ _ _w0 _w _r _U _rho _tm _b _t _dfs _cs _base _s _out _s' _hs _hu _hr _hx _hb _hf e=>(A7 e).elim⟩
theorem Aeo_ (he:EnvTy E)(o:Oper)(ds:List Nat):OpS E o (DA E ds o.op) ds:=by
 have nd: ∀{p:Op},o.op=p->(∀c,p≠ .defer c)-> ∀c,o.op≠ .defer c:=λh k c=>by rw[h];exact k c
 generalize hop:o.op=op
 unfold DA
 split
 ·exact .ofV (Wz_ hop) (nd hop (by intro c h;cases h)) Cy_
 ·exact .ofV (TW_ hop) (nd hop (by intro c h;cases h)) Cy_
 ·exact .ofV (Wo_ hop) (nd hop (by intro c h;cases h)) (O8 MP_)
 ·exact .ofV (Uo_ hop he) (nd hop (by intro c h;cases h)) (by intro f h;cases h;exact λ_ _ _ _=>QD_ _ _)
 ·exact .ofV (Akn_ hop) (nd hop (by intro c h;cases h)) (C8 QZ_)
 ·exact .ofV (TL_ hop he) (nd hop (by intro c h;cases h)) (Xd λa=>KA_ _ _ _)
 ·exact .ofV (AiH_ hop he) (nd hop (by intro c h;cases h)) (Xd λa=>Yl_ _ _ _ _)
 ·exact .ofV (UD_ hop he) (nd hop (by intro c h;cases h)) (C8 λa=>Ui_ _ _ _)
 ·exact .ofV (OO_ hop he) (nd hop (by intro c h;cases h)) (F3 λa b=>Qr_ _ _ _ _)
 ·exact .ofV (SU_ hop) (nd hop (by intro c h;cases h)) (C8 AbV_)
 ·refine .ofV (QY_ hop he) (nd hop (by intro c h;cases h)) ?_
  rename_i op t x y yt
  generalize hc:aBin E op t x y=c
  obtain⟨f⟩:=c
  exact F3 (SR_ hc)
 ·exact .ofV (Agc_ hop) (nd hop (by intro c h;cases h)) (C8 λa=>Aba_ _ _ _)
 ·exact .ofV (QQ_ hop he) (nd hop (by intro c h;cases h)) (C8 λa=>AdU_ _ _ _ _)
 ·exact .ofV (OK_ hop he) (nd hop (by intro c h;cases h)) (C8 λa=>AjV_ _ _ _)
 ·exact .ofV (Aby_ hop he) (nd hop (by intro c h;cases h)) (C8 λa=>Ala_ _ _ _)
 ·exact .ofV (Kw_ hop) (nd hop (by intro c h;cases h)) (Aaj_ λa b=>AA _)
 ·exact .ofV (Ada_ hop he) (nd hop (by intro c h;cases h)) (F3 λa b=>Sb_ _ _ _ _)
 ·exact .ofV (AkV_ hop he) (nd hop (by intro c h;cases h)) Aaw_
 ·exact .ofV (Acx_ hop he) (nd hop (by intro c h;cases h)) (C8 λa=>Qd_ _ _ _ _)
 ·exact .ofV (Na_ hop he) (nd hop (by intro c h;cases h)) (C8 λa=>Aal_ _ _ _ _)
 ·exact .ofV (Zh_ hop he) (nd hop (by intro c h;cases h)) (F3 λa b=>NN_ _ _ _ _)
 ·exact .ofV (AiU_ hop he) (nd hop (by intro c h;cases h)) (F3 λa b=>Me_ _ _ _ _)
 ·exact .ofV (Abu_ hop) (nd hop (by intro c h;cases h)) (C8 λa=>We_ _ _)
 ·rename_i c
  cases hc:c.callee with
  |value f=>unfold G3;simp only[hc];exact WF_ hop hc
  |invoke a b=>unfold G3;simp only[hc];exact AgF_ he hop hc
  |builtin bi=>
   by_cases hbr:bi= .recover
   ·subst hbr;unfold G3;simp only[hc];exact Afn_ hop hc
   ·have:G3 E ds c=Hm ds c.args.toList (A6 E bi c.argTypes.toList):=by
     unfold G3
     rw[hc]
     cases bi<;>first|rfl|exact absurd rfl hbr
    rw[this]
    exact .ofV (Ahc_ hop hc hbr he) (nd hop (by intro c h;cases h)) (Xn_ λa=>AaA_ _ _ _ _)
 ·exact Rf_ hop
 ·rename_i c
  cases hc:c.callee with
  |value f=>exact LK_ hop hc
  |_=>unfold NK;simp only[hc];exact Y9
 ·exact .ofV (Tp_ hop he) (nd hop (by intro c h;cases h)) (C8 λa=>SQ_ _ _ _ _)
 ·exact .ofV (PB_ hop he) (nd hop (by intro c h;cases h)) (C8 λa=>AeM_ _ _ _)
 ·exact .ofV (Abt_ hop) (nd hop (by intro c h;cases h)) (C8 λa=>Alh_ _)
 ·exact .ofV (NX_ hop) (nd hop (by intro c h;cases h)) (by intro f h;cases h;exact λ_ _ _ _=>HF_)
 ·exact .ofV (Lq_ hop he) (nd hop (by intro c h;cases h)) (C8 λa=>Ahj_ _ _ _)
 ·exact .ofV (AhY_ hop he) (nd hop (by intro c h;cases h)) (F3 λa b=>AjP_ _ _ _ _ _)
 ·exact .ofV (AfY_ hop he) (nd hop (by intro c h;cases h)) (O8 λa b c=>Bh_ _ _ _ _ _)
 ·exact .ofV (On_ hop he) (nd hop (by intro c h;cases h)) (O8 λa b c=>Bh_ _ _ _ _ _)
 ·exact .ofV (ZT_ hop he) (nd hop (by intro c h;cases h)) (F3 λa b=>Aeu_ _ _ _ _)
 ·exact .ofV (Lv_ hop) (nd hop (by intro c h;cases h)) (O8 λa b c=>TR_ _ _ _)
 ·exact Y9
end
end Go.Proofs.Ytofanlcjeohcjaa.Am
