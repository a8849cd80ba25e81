import Derived.Test.YtheboekhpelhlaaDSb03
import Derived.Recover
namespace Go.Proofs.Ytheboekhpelhlaa.Am
open Go.RowKit
section
variable {E:Env}{ds:List Nat}{o:Oper}
theorem AdM_ {x:Operand}(ho:o.op= .move x):OpV E o (ES ds x) ds:=En_ (by simp[ho,Op.operands]) λa=>by simp only[execOp,ho]
theorem AcS_ {x:Operand}(ho:o.op= .assign x):OpV E o (ES ds x) ds:=En_ (by simp[ho,Op.operands]) λa=>by simp only[execOp,ho]
theorem VA_ {e:Nat}(ho:o.op= .alloc e)(he:EnvTy E):OpV E o (.mk λ_ _ _ _=>CM E e) ds:=by
 refine⟨_,rfl,λ_ _ _ _=>Zy_ _ _, ?_⟩
 intro call round w0 w r U rho tm a s v s' hs hu hr h hf
 exact(Ada_ he h hr hf).val (by simp only[execOp,ho];rfl)
theorem Agh_ {e:Nat}{x:Operand}(ho:o.op= .box e x):OpV E o (A7 ds x kBox) ds:=
 Dl (m:=Instr.box e) (by simp[ho,Op.operands]) (λa=>by simp only[execOp,ho];rfl) AkR_ λh hr hf hx=>AiA_ h hr hf hx
theorem XD_ {t:Nat}{ps:Array (Nat×Operand)}(ho:o.op= .build t ps)(he:EnvTy E):OpV E o (Fa ds ps.toList (Cz E t)) ds:=
 LF_ (m:=λl=>Instr.build t l.toArray) (by simp[ho,Op.operands]) (λa=>by simp only[execOp,ho];rw[<-List.map_toArray];rfl) (Abh_ _ _) λh hr hf hx=>AdF_ he h hr (by simpa using hx)
theorem Amu_ {t n:Nat}{ps:Array (Nat×Operand)}(ho:o.op= .buildSlice t n ps)(he:EnvTy E):OpV E o (Fa ds ps.toList (BU E t n)) ds:=
 LF_ (m:=λl=>Instr.buildSlice t n l.toArray) (by simp[ho,Op.operands]) (λa=>by simp only[execOp,ho];rw[<-List.map_toArray];rfl) (AnX_ _ _ _) λh hr hf hx=>AcC_ he h hr hf (by simpa using hx)
theorem Acf_ {t:Nat}{x:Operand}(ho:o.op= .load t x)(he:EnvTy E):OpV E o (A7 ds x (Bd E t)) ds:=
 Dl (m:=Instr.loadAt t) (by simp[ho,Op.operands]) (λa=>by simp only[execOp,ho];rfl) (AlU_ _ _) λh hr hf hx=>AbO_ he h hr hx
theorem ZO_ {t:Nat}{x y:Operand}(ho:o.op= .store t x y)(he:EnvTy E):OpV E o (B5 ds x y (Az E t)) ds:=by
 obtain⟨g,h1,h2⟩:=Be ds x
 obtain⟨g',h3,h4⟩:=Be ds y
 refine⟨_,by unfold B5;rw[h1,h3],λ_ _ rho tm=>Dw (g:=g rho tm) (f:=λa s=>Option.rec (motive:=λ_=>R Value) .none (λb=>Az E t a b s) (g' rho tm)) λa=>Dw (Vz_ _ _ a), ?_⟩
 intro call round w0 w r U rho tm a s v s' hs hu hr h hf
 obtain⟨y,e1,e2⟩:=Dd (f:=λa s=>Option.rec (motive:=λ_=>R Value) .none (λb=>Az E t a b s) (g' rho tm)) h
 obtain⟨z,e3,e4⟩:=Dd e2
 obtain⟨rfl,w',k1,k2,k3,k4,k5⟩:=SM_ he e4 hr (h2 _ _ _ _ _ _ hs (λt q=>hu t (by simp[ho,Op.operands]at q ⊢;simp[q])) e1) (h4 _ _ _ _ _ _ hs (λt q=>hu t (by simp[ho,Op.operands]at q ⊢;simp[q])) e3)
 refine⟨undef,w',r, .inr ⟨?_,rfl⟩, .of_rel k3 k2, .tuple rfl (λi v v' e=>by simp at e),k4,k5⟩
 simp[execOp,ho,k1]
theorem Aqm_ {x:Operand}(ho:o.op= .nilCheck x):OpV E o (A7 ds x kNil) ds:=by
 obtain⟨g,h1,h2⟩:=Be ds x
 refine⟨_,by unfold A7;rw[h1],λ_ _ rho tm=>Dw (g:=g rho tm) XP_, ?_⟩
 intro call round w0 w r U rho tm a s v s' hs hu hr h hf
 obtain⟨y,e1,e2⟩:=Dd h
 have hx:=h2 _ _ _ _ _ _ hs (λt q=>hu t (by simp[ho,Op.operands]at q ⊢;simp[q])) e1
 obtain⟨rfl,rfl,e3⟩:=SL_ (P:=E.P) (w:=w) (a:=a) ho rfl e2 hx
 exact⟨_,w,r, .inl e3, .of_rel rfl hr,hx,rfl,rfl⟩
theorem WN_ {op:BinOp}{t yt:Nat}{x y:Operand}(ho:o.op= .binOp op t x y yt)(he:EnvTy E):OpV E o (Cl.rec (motive:=λ_=>Cl OpT) (λf=>B5 ds x y f) (aBin E op t x y)) ds:=by
 generalize hc:aBin E op t x y=c
 obtain⟨f⟩:=c
 refine HZ (m:=λy' z'=>do eqGuard op t x y y' z';binOp op t y' z') (by simp[ho,Op.operands]) (λa=>by simp only[execOp,ho];rfl) (λy' z'=> ?_) λh hr hf hx hy=>YH_ hc he h hr hx hy
 have slow: ∀op,NoPan (AJ E op t x y y' z'):=λop=>YF_ _ _ _ _ _ _ _
 have fast3: ∀(k:Cc) op,NoPan (int3 k (AJ E op t x y) y' z'):=λk op=>⟨λs c s' e=>by
  unfold int3 Ch at e
  cases y'<;>simp only at e
  case int k1 a=>
   cases z'<;>simp only at e
   case int k2 b=>
    cases a with
    |negSucc m=>exact(slow op).no _ _ _ e
    |ofNat m=>
     cases b with
     |negSucc m=>exact(slow op).no _ _ _ e
     |ofNat n=>
      simp only at e
      cases e1:k k1 k2 m n with
      |none=>rw[e1]at e;exact(slow op).no _ _ _ e
      |some u=>rw[e1]at e;cases e
   all_goals exact(slow op).no _ _ _ e
  all_goals exact(slow op).no _ _ _ e⟩
 have fast2: ∀(k:Int->Int->St->R Value) (k3:Cc) op,(∀a b,NoPan (k a b))->NoPan (int2 k (int3 k3 (AJ E op t x y)) y' z'):=λk k3 op hk=>⟨λs c s' e=>by
  have f3:=fast3 k3 op
  unfold int2 Ch at e
  cases y'<;>simp only at e
  case int k1 a=>
   cases z'<;>simp only at e
   case int k2 b=>
    cases e1:DA k1 with
    |false=>rw[e1]at e;exact f3.no _ _ _ e
    |true=>
     cases e2:DA k2 with
     |false=>rw[e1,e2]at e;exact f3.no _ _ _ e
     |true=>rw[e1,e2]at e;exact(hk a b).no _ _ _ e
   all_goals exact f3.no _ _ _ e
  all_goals exact f3.no _ _ _ e⟩
 have rI': ∀n,NoPan (rI n):=λn=>⟨λs c s' e=>by unfold rI at e;rw[Cd]at e;cases e⟩
 have rB': ∀b,NoPan (rB b):=λb=>⟨λs c s' e=>by cases b<;>cases e⟩
 cases op<;>cases hc<;>first|exact slow _|exact fast3 _ _|exact fast2 _ _ _ λa b=>rI' _|exact fast2 _ _ _ λa b=>rB' _
theorem AmZ_ {op:UnOp}{t:Nat}{x:Operand}(ho:o.op= .unOp op t x):OpV E o (A7 ds x (kUn E.P op)) ds:=
 Dl (m:=Op.unary op) (by simp[ho,Op.operands]) (λa=>by simp only[execOp,ho];rfl) (Acb_ _ _) λh hr hf hx=>AaL_ h hr hx
theorem Alh_ {s d:Nat}{x:Operand}(ho:o.op= .convert s d x)(he:EnvTy E):OpV E o (A7 ds x (Ce E s d)) ds:=
 Dl (m:=convert s d) (by simp[ho,Op.operands]) (λa=>by simp only[execOp,ho];rfl) (Aah_ _ _ _) λh hr hf hx=>Ya_ he h hr hf hx
theorem Aex_ {t:Nat}{x:Operand}(ho:o.op= .sliceToArrayPointer t x)(he:EnvTy E):OpV E o (A7 ds x (FT E t)) ds:=
 Dl (m:=Instr.arrayAt t) (by simp[ho,Op.operands]) (λa=>by simp only[execOp,ho];rfl) (Ady_ _ _) λh hr hf hx=>Ajy_ he h hr hx
theorem AeN_ {t:Nat}{x:Operand}(ho:o.op= .makeInterface t x)(he:EnvTy E):OpV E o (A7 ds x (Gl E t)) ds:=
 Dl (m:=Instr.makeInterface t) (by simp[ho,Op.operands]) (λa=>by simp only[execOp,ho];rfl) (Akp_ _ _) λh hr hf hx=>Uo_ he h hr hx
theorem Xl_ {t:Nat}{x y:Operand}(ho:o.op= .makeSlice t x y)(he:EnvTy E):OpV E o (B5 ds x y (Ez E t)) ds:=
 HZ (m:=Instr.makeSlice t) (by simp[ho,Op.operands]) (λa=>by simp only[execOp,ho];rfl) (XR_ _ _) λh hr hf hx hy=>Zd_ he h hr hf hx hy
theorem Ahw_ {t f:Nat}{x:Operand}(ho:o.op= .fieldAddr t x f)(he:EnvTy E):OpV E o (A7 ds x λa=>kFld E t a f) ds:=
 Dl (m:=λx=>Instr.fieldAt t x f) (by simp[ho,Op.operands]) (λa=>by simp only[execOp,ho];rfl) (λy=>Ake_ _ _ y _) λh hr hf hx=>Us_ he h hr hx
theorem ZS_ {t f:Nat}{x:Operand}(ho:o.op= .field t x f)(he:EnvTy E):OpV E o (A7 ds x λa=>Fq E t a f) ds:=
 Dl (m:=λx=>Instr.field t x f) (by simp[ho,Op.operands]) (λa=>by simp only[execOp,ho];rfl) (λy=>AoY_ _ _ y _) λh hr hf hx=>AkA_ he h hr hx
theorem Aey_ {t:Nat}{x y:Operand}(ho:o.op= .indexAddr t x y)(he:EnvTy E):OpV E o (B5 ds x y (B8 E t)) ds:=
 HZ (m:=Instr.indexAt t) (by simp[ho,Op.operands]) (λa=>by simp only[execOp,ho];rfl) (AoU_ _ _) λh hr hf hx hy=>Aee_ he h hr hx hy
theorem Abr_ {t:Nat}{x y:Operand}(ho:o.op= .index t x y)(he:EnvTy E):OpV E o (B5 ds x y (kIdx E t)) ds:=
 HZ (m:=Instr.index t) (by simp[ho,Op.operands]) (λa=>by simp only[execOp,ho];rfl) (AgQ_ _ _) λh hr hf hx hy=>Aag_ he h hr hx hy
theorem Xj_ {k:Nat}{x:Operand}(ho:o.op= .extract x k):OpV E o (A7 ds x (kExt k)) ds:=
 Dl (m:=λx=>Instr.extract x k) (by simp[ho,Op.operands]) (λa=>by simp only[execOp,ho];rfl) (AbY_ _) λh hr hf hx=>Abt_ h hr hx
end
section
variable {E:Env}{ds:List Nat}{o:Oper}
theorem VE_ {x y z:Operand}(ho:o.op= .pick x y z):OpV E o (D8 ds x y z Au) ds:=by
 obtain⟨g,h1,h2⟩:=Be ds x
 obtain⟨g',h3,h4⟩:=Be ds y
 obtain⟨g2,h5,h6⟩:=Be ds z
 refine⟨_,by unfold D8;rw[h1,h3,h5],λ_ _ rho tm=>Bq _ λa=>Bq _ λb=>Bq _ λc=>Aru_ _ _ _, ?_⟩
 intro call round w0 w r U rho tm a s v s' hs hu hr h hf
 obtain⟨x',e1,h⟩:=Bw h
 obtain⟨y',e2,h⟩:=Bw h
 obtain⟨z',e3,h⟩:=Bw h
 obtain⟨rfl,t,k1,k2⟩:=Ack_ h (h2 _ _ _ _ _ _ hs (λt q=>hu t (by simp[ho,Op.operands]at q ⊢;simp[q])) e1) (h4 _ _ _ _ _ _ hs (λt q=>hu t (by simp[ho,Op.operands]at q ⊢;simp[q])) e2) (h6 _ _ _ _ _ _ hs (λt q=>hu t (by simp[ho,Op.operands]at q ⊢;simp[q])) e3)
 refine⟨_,w,r, .inl ?_, .of_rel rfl hr,k2,rfl,rfl⟩
 simp only[execOp,ho,k1]
 cases t<;>simp[asBool]
theorem AeY_ {t:Nat}{x:Operand}{lo hi mx:Option Operand}(ho:o.op= .slice t x lo hi mx)(he:EnvTy E):OpV E o (Iv E ds t x lo hi mx) ds:=by
 cases mx with
 |some m=>
  exact⟨_,rfl,λ_ _ _ _=>Av,λcall round w0 w r U rho tm a s v s' hs hu hr h hf=>by cases h⟩
 |none=>
  obtain⟨g,h1,h2⟩:=Be ds x
  obtain⟨g',h3,h4⟩:=K6 ds lo
  obtain⟨g2,h5,h6⟩:=K6 ds hi
  refine⟨λ_ _ rho tm=>M.on (g rho tm) λa=>M.on (g' rho tm) λb=>M.on (g2 rho tm) λc=>AZ E t a b c,by unfold Iv Mh;simp only[h1,h3,h5],λ_ _ rho tm=>Bq _ λa=>Bq _ λb=>Bq _ λc=>Aia_ _ _ _ _ _, ?_⟩
  intro call round w0 w r U rho tm a s v s' hs hu hr h hf
  obtain⟨x',e1,h⟩:=Bw h
  obtain⟨y',e2,h⟩:=Bw h
  obtain⟨z',e3,h⟩:=Bw h
  exact(AaS_ he h hr (h2 _ _ _ _ _ _ hs (λt q=>hu t (by simp[ho,Op.operands]at q ⊢;simp[q])) e1) (h4 _ _ _ _ _ _ hs (λt q=>hu t (by simp[ho,Op.operands]at q ⊢;simp[q])) e2) (h6 _ _ _ _ _ _ hs (λt q=>hu t (by simp[ho,Op.operands]at q ⊢;simp[q])) e3)).val (by simp only[execOp,ho];rfl)
theorem Wc_ {t:Nat}(ho:o.op= .makeMap t none):OpV E o (.mk λ_ _ _ _=>DQ) ds:=by
 refine⟨_,rfl,λ_ _ _ _=>AmL_, ?_⟩
 intro call round w0 w r U rho tm a s v s' hs hu hr h hf
 exact(ApP_ h hr hf).val (by simp only[execOp,ho];rfl)
theorem Zc_ {t:Nat}{c:Bool}{x y:Operand}(ho:o.op= .lookup t x y c)(he:EnvTy E):OpV E o (B5 ds x y (B6 E t c)) ds:=
 HZ (m:=λx y=>Instr.lookup t x y c) (by simp[ho,Op.operands]) (λa=>by simp only[execOp,ho];rfl) (AnS_ _ _ _) λh hr hf hx hy=>Adx_ he h hr hx hy
theorem AhO_ {x y z:Operand}{k:Value->Value->Value->M Value}{m:Value->Value->Value->Sem Unit}(hx:o.op.operands.toList=[x,y,z])(ho: ∀a:Act,execOp a.eval o=(do m (a.eval x) (a.eval y) (a.eval z);pure .skip))(np: ∀x y z,NoPan (k x y z))
  (hk: ∀{w0 w:World} {r:Inj} {x x' y y' z z':Value} {s v s'},k x y z s= .some v s'->Rel w0 r s.mem w->VR r x x'->VR r y y'->VR r z z'->v=undef/\ ∃w',(m x' y' z').run E.P w= .ok () w'/\Goes w0 r s s' r w'/\s'.lim=s.lim/\s'.cx=s.cx):OpV E o (D8 ds x y z k) ds:=by
 obtain⟨g,h1,h2⟩:=Be ds x
 obtain⟨g',h3,h4⟩:=Be ds y
 obtain⟨g2,h5,h6⟩:=Be ds z
 refine⟨_,by unfold D8;rw[h1,h3,h5],λ_ _ rho tm=>Bq _ λa=>Bq _ λb=>Bq _ λc=>np _ _ _, ?_⟩
 intro call round w0 w r U rho tm a s v s' hs hu hr h hf
 obtain⟨x',e1,h⟩:=Bw h
 obtain⟨y',e2,h⟩:=Bw h
 obtain⟨z',e3,h⟩:=Bw h
 obtain⟨rfl,w',k1,k2,k3,k4⟩:=hk h hr (h2 _ _ _ _ _ _ hs (λt q=>hu t (by rw[hx];simp at q ⊢;simp[q])) e1) (h4 _ _ _ _ _ _ hs (λt q=>hu t (by rw[hx];simp at q ⊢;simp[q])) e2) (h6 _ _ _ _ _ _ hs (λt q=>hu t (by rw[hx];simp at q ⊢;simp[q])) e3)
 refine⟨undef,w',r, .inr ⟨?_,rfl⟩,k2, .undef,k3,k4⟩
 rw[ho]
 simp[k1]
theorem Ajf_ {t:Nat}{x y z:Operand}(ho:o.op= .mapUpdate t x y z)(he:EnvTy E):OpV E o (D8 ds x y z (Eb E t)) ds:=
 AhO_ (m:=Instr.mapUpdate t) (by simp[ho,Op.operands]) (λa=>by simp only[execOp,ho]) (Ahh_ _ _) λh hr hx hy hz=>AkB_ he h hr hx hy hz
theorem Ana_ {t:Nat}{x:Operand}(ho:o.op= .range t x)(he:EnvTy E):OpV E o (A7 ds x (Dz E t)) ds:=
 Dl (m:=Instr.range t) (by simp[ho,Op.operands]) (λa=>by simp only[execOp,ho];rfl) (AhE_ _ _) λh hr hf hx=>Anq_ he h hr hf hx
theorem AgI_ {x:Operand}(ho:o.op= .next x true):OpV E o (A7 ds x EC) ds:=
 Dl (m:=λx=>Instr.next x true o.type) (by simp[ho,Op.operands]) (λa=>by simp only[execOp,ho];rfl) Wz_ λh hr hf hx=>AkQ_ h hr hx
theorem EE_ {α β:Type}(f:α->β)(a:Array α):a.map f=(a.toList.map f).toArray:=by rw[<-List.map_toArray]
theorem VRs.func {r:Inj}{f:Nat}{a a' c c':List Value}(h:VRs r a a')(k:VRs r c c'):VR r (.func (.func f) a.toArray c.toArray) (.func (.func f) a'.toArray c'.toArray):=
 .func rfl (by simpa using h.1) (λi v v' e e'=>h.2 i v v' (by simpa using e) (by simpa using e')) (by simpa using k.1) (λi v v' e e'=>k.2 i v v' (by simpa using e) (by simpa using e'))
theorem Zt_ {f:Nat}{first cap:Array Operand}(ho:o.op= .makeFunc (.func f) first cap):OpV E o (IL ds first.toList cap.toList λx c=>M.pure (.func (.func f) x.toArray c.toArray)) ds:=by
 obtain⟨g,h1,h2⟩:=EG ds first.toList
 obtain⟨g',h3,h4⟩:=EG ds cap.toList
 refine⟨_,by unfold IL;rw[h1,h3],λ_ _ rho tm=>Dw (g:=g rho tm) (f:=λ(a:List Value) s=>Option.rec (motive:=λ_=>R Value) .none (λ(b:List Value)=>M.pure (Value.func (.func f) a.toArray b.toArray) s) (g' rho tm)) λa=>Dw (f:=λ(b:List Value)=>M.pure (Value.func (.func f) a.toArray b.toArray)) λb=>Aq _, ?_⟩
 intro call round w0 w r U rho tm a s v s' hs hu hr h hf
 obtain⟨x',e1,h⟩:=Dd (f:=λ(a:List Value) s=>Option.rec (motive:=λ_=>R Value) .none (λ(b:List Value)=>M.pure (Value.func (.func f) a.toArray b.toArray) s) (g' rho tm)) h
 obtain⟨y',e2,h⟩:=Dd (f:=λ(b:List Value)=>M.pure (Value.func (.func f) x'.toArray b.toArray)) h
 obtain⟨rfl,rfl⟩:=Af h
 refine⟨_,w,r, .inl ?_, .of_rel rfl hr,(h2 _ _ _ _ _ _ hs (λt q=>hu t (by simp[ho,Op.operands]at q ⊢;simp[q])) e1).func (h4 _ _ _ _ _ _ hs (λt q=>hu t (by simp[ho,Op.operands]at q ⊢;simp[q])) e2),rfl,rfl⟩
 simp[execOp,ho,Instr.makeFunc]
 exact⟨EE_ _ _,EE_ _ _⟩
theorem Aro_ {b:Builtin}{c:Call}(ho:o.op= .call c)(hb:c.callee= .builtin b)(hn:b≠ .recover)(he:EnvTy E):OpV E o (He ds c.args.toList (AH E b c.argTypes.toList)) ds:=by
 obtain⟨g,h1,h2⟩:=EG ds c.args.toList
 refine⟨_,by unfold He;rw[h1],λ_ _ rho tm=>Dw (g:=g rho tm) (Alr_ _ _ _), ?_⟩
 intro call round w0 w r U rho tm a s v s' hs hu hr h hf
 obtain⟨l,e1,h⟩:=Dd h
 have hl:VRs r l (c.args.toList.map a.eval):=h2 _ _ _ _ _ _ hs (λt q=>hu t (by simp[ho,Op.operands,Call.operands]at q ⊢;simp[q])) e1
 have key: ∀{m:Sem Value},Yields E w0 r s s' v w m->(∀(cs:Array Bool) w,(builtin b c.argTypes o.type cs (c.args.map a.eval)).run E.P w=(Cp m).run E.P w)->
   ∃v' w' r',((execOp a.eval o).run E.P w= .ok (.value v') w'\/((execOp a.eval o).run E.P w= .ok .skip w'/\v'=undef))/\Goes w0 r s s' r' w'/\VR r' v v'/\s'.lim=s.lim/\s'.cx=s.cx:=by
  intro m hy hm
  obtain⟨v',w',r',k1,k2,k3,k4,k5⟩:=hy
  refine⟨v',w',r', .inl ?_,k2,k3,k4,k5⟩
  simp only[execOp,ho,resolve,hb,invoke,Sem.run_bind,Sem.run_pure,Result.andThen_ok,hm,Cp,k1]
 generalize hts:c.argTypes.toList=ts at h
 have hmap:c.args.map a.eval=(c.args.toList.map a.eval).toArray:=by rw[<-List.map_toArray]
 have ht0: ∀{t:Nat} {l:List Nat},c.argTypes.toList=t::l->c.argTypes[0]?=some t:=by
  intro t l e;rw[<-Array.getElem?_toList,e];rfl
 have ht1: ∀{t t2:Nat} {l:List Nat},c.argTypes.toList=t::t2::l->c.argTypes[1]?=some t2:=by
  intro t t2 l e;rw[<-Array.getElem?_toList,e];rfl
 unfold AH at h
 split at h
 ·rename_i t ts' x
  obtain⟨x',l',q1,q2,q3⟩:=hl.inv
  have:=q3.inv_nil
  subst this
  refine key (AhK_ (ty:=o.type) (ht0 hts) he h hr q2) λcs w=> ?_
  rw[hmap,q1];simp[builtin,Cp]
 ·rename_i t ts' x
  obtain⟨x',l',q1,q2,q3⟩:=hl.inv
  have:=q3.inv_nil
  subst this
  refine key (AeH_ (ty:=o.type) (ht0 hts) he h hr q2) λcs w=> ?_
  rw[hmap,q1];simp[builtin,Cp]
 ·obtain⟨y',l1,q1,q2,q3⟩:=hl.inv
  obtain⟨x',l',q4,q5,q6⟩:=q3.inv
  have:=q6.inv_nil
  subst this
  subst q4
  refine key (Yw_ (ty:=o.type) (ht0 hts) (ht1 hts) he h hr hf q2 q5) λcs w=> ?_
  rw[hmap,q1];simp[builtin,Cp]
 ·obtain⟨y',l1,q1,q2,q3⟩:=hl.inv
  obtain⟨x',l',q4,q5,q6⟩:=q3.inv
  have:=q6.inv_nil
  subst this
  subst q4
  refine key (Afc_ (ty:=o.type) (ht0 hts) he h hr q2 q5) λcs w=> ?_
  rw[hmap,q1];simp[builtin,Cp]
 ·obtain⟨y',l1,q1,q2,q3⟩:=hl.inv
  obtain⟨x',l',q4,q5,q6⟩:=q3.inv
  have:=q6.inv_nil
  subst this
  subst q4
  refine key (AlV_ (ty:=o.type) (ht0 hts) he h hr q2 q5) λcs w=> ?_
  rw[hmap,q1];simp[builtin,Cp]
 ·obtain⟨x',l',q1,q2,q3⟩:=hl.inv
  have:=q3.inv_nil
  subst this
  refine key (SX_ (ty:=o.type) (ht0 hts) he h hr q2) λcs w=> ?_
  rw[hmap,q1];simp[builtin,Cp]
 ·refine key (Adq_ (ts:=c.argTypes) (ty:=o.type) h hr hl) λcs w=> ?_
  rw[hmap];simp[builtin,Cp]
 ·refine key (ApA_ (ts:=c.argTypes) (ty:=o.type) h hr hl) λcs w=> ?_
  rw[hmap];simp[builtin,Cp]
 ·cases h
end
abbrev Out (α:Type):Type:=Sum α (List PanicEntry)
def rOf {α:Type}(o:Out α)(s:St):R α:=
 match o with
 | .inl a=> .some a s
 | .inr c=> .pan c s
def Bnd (s:St):Prop:=s.lim<=s.next
structure LocG {α:Type}(m:M α)(s:St)(o:Out α)(s':St)(Rd Wr:Nat->Prop)(dr dw:List Nat):Prop where
 rd:s'.rd=dr++s.rd
 wr:s'.wr=dw++s.wr
 nxt:s.next<=s'.next
 lim:s'.lim=s.lim
 bnd:Bnd s'
 rlt: ∀l,Rd l->l<s'.next
 wlt: ∀l,Wr l->l<s'.next
 old: ∀l,¬Wr l->T.get s'.mem l=T.get s.mem l
 any: ∀t:St,t.next=s.next->t.lim=s.lim->t.cx=s.cx->(∀l,Rd l\/Wr l->T.get t.mem l=T.get s.mem l)->
  ∃t',m t=rOf o t'/\t'.next=s'.next/\t'.lim=s'.lim/\t'.cx=s'.cx/\t'.rd=dr++t.rd/\t'.wr=dw++t.wr/\
   (∀l,Wr l->T.get t'.mem l=T.get s'.mem l)/\(∀l,¬Wr l->T.get t'.mem l=T.get t.mem l)
def Dm {α:Type}(m:M α)(s:St)(o:Out α)(s':St):Prop:=
 ∃Rd Wr dr dw,LocG m s o s' Rd Wr dr dw/\(∀l,Rd l->l<s.lim->l∈dr)/\(∀l,Wr l->l<s.lim->l∈dw)
structure Loc {α:Type}(m:M α):Prop where
 at': ∀s o s',m s=rOf o s'->Bnd s->Dm m s o s'
theorem LocG.seq {α β:Type}{m:M α}{n C:M β}{s s1 s':St}{o1:Out α}{o:Out β}{R1 W1 R2 W2:Nat->Prop}{r1 w1 r2 w2:List Nat}
  (h:LocG m s o1 s1 R1 W1 r1 w1) (k:LocG n s1 o s' R2 W2 r2 w2) (hC: ∀t t1,m t=rOf o1 t1->C t=n t1):LocG C s o s' (λl=>R1 l\/R2 l) (λl=>W1 l\/W2 l) (r2++r1) (w2++w1) where
 rd:=by rw[k.rd,h.rd,List.append_assoc]
 wr:=by rw[k.wr,h.wr,List.append_assoc]
 nxt:=Nat.le_trans h.nxt k.nxt
 lim:=k.lim.trans h.lim
 bnd:=k.bnd
 rlt:=λl e=>e.elim (λe=>Nat.lt_of_lt_of_le (h.rlt l e) k.nxt) (k.rlt l)
 wlt:=λl e=>e.elim (λe=>Nat.lt_of_lt_of_le (h.wlt l e) k.nxt) (k.wlt l)
 old:=λl e=>(k.old l λx=>e (.inr x)).trans (h.old l λx=>e (.inl x))
 any:=λt e1 e2 e3 e4=>by
  obtain⟨t1,q1,q2,q3,q4,q5,q6,q7,q8⟩:=h.any t e1 e2 e3 λl e=>e4 l (e.elim (λe=> .inl (.inl e)) (λe=> .inr (.inl e)))
  obtain⟨t2,p1,p2,p3,p4,p5,p6,p7,p8⟩:=k.any t1 q2 q3 q4 (λl e=>by
   by_cases hw:W1 l
   ·exact q7 l hw
   ·rw[q8 l hw,h.old l hw]
    exact e4 l (e.elim (λe=> .inl (.inr e)) (λe=> .inr (.inr e))))
  refine⟨t2,(hC t t1 q1).trans p1,p2,p3,p4,by rw[p5,q5,List.append_assoc],by rw[p6,q6,List.append_assoc],λl e=> ?_,λl e=>(p8 l λx=>e (.inr x)).trans (q8 l λx=>e (.inl x))⟩
  by_cases hw:W2 l
  ·exact p7 l hw
  ·rw[p8 l hw,k.old l hw]
   exact e.elim (q7 l) (λx=>absurd x hw)
theorem Dm.bnd {α:Type}{m:M α}{s s':St}{o:Out α}(h:Dm m s o s'):Bnd s':=let ⟨_,_,_,_,e,_⟩:=h;e.bnd
theorem Dm.next {α:Type}{m:M α}{s s':St}{o:Out α}(h:Dm m s o s'):s.next<=s'.next:=let ⟨_,_,_,_,e,_⟩:=h;e.nxt
theorem Dm.seq {α β:Type}{m:M α}{n C:M β}{s s1 s':St}{o1:Out α}{o:Out β}(h:Dm m s o1 s1)(k:Dm n s1 o s')(hC: ∀t t1,m t=rOf o1 t1->C t=n t1):Dm C s o s':=by
 obtain⟨R1,W1,r1,w1,h1,h2,h3⟩:=h
 obtain⟨R2,W2,r2,w2,k1,k2,k3⟩:=k
 refine⟨_,_,_,_,h1.seq k1 hC,λl e x=> ?_,λl e x=> ?_⟩
 ·exact e.elim (λe=>List.mem_append_right _ (h2 l e x)) (λe=>List.mem_append_left _ (k2 l e (by rw[h1.lim];exact x)))
 ·exact e.elim (λe=>List.mem_append_right _ (h3 l e x)) (λe=>List.mem_append_left _ (k3 l e (by rw[h1.lim];exact x)))
theorem A6 {α:Type}{o:Out α}{a:α}{s s':St}(h:R.some a s=rOf o s'):o= .inl a/\s'=s:=by cases o<;>cases h;exact⟨rfl,rfl⟩
theorem IH {α:Type}{o:Out α}{c:List PanicEntry}{s s':St}(h:R.pan c s=rOf o s'):o= .inr c/\s'=s:=by cases o<;>cases h;exact⟨rfl,rfl⟩
theorem Aw {α:Type}{o:Out α}{s':St}(h:R.none=rOf o s'):False:=by cases o<;>cases h
theorem Dm.quiet {α:Type}{m:M α}{s:St}{o:Out α}(hb:Bnd s)(h: ∀t:St,t.cx=s.cx->m t=rOf o t):Dm m s o s:=
 ⟨λ_=>False,λ_=>False,[],[],⟨rfl,rfl,Nat.le_refl _,rfl,hb,λ_ e=>e.elim,λ_ e=>e.elim,λ_ _=>rfl,
  λt e1 e2 e3 _=>⟨t,h t e3,e1,e2,e3,rfl,rfl,λ_ e=>e.elim,λ_ _=>rfl⟩⟩,λ_ e=>e.elim,λ_ e=>e.elim⟩
theorem Ah {α:Type}(a:α):Loc (M.pure a):=⟨λs o s' h hb=>by
 obtain⟨rfl,rfl⟩:=A6 h
 exact .quiet hb λt _=>rfl⟩
theorem Al {α:Type}:Loc (aC:M α):=⟨λs o s' h hb=>(Aw h).elim⟩
theorem EI {α:Type}(x:Option α):Loc (M.ofOpt x):=by
 cases x with
 |none=>exact Al
 |some a=>exact Ah a
theorem IQ {α β:Type}{m:M α}{f:α->M β}{g:List PanicEntry->M β}(h:Loc m)(kf: ∀a,Loc (f a))(kg: ∀c,Loc (g c)):
  Loc (λs=>R.rec (motive:=λ_=>R β) .none (λa s=>f a s) (λc s=>g c s) (m s)):=⟨λs o s' e hb=>by
 cases e1:m s with
 |none=>rw[e1]at e;exact(Aw e).elim
 |some a s1=>
  rw[e1]at e
  have h1:=h.at' s (.inl a) s1 e1 hb
  exact h1.seq ((kf a).at' s1 o s' e h1.bnd) λt t1 q=>by rw[q];rfl
 |pan c s1=>
  rw[e1]at e
  have h1:=h.at' s (.inr c) s1 e1 hb
  exact h1.seq ((kg c).at' s1 o s' e h1.bnd) λt t1 q=>by rw[q];rfl⟩
theorem PK {α:Type}(c:List PanicEntry):Loc (λs=>R.pan c s:M α):=⟨λs o s' h hb=>by
 obtain⟨rfl,rfl⟩:=IH h
 exact .quiet hb λt _=>rfl⟩
theorem Ya {α:Type}:Loc (λ_=>R.none:M α):=⟨λs o s' h hb=>(Aw h).elim⟩
theorem Ae {α β:Type}{m:M α}{f:α->M β}(h:Loc m)(k: ∀a,Loc (f a)):Loc (M.bind m f):=IQ h k λc=>PK c
theorem IF_ {α:Type}{m:M α}(h:Loc m):Loc (noP m):=IQ h (λa=>Ah a) λ_=>Ya
theorem AS {α:Type}(b:Bool){m:M α}(h:Loc m):Loc (M.chk b m):=by
 cases b with
 |false=>exact Al
 |true=>exact h
theorem D7 {α:Type}(b:Bool){m n:M α}(h:Loc m)(k:Loc n):Loc (aT b m n):=by cases b<;>assumption
theorem Bj {α β:Type}(x:Option α){f:α->M β}(k: ∀a,Loc (f a)):Loc (M.on x f):=by
 cases x with
 |none=>exact Al
 |some a=>exact k a
theorem Dv {α:Type}(n:Nat){f:Nat->M α}(k: ∀a,Loc (f a)):Loc (fN n f):=by rw[Ar];exact k _
theorem Hd {α:Type}(n:Int){f:Int->M α}(k: ∀a,Loc (f a)):Loc (fI n f):=by rw[Cd];exact k _
theorem KB {α:Type}(n:Addr){f:Addr->M α}(k: ∀a,Loc (f a)):Loc (fA n f):=by rw[CH];exact k _
theorem Alj_ {α:Type}(v:Value){f:IntKind->Int->M α}{d:M α}(h: ∀k n,Loc (f k n))(k:Loc d):Loc (Ch v f d):=by
 cases v<;>first|exact h _ _|exact k
theorem Ik {α:Type}(b:Bool){m n:M α}(h:Loc m)(k:Loc n):Loc (Bool.rec (motive:=λ_=>M α) m n b):=by cases b<;>assumption
theorem Ih {α β:Type}(x:Option α){m:M β}{f:α->M β}(h:Loc m)(k: ∀a,Loc (f a)):Loc (Option.rec (motive:=λ_=>M β) m (λa=>f a) x):=by
 cases x with
 |none=>exact h
 |some a=>exact k a
theorem JF (loc lim:Nat)(l:List Nat):notes loc lim l=if loc<lim then loc::l else l:=by
 unfold notes
 cases h:Nat.blt loc lim with
 |true=>rw[if_pos (Bg h)]
 |false=>rw[if_neg];intro h2;rw[show Nat.blt loc lim=true from Nat.ble_eq_true_of_le h2]at h;cases h
theorem E6 (loc lim:Nat)(l:List Nat):notes loc lim l=notes loc lim []++l:=by
 rw[JF,JF]
 split<;>rfl
theorem ND {loc lim:Nat}(h:loc<lim):loc∈notes loc lim []:=by rw[JF,if_pos h];exact List.mem_cons_self
theorem JU_ (loc:Nat)(s:St):rdC loc s=if loc<s.next then match T.get s.mem loc with|none=> .none|some c=> .some c ⟨s.mem,s.next,s.lim,notes loc s.lim s.rd,s.wr,s.cx⟩else .none:=by
 obtain⟨mem,next,lim,rd,wr,cx⟩:=s
 unfold rdC
 simp only
 cases hb:Nat.blt loc next with
 |false=>rw[if_neg];intro h2;rw[show Nat.blt loc next=true from Nat.ble_eq_true_of_le h2]at hb;cases hb
 |true=>
  rw[if_pos (Bg hb)]
  cases T.get mem loc<;>rfl
theorem JR_ (loc:Nat)(c:Cell)(s:St):wrC loc c s=if loc<s.next then .some () ⟨T.set s.mem loc c,s.next,s.lim,s.rd,notes loc s.lim s.wr,s.cx⟩else .none:=by
 obtain⟨mem,next,lim,rd,wr,cx⟩:=s
 unfold wrC
 obtain⟨v,l,r,e⟩:=aZ mem loc c
 simp only[e]
 cases hb:Nat.blt loc next with
 |false=>rw[if_neg];intro h2;rw[show Nat.blt loc next=true from Nat.ble_eq_true_of_le h2]at hb;cases hb
 |true=>rw[if_pos (Bg hb)]
theorem Ut (loc:Nat)(s:St):delC loc s=if loc<s.next then .some () ⟨aY s.mem loc,s.next,s.lim,s.rd,notes loc s.lim s.wr,s.cx⟩else .none:=by
 obtain⟨mem,next,lim,rd,wr,cx⟩:=s
 unfold delC
 simp only
 cases hb:Nat.blt loc next with
 |false=>rw[if_neg];intro h2;rw[show Nat.blt loc next=true from Nat.ble_eq_true_of_le h2]at hb;cases hb
 |true=>rw[if_pos (Bg hb)]
theorem UR (vs:List Value)(s:St):newL vs s= .some s.next ⟨layL s.next vs s.next s.mem,s.next+vs.length+1,s.lim,s.rd,s.wr,s.cx⟩:=by
 obtain⟨mem,next,lim,rd,wr,cx⟩:=s
 have h0:newL vs ⟨mem,next,lim,rd,wr,cx⟩=fN next λb=>fN (Nat.succ (Nat.add b vs.length)) λn=>R.some b (St.mk (layL b vs b mem) n lim rd wr cx):=rfl
 rw[h0,Ar,Ar]
 rfl
theorem Ta (o:AObj)(s:St):newO o s= .some s.next ⟨T.set s.mem s.next (.O o),s.next+1,s.lim,s.rd,s.wr,s.cx⟩:=by
 obtain⟨mem,next,lim,rd,wr,cx⟩:=s
 have h0:newO o ⟨mem,next,lim,rd,wr,cx⟩=fN next λb=>fN (Nat.succ b) λn=>R.some b (St.mk (T.set mem b (.O o)) n lim rd wr cx):=rfl
 rw[h0,Ar,Ar]
theorem DY (loc:Nat):Loc (rdC loc):=⟨λs o s' h hb=>by
 rw[JU_]at h
 split at h
 case isFalse=>exact(Aw h).elim
 case isTrue hl=>
  cases e:T.get s.mem loc with
  |none=>rw[e]at h;exact(Aw h).elim
  |some c=>
   rw[e]at h
   obtain⟨rfl,rfl⟩:=A6 h
   refine⟨λl=>l=loc,λ_=>False,notes loc s.lim [],[],⟨E6 _ _ _,rfl,Nat.le_refl _,rfl,hb,λl e1=>by rw[e1];exact hl,λ_ e=>e.elim,λ_ _=>rfl,λt e1 e2 e3 e4=> ?_⟩,λl e1 e2=> ?_,λ_ e=>e.elim⟩
   ·refine⟨⟨t.mem,t.next,t.lim,notes loc t.lim t.rd,t.wr,t.cx⟩, ?_,e1,e2,e3, ?_,rfl,λ_ e=>e.elim,λ_ _=>rfl⟩
    ·rw[JU_,if_pos (by rw[e1];exact hl),e4 loc (.inl rfl),e];rfl
    ·rw[<-e2];exact E6 _ _ _
   ·rw[e1];exact ND (by rw[<-e1];exact e2)⟩
theorem C1 (loc:Nat)(c:Cell):Loc (wrC loc c):=⟨λs o s' h hb=>by
 rw[JR_]at h
 split at h
 case isFalse=>exact(Aw h).elim
 case isTrue hl=>
  obtain⟨rfl,rfl⟩:=A6 h
  refine⟨λ_=>False,λl=>l=loc,[],notes loc s.lim [],⟨rfl,E6 _ _ _,Nat.le_refl _,rfl,hb,λ_ e=>e.elim,λl e1=>by rw[e1];exact hl,λl e=> ?_,λt e1 e2 e3 e4=> ?_⟩,λ_ e=>e.elim,λl e1 e2=> ?_⟩
  ·simp only[T.get_set,if_neg e]
  ·refine⟨⟨T.set t.mem loc c,t.next,t.lim,t.rd,notes loc t.lim t.wr,t.cx⟩, ?_,e1,e2,e3,rfl, ?_,λl e=> ?_,λl e=> ?_⟩
   ·rw[JR_,if_pos (by rw[e1];exact hl)];rfl
   ·rw[<-e2];exact E6 _ _ _
   ·simp only[T.get_set,if_pos e]
   ·simp only[T.get_set,if_neg e]
  ·rw[e1];exact ND (by rw[<-e1];exact e2)⟩
theorem AbG_ (loc:Nat):Loc (delC loc):=⟨λs o s' h hb=>by
 rw[Ut]at h
 split at h
 case isFalse=>exact(Aw h).elim
 case isTrue hl=>
  obtain⟨rfl,rfl⟩:=A6 h
  refine⟨λ_=>False,λl=>l=loc,[],notes loc s.lim [],⟨rfl,E6 _ _ _,Nat.le_refl _,rfl,hb,λ_ e=>e.elim,λl e1=>by rw[e1];exact hl,λl e=> ?_,λt e1 e2 e3 e4=> ?_⟩,λ_ e=>e.elim,λl e1 e2=> ?_⟩
  ·simp only[aW,if_neg e]
  ·refine⟨⟨aY t.mem loc,t.next,t.lim,t.rd,notes loc t.lim t.wr,t.cx⟩, ?_,e1,e2,e3,rfl, ?_,λl e=> ?_,λl e=> ?_⟩
   ·rw[Ut,if_pos (by rw[e1];exact hl)];rfl
   ·rw[<-e2];exact E6 _ _ _
   ·simp only[aW,if_pos e]
   ·simp only[aW,if_neg e]
  ·rw[e1];exact ND (by rw[<-e1];exact e2)⟩
theorem K2 (b:Nat): ∀(vs:List Value) (loc:Nat) (t:T Cell) (k:Nat),T.get (layL b vs loc t) k=if loc<=k/\k<loc+vs.length then(vs[k-loc]?).map (.C b)else T.get t k
 |[],loc,t,k=>by rw[if_neg (λe=>by have:=e.2;simp at this;omega)];rfl
 |v::vs,loc,t,k=>by
  have h0:layL b (v::vs) loc t=fN loc λloc=>layL b vs (Nat.succ loc) (T.set t loc (.C b v)):=rfl
  rw[h0,Ar,K2 b vs]
  by_cases h1:loc=k
  ·subst h1
   rw[if_neg J,if_pos am,T.get_set,if_pos rfl]
   simp
  ·by_cases h2:loc<=k/\k<loc+(v::vs).length
   ·have h3:k-loc=(k-Nat.succ loc)+1:=J
    rw[if_pos h2,if_pos (by simp at h2 ⊢;omega),h3,List.getElem?_cons_succ]
   ·rw[if_neg h2,if_neg (by simp at h2 ⊢;omega),T.get_set,if_neg (λe=>h1 e.symm)]
theorem Fo (vs:List Value):Loc (newL vs):=⟨λs o s' h hb=>by
 rw[UR]at h
 obtain⟨rfl,rfl⟩:=A6 h
 refine⟨λ_=>False,λl=>s.next<=l/\l<s.next+vs.length,[],[],⟨rfl,rfl,by show s.next<=s.next+vs.length+1;omega,rfl, ?_,λ_ e=>e.elim,λl e=> ?_,λl e=> ?_,λt e1 e2 e3 e4=> ?_⟩,λ_ e=>e.elim,λl e1 e2=> ?_⟩
 ·show s.lim<=s.next+vs.length+1
  unfold Bnd at hb;omega
 ·show l<s.next+vs.length+1
  omega
 ·simp only[K2,if_neg e]
 ·refine⟨⟨layL t.next vs t.next t.mem,t.next+vs.length+1,t.lim,t.rd,t.wr,t.cx⟩, ?_,by rw[e1],e2,e3,rfl,rfl,λl e=> ?_,λl e=> ?_⟩
  ·rw[UR,e1];rfl
  ·simp only[K2,e1,if_pos e]
  ·simp only[K2,e1,if_neg e]
 ·unfold Bnd at hb;omega⟩
theorem Qa_ (x:AObj):Loc (newO x):=⟨λs o s' h hb=>by
 rw[Ta]at h
 obtain⟨rfl,rfl⟩:=A6 h
 refine⟨λ_=>False,λl=>l=s.next,[],[],⟨rfl,rfl,by show s.next<=s.next+1;omega,rfl, ?_,λ_ e=>e.elim,λl e=> ?_,λl e=> ?_,λt e1 e2 e3 e4=> ?_⟩,λ_ e=>e.elim,λl e1 e2=> ?_⟩
 ·show s.lim<=s.next+1
  unfold Bnd at hb;omega
 ·show l<s.next+1
  omega
 ·simp only[T.get_set,if_neg e]
 ·refine⟨⟨T.set t.mem t.next (.O x),t.next+1,t.lim,t.rd,t.wr,t.cx⟩, ?_,by rw[e1],e2,e3,rfl,rfl,λl e=> ?_,λl e=> ?_⟩
  ·rw[Ta,e1];rfl
  ·simp only[T.get_set,e1,if_pos e]
  ·simp only[T.get_set,e1,if_neg e]
 ·unfold Bnd at hb;omega⟩
theorem Nd_:Loc Lf:=⟨λs o s' h hb=>by
 obtain⟨rfl,rfl⟩:=A6 (show R.some s.cx s=rOf o s' from h)
 exact .quiet hb λt e=>by rw[<-e];rfl⟩
theorem ZA_ (x:Ctx):Loc (JT x):=⟨λs o s' h hb=>by
 obtain⟨rfl,rfl⟩:=A6 (show R.some () (St.mk s.mem s.next s.lim s.rd s.wr x)=rOf o s' from h)
 exact⟨λ_=>False,λ_=>False,[],[],⟨rfl,rfl,Nat.le_refl _,rfl,hb,λ_ e=>e.elim,λ_ e=>e.elim,λ_ _=>rfl,
  λt e1 e2 e3 _=>⟨St.mk t.mem t.next t.lim t.rd t.wr x,rfl,e1,e2,rfl,rfl,rfl,λ_ e=>e.elim,λ_ _=>rfl⟩⟩,λ_ e=>e.elim,λ_ e=>e.elim⟩⟩
theorem En (a:Addr):Loc (rdV a):=by
 obtain⟨b,o,s⟩:=a
 cases s with
 |some x=>exact Al
 |none=>exact Ae (DY _) λc=>EI _
theorem TT (a:Addr)(v:Value):Loc (wrV a v):=by
 obtain⟨b,o,s⟩:=a
 cases s with
 |some x=>exact Al
 |none=>exact Ae (DY _) λc=>AS _ (C1 _ _)
theorem FZ: ∀(n:Nat) (a:Addr),Loc (rdL n a)
 |0,_=>Ah _
 |n+1,a=>by
  have h0:rdL (n+1) a=fA a λa=>M.bind (rdV a) λv=>M.bind (rdL n ⟨a.block,Nat.succ a.off,a.spot⟩) λl=>M.pure (v::l):=rfl
  rw[h0]
  exact KB _ λa=>Ae (En a) λv=>Ae (FZ n _) λl=>Ah _
theorem Iz: ∀(vs:List Value) (a:Addr),Loc (wrL vs a)
 |[],_=>Ah _
 |v::vs,a=>by
  have h0:wrL (v::vs) a=fA a λa=>M.bind (wrV a v) λ_=>wrL vs ⟨a.block,Nat.succ a.off,a.spot⟩:=rfl
  rw[h0]
  exact KB _ λa=>Ae (TT a v) λv=>Iz vs _
theorem JA: ∀(n l:Nat),Loc (Cg n l)
 |0,_=>Ah _
 |n+1,l=>by
  have h0:Cg (n+1) l=M.bind (delC l) λ_=>Cg n (l+1):=rfl
  rw[h0]
  exact Ae (AbG_ l) λ_=>JA n _
theorem Ba (x0:_)(x1:_):Loc (ti x0 x1):=by
 unfold ti
 repeat' (first|exact EI _|intro _|split)
theorem IX (x0:_):Loc (pV x0):=by
 unfold pV
 repeat' (first|exact Ah _|apply AS|apply Hd|apply Alj_|intro _|split)
theorem YR_ (x0:_)(x1:_)(x2:_)(x3:_)(x4:_):Loc (Fz x0 x1 x2 x3 x4):=by
 unfold Fz
 repeat' (first|exact Ah _|exact Al|exact Ba _ _|apply Ae|apply Bj|intro _|split)
theorem AhB_ (x0:_)(x1:_):Loc (GO x0 x1):=by
 unfold GO
 repeat' (first|exact Ah _|exact Al|intro _|split)
theorem Arh_ (x0:_)(x1:_)(x2:_):Loc (Hw x0 x1 x2):=by
 unfold Hw
 repeat' (first|exact AhB_ _ _|apply AS|apply Bj|intro _|split)
theorem Abe_ (x0:_)(x1:_)(x2:_)(x3:_)(x4:_)(x5:_)(x6:_):Loc (AJ x0 x1 x2 x3 x4 x5 x6):=by
 unfold AJ
 repeat' (first|exact Arh_ _ _ _|exact YR_ _ _ _ _ _|exact IX _|apply D7|apply Bj|intro _|split)
theorem XY_ (x0:_):Loc (lenOf x0):=by
 unfold lenOf
 repeat' (first|exact Ah _|exact Al|intro _|split)
theorem OV_ (x0:_)(x1:_)(x2:_):Loc (F7 x0 x1 x2):=by
 unfold F7
 repeat' (first|exact Ah _|exact Ba _ _|exact FZ _ _|exact En _|apply Ae|apply D7|intro _|split)
theorem VT_ (x0:_)(x1:_)(x2:_)(x3:_):Loc (Hv x0 x1 x2 x3):=by
 unfold Hv
 repeat' (first|exact Ba _ _|exact Iz _ _|apply Ae|apply AS|intro _|split)
theorem Ly (x0:_):Loc (asA x0):=by
 unfold asA
 repeat' (first|exact Ah _|exact Al|intro _|split)
theorem Jx (x0:_)(x1:_)(x2:_):Loc (bnd x0 x1 x2):=by
 unfold bnd
 repeat' (first|exact Ah _|exact Al|apply AS|intro _|split)
theorem LS_ (x0:_):Loc (ptrA x0):=by
 unfold ptrA
 repeat' (first|exact Ah _|apply KB|intro _|split)
theorem HV (x0:_)(x1:_)(x2:_):Loc (pSl x0 x1 x2):=by
 unfold pSl
 repeat' (first|exact Ah _|apply Dv|apply KB|intro _|split)
theorem J6 (x0:_):Loc (pN x0):=by
 unfold pN
 repeat' (first|exact Ah _|apply Dv|intro _|split)
theorem AmO_ (x0:_)(x1:_)(x2:_)(x3:_)(x4:_):Loc (Gz x0 x1 x2 x3 x4):=by
 unfold Gz
 repeat' (first|exact HV _ _ _|exact Jx _ _ _|apply Ae|apply AS|apply Ik|intro _|split)
theorem Adg_ (x0:_)(x1:_)(x2:_)(x3:_)(x4:_)(x5:_):Loc (slSl x0 x1 x2 x3 x4 x5):=by
 unfold slSl
 repeat' (first|exact HV _ _ _|exact Jx _ _ _|apply Ae|apply AS|apply Ik|intro _|split)
theorem AeF_ (x0:_)(x1:_)(x2:_):Loc (EM x0 x1 x2):=by
 unfold EM
 repeat' (first|exact Ah _|exact Jx _ _ _|apply Ae|intro _|split)
theorem AgH_ (x0:_)(x1:_)(x2:_)(x3:_)(x4:_):Loc (AZ x0 x1 x2 x3 x4):=by
 unfold AZ
 repeat' (first|exact Ah _|exact Al|exact AeF_ _ _ _|exact Adg_ _ _ _ _ _ _|exact AmO_ _ _ _ _ _|exact Jx _ _ _|exact Ba _ _|apply Ae|intro _|split)
theorem WY (x0:_)(x1:_)(x2:_):Loc (srcL x0 x1 x2):=by
 unfold srcL
 repeat' (first|exact Ah _|exact Al|exact FZ _ _|intro _|split)
theorem Vl_ (x0:_)(x1:_)(x2:_):Loc (appN x0 x1 x2):=by
 unfold appN
 repeat' (first|exact Ah _|exact Al|apply AS|intro _|split)
theorem Ajh_ (x0:_)(x1:_)(x2:_)(x3:_):Loc (appL x0 x1 x2 x3):=by
 unfold appL
 repeat' (first|exact Ah _|exact WY _ _ _|apply D7|intro _|split)
theorem AhY_ (x0:_)(x1:_)(x2:_):Loc (oldL x0 x1 x2):=by
 unfold oldL
 repeat' (first|exact Ah _|exact FZ _ _|intro _|split)
theorem Ars_ (x0:_)(x1:_)(x2:_):Loc (FM x0 x1 x2):=by
 unfold FM
 repeat' (first|exact Ah _|exact JA _ _|intro _|split)
theorem Aqp_ (x0:_)(x1:_)(x2:_)(x3:_):Loc (Dc x0 x1 x2 x3):=by
 unfold Dc
 repeat' (first|exact Ah _|exact Al|exact Ars_ _ _ _|exact C1 _ _|exact DY _|apply Ae|apply AS|apply D7|apply Dv|intro _|split)
theorem Aoa_ (x0:_)(x1:_)(x2:_)(x3:_)(x4:_)(x5:_)(x6:_)(x7:_):Loc (grow x0 x1 x2 x3 x4 x5 x6 x7):=by
 unfold grow
 repeat' (first|exact Aqp_ _ _ _ _|exact AhY_ _ _ _|exact HV _ _ _|exact Fo _|exact C1 _ _|apply Ae|apply AS|apply Dv|apply Ik|intro _|split)
theorem WF_ (x0:_)(x1:_)(x2:_)(x3:_)(x4:_)(x5:_):Loc (Fj x0 x1 x2 x3 x4 x5):=by
 unfold Fj
 repeat' (first|exact Ah _|exact HV _ _ _|exact Iz _ _|apply Ae|intro _|split)
theorem AgC_ (x0:_)(x1:_)(x2:_)(x3:_)(x4:_):Loc (BV x0 x1 x2 x3 x4):=by
 unfold BV
 repeat' (first|exact Al|exact WF_ _ _ _ _ _ _|exact Aoa_ _ _ _ _ _ _ _ _|exact Ajh_ _ _ _ _|exact Vl_ _ _ _|exact Ba _ _|apply Ae|apply D7|intro _|split)
theorem Ui_ (x0:_)(x1:_)(x2:_):Loc (Cz x0 x1 x2):=by
 unfold Cz
 repeat' (first|exact Ah _|exact Al|exact EI _|exact Ba _ _|apply Ae|intro _|split)
theorem AbX_ (x0:_)(x1:_)(x2:_)(x3:_):Loc (BU x0 x1 x2 x3):=by
 unfold BU
 repeat' (first|exact Ah _|exact Al|exact EI _|exact Ba _ _|exact Fo _|exact C1 _ _|apply Ae|apply AS|intro _|split)
theorem Ke_ (x0:_)(x1:_)(x2:_)(x3:_):Loc (Gh x0 x1 x2 x3):=by
 unfold Gh
 repeat' (first|exact Ah _|exact EI _|exact Ba _ _|apply Ae|apply D7|intro _|split)
theorem Aiv_ (x0:_)(x1:_)(x2:_)(x3:_)(x4:_):Loc (Fu x0 x1 x2 x3 x4):=by
 unfold Fu
 repeat' (first|exact Al|exact WY _ _ _|exact J6 _|exact XY_ _|exact Ba _ _|exact Iz _ _|apply Ae|apply Dv|intro _|split)
theorem Hn (x0:_):Loc (mapAt x0):=by
 unfold mapAt
 repeat' (first|exact Ah _|exact Al|exact DY _|apply Ae|intro _|split)
theorem Anc_ (x0:_):Loc (EF x0):=by
 unfold EF
 repeat' (first|exact Al|exact Hn _|exact J6 _|apply Ae|intro _|split)
theorem Arg_ (x0:_)(x1:_)(x2:_):Loc (aLen x0 x1 x2):=by
 unfold aLen
 repeat' (first|exact Ah _|exact Al|exact Anc_ _|exact J6 _|exact Ba _ _|apply Ae|intro _|split)
theorem Arx_ (x0:_)(x1:_)(x2:_):Loc (aCap x0 x1 x2):=by
 unfold aCap
 repeat' (first|exact Al|exact J6 _|exact Ba _ _|apply Ae|apply AS|intro _|split)
theorem AbC_ (x0:_)(x1:_)(x2:_):Loc (EV x0 x1 x2):=by
 unfold EV
 repeat' (first|exact Ah _|exact Al|exact Ba _ _|exact Iz _ _|apply Ae|apply AS|intro _|split)
theorem Yn_ (x0:_):Loc (zeroV x0):=by
 unfold zeroV
 repeat' (first|exact Ah _|exact EI _|apply D7|intro _|split)
theorem IB (E:_)(e:_)(t:_)(k:_)(es:_):Loc (Cx E e t k es):=AS _ (Bj _ λ_=>Ah _)
theorem Ot (x0:_)(x1:_)(x2:_):Loc (DM x0 x1 x2):=by
 unfold DM
 repeat' (first|exact Ah _|apply Ik|intro _|split)
theorem Im_ (x0:_)(x1:_):Loc (zeroOf x0 x1):=by
 unfold zeroOf
 repeat' (first|exact Yn_ _|exact Ba _ _|apply Ae|intro _|split)
theorem AoE_ (E:_)(a:_)(b:_)(k:_)(c:_):Loc (Nk E a b k c):=Ae (IB _ _ _ _ _) λr=>by
 cases r with
 |none=>exact Ae (Im_ _ _) λ_=>Ot _ _ _
 |some j=>exact Al
theorem Xv_ (E:_)(a:_)(b:_)(k:_)(c:_)(es:_):Loc (DK E a b k c es):=Ae (IB _ _ _ _ _) λr=>by
 cases r with
 |none=>exact Ae (Im_ _ _) λ_=>Ot _ _ _
 |some j=>exact Bj _ λ_=>Ot _ _ _
theorem PM (x0:_)(x1:_):Loc (mapT x0 x1):=by
 unfold mapT
 repeat' (first|exact Ah _|exact Al|exact Ba _ _|apply Ae|intro _|split)
theorem Agq_ (E:_)(t:_)(c:_)(x:_)(k:_):Loc (B6 E t c x k):=Ae (PM _ _) λke=>by
 cases x with
 |map m=>
  cases m with
  |none=>exact AoE_ _ _ _ _ _
  |some l=>exact Ae (Hn _) λp=>Xv_ _ _ _ _ _ _
 |_=>exact Al
theorem AgN_ (E:_)(t:_)(k:_)(x:_)(l:_)(p:_):Loc (putE E t k x l p):=Ae (IB _ _ _ _ _) λr=>by
 cases r with
 |none=>exact C1 _ _
 |some j=>exact Bj _ λ_=>AS _ (C1 _ _)
theorem VV_ (E:_)(t:_)(m:_)(k:_)(x:_):Loc (Eb E t m k x):=Ae (PM _ _) λke=>by
 cases m with
 |map m=>
  cases m with
  |none=>exact Al
  |some l=>exact Ae (Hn _) λp=>Ae (AgN_ _ _ _ _ _ _) λ_=>Ah _
 |_=>exact Al
theorem AeS_:Loc (DQ):=by
 unfold DQ
 repeat' (first|exact Ah _|exact Qa_ _|apply Ae|intro _|split)
theorem AdS_ (E:_)(t:_)(m:_)(k:_):Loc (kDel E t m k):=Ae (PM _ _) λke=>by
 cases m with
 |map m=>
  cases m with
  |none=>exact Ae (IB _ _ _ _ _) λ_=>Ah _
  |some l=>exact Ae (Hn _) λp=>Ae (IB _ _ _ _ _) λr=>by cases r<;>exact Ae (C1 _ _) λ_=>Ah _
 |_=>exact Al
theorem Xn_ (x0:_)(x1:_)(x2:_)(x3:_):Loc (AH x0 x1 x2 x3):=by
 unfold AH
 repeat' (first|exact Al|exact AdS_ _ _ _ _|exact AbC_ _ _ _|exact Arx_ _ _ _|exact Arg_ _ _ _|exact Aiv_ _ _ _ _ _|exact AgC_ _ _ _ _ _|exact IX _|apply AS|apply Bj|intro _|split)
theorem We_ (x0:_)(x1:_)(x2:_)(x3:_):Loc (idxN x0 x1 x2 x3):=by
 unfold idxN
 repeat' (first|exact Al|exact LS_ _|exact Ba _ _|apply Ae|apply AS|intro _|split)
theorem MC (x0:_):Loc (asN x0):=by
 unfold asN
 repeat' (first|exact Ah _|exact Al|intro _|split)
theorem Adu_ (x0:_)(x1:_)(x2:_):Loc (Au x0 x1 x2):=by
 unfold Au
 repeat' (first|exact Ah _|exact Al|apply Ik|intro _|split)
theorem An_ (x0:_):Loc (ptrN x0):=by
 unfold ptrN
 repeat' (first|exact Ah _|intro _|split)
theorem AoV_ (x0:_)(x1:_):Loc (CM x0 x1):=by
 unfold CM
 repeat' (first|exact An_ _|exact Ba _ _|exact Fo _|apply Ae|intro _|split)
theorem AlT_ (x0:_):Loc (kBox x0):=by
 unfold kBox
 repeat' (first|exact An_ _|exact Fo _|apply Ae|intro _|split)
theorem VB_ (x0:_)(x1:_)(x2:_):Loc (Bd x0 x1 x2):=by
 unfold Bd
 repeat' (first|exact Ly _|exact OV_ _ _ _|apply Ae|intro _|split)
theorem Vx_ (x0:_)(x1:_)(x2:_)(x3:_):Loc (Az x0 x1 x2 x3):=by
 unfold Az
 repeat' (first|exact Ah _|exact Ly _|exact VT_ _ _ _ _|apply Ae|intro _|split)
theorem Agj_ (x0:_):Loc (kNil x0):=by
 unfold kNil
 repeat' (first|exact Ah _|exact Al|intro _|split)
theorem Apj_ (b:Bool):Loc (pB b):=by cases b<;>exact Ah _
theorem Kq (x0:_)(x1:_)(x2:_):Loc (CX x0 x1 x2):=by
 unfold CX
 repeat' (first|exact IX _|apply AS|apply Bj|intro _|split)
theorem AhW_ (P:Program)(v:Value):Loc (xorU P v):=by
 have h:=Kq P .xor v
 cases v with
 |int k n=>
  cases n with
  |negSucc m=>exact Kq P .xor (.int k (.negSucc m))
  |ofNat m=>
   show Loc (Option.rec (motive:=λ_=>M Value) (CX P .xor (.int k (.ofNat m))) (λx=>M.pure x) (notK k m))
   exact Ih _ (Kq _ _ _) λ_=>Ah _
 |_=>exact h
theorem YY_ (x0:_)(x1:_)(x2:_):Loc (kUn x0 x1 x2):=by
 unfold kUn
 repeat' (first|exact Ah _|exact AhW_ _ _|exact Kq _ _ _|exact Apj_ _|intro _|split)
theorem TY_ (x0:_)(x1:_):Loc (strOf x0 x1):=by
 unfold strOf
 repeat' (first|exact Ah _|exact FZ _ _|apply Ae|apply Bj|intro _|split)
theorem Zk_ (x0:_)(x1:_)(x2:_)(x3:_)(x4:_):Loc (Fp x0 x1 x2 x3 x4):=by
 unfold Fp
 repeat' (first|exact Al|exact TY_ _ _|exact Ba _ _|apply Ae|intro _|split)
theorem AmI_ (x0:_)(x1:_)(x2:_)(x3:_)(x4:_):Loc (Fx x0 x1 x2 x3 x4):=by
 unfold Fx
 repeat' (first|exact Ah _|exact IX _|exact Ba _ _|apply Ae|apply Bj|apply Hd|intro _|split)
theorem Qa (x0:_)(x1:_)(x2:_)(x3:_):Loc (DH x0 x1 x2 x3):=by
 unfold DH
 repeat' (first|exact AmI_ _ _ _ _ _|exact Zk_ _ _ _ _ _|exact IX _|apply AS|apply Bj|intro _|split)
theorem LA_ (x0:_)(x1:_):Loc (rowN x0 x1):=by
 unfold rowN
 repeat' (first|exact HV _ _ _|exact Fo _|exact C1 _ _|apply Ae|apply AS|intro _|split)
theorem Akw_ (l:List UInt8):Loc (FJ l):=by
 unfold FJ
 rw[J8]
 exact Dv _ λn=>LA_ _ _
theorem YW_ (x0:_)(x1:_)(x2:_)(x3:_):Loc (Gu x0 x1 x2 x3):=by
 unfold Gu
 repeat' (first|exact Al|exact Akw_ _|exact Qa _ _ _ _|exact Ba _ _|apply Ae|intro _|split)
theorem UF_ (x0:_)(x1:_)(x2:_)(x3:_)(x4:_)(x5:_):Loc (Ed x0 x1 x2 x3 x4 x5):=by
 unfold Ed
 repeat' (first|exact Al|exact Qa _ _ _ _|exact Ba _ _|apply Ae|intro _|split)
theorem Vh_ (x0:_)(x1:_)(x2:_)(x3:_):Loc (Ce x0 x1 x2 x3):=by
 unfold Ce
 repeat' (first|exact UF_ _ _ _ _ _ _|exact YW_ _ _ _ _|exact Qa _ _ _ _|intro _|split)
theorem Aky_ (x0:_)(x1:_):Loc (GX x0 x1):=by
 unfold GX
 repeat' (first|exact Ah _|exact Al|apply AS|intro _|split)
theorem WX_ (x0:_)(x1:_)(x2:_):Loc (FT x0 x1 x2):=by
 unfold FT
 repeat' (first|exact Aky_ _ _|exact Ba _ _|apply Ae|intro _|split)
theorem Aiq_ (x0:_)(x1:_)(x2:_):Loc (Gl x0 x1 x2):=by
 unfold Gl
 repeat' (first|exact Ah _|exact Al|exact Ba _ _|apply Ae|intro _|split)
theorem Vk_ (x0:_)(x1:_)(x2:_)(x3:_):Loc (mkSl x0 x1 x2 x3):=by
 unfold mkSl
 repeat' (first|exact Ah _|exact Al|exact Ba _ _|exact Fo _|apply Ae|apply AS|intro _|split)
theorem ArG_ (x0:_)(x1:_)(x2:_)(x3:_):Loc (Ez x0 x1 x2 x3):=by
 unfold Ez
 repeat' (first|exact Vk_ _ _ _ _|exact MC _|exact Ba _ _|apply Ae|intro _|split)
theorem Oi_ (x0:_)(x1:_)(x2:_):Loc (DJ x0 x1 x2):=by
 unfold DJ
 repeat' (first|exact Ah _|exact Al|exact Ba _ _|apply Ae|intro _|split)
theorem AnR_ (x0:_)(x1:_)(x2:_)(x3:_):Loc (kFld x0 x1 x2 x3):=by
 unfold kFld
 repeat' (first|exact Oi_ _ _ _|exact LS_ _|exact Ly _|exact Ba _ _|apply Ae|apply AS|intro _|split)
theorem ArC_ (x0:_):Loc (asCs x0):=by
 unfold asCs
 repeat' (first|exact Ah _|exact Al|intro _|split)
theorem Wn_ (x0:_)(x1:_)(x2:_)(x3:_):Loc (Fq x0 x1 x2 x3):=by
 unfold Fq
 repeat' (first|exact ArC_ _|exact Oi_ _ _ _|exact Ke_ _ _ _ _|exact Ba _ _|apply Ae|intro _|split)
theorem Alf_ (x0:_)(x1:_)(x2:_)(x3:_):Loc (B8 x0 x1 x2 x3):=by
 unfold B8
 repeat' (first|exact MC _|exact We_ _ _ _ _|exact Ba _ _|apply Ae|intro _|split)
theorem AbU_ (x0:_)(x1:_)(x2:_)(x3:_):Loc (idxV x0 x1 x2 x3):=by
 unfold idxV
 repeat' (first|exact Ah _|exact Al|exact Ke_ _ _ _ _|exact Ba _ _|apply Ae|apply AS|apply Bj|intro _|split)
theorem AdH_ (x0:_)(x1:_)(x2:_)(x3:_):Loc (kIdx x0 x1 x2 x3):=by
 unfold kIdx
 repeat' (first|exact AbU_ _ _ _ _|exact MC _|exact Ba _ _|apply Ae|intro _|split)
theorem ZL_ (x0:_)(x1:_):Loc (kExt x0 x1):=by
 unfold kExt
 repeat' (first|exact Al|exact EI _|intro _|split)
theorem AlO_ (x0:_)(x1:_)(x2:_):Loc (Dz x0 x1 x2):=by
 unfold Dz
 repeat' (first|exact Ah _|exact Al|exact Ba _ _|exact Qa_ _|apply Ae|intro _|split)
theorem Uk_ (x0:_)(x1:_)(x2:_):Loc (sitN x0 x1 x2):=by
 unfold sitN
 repeat' (first|exact Ah _|exact C1 _ _|apply Ae|apply D7|apply Dv|intro _|split)
theorem Agd_ (x0:_):Loc (EC x0):=by
 unfold EC
 repeat' (first|exact Al|exact Uk_ _ _ _|exact DY _|apply Ae|apply Dv|intro _|split)
inductive ChR (r:Inj):List PanicEntry->List PanicEntry->Prop
 |nil:ChR r [] []
 |cons {e e':PanicEntry} {l l':List PanicEntry}:VR r e.v e'.v->e'.recovered=e.recovered->e'.goexit=e.goexit->ChR r l l'->ChR r (e::l) (e'::l')
theorem ChR.mono {r r':Inj}(h:r.le r'){l l':List PanicEntry}(k:ChR r l l'):ChR r' l l':=by
 induction k with
 |nil=>exact .nil
 |cons a b c _ ih=>exact .cons (a.mono h) b c ih
inductive MoR (r:Inj):FrameMode->FrameMode->Prop
 |run:MoR r .run .run
 |ret:MoR r .returning .returning
 |pan {c c':List PanicEntry}:ChR r c c'->MoR r (.panicking c) (.panicking c')
theorem MoR.mono {r r':Inj}(h:r.le r'){m m':FrameMode}(k:MoR r m m'):MoR r' m m':=by
 cases k with
 |run=>exact .run
 |ret=>exact .ret
 |pan c=>exact .pan (c.mono h)
inductive DfR (r:Inj):Deferred->Deferred->Prop
 |fn {f f':Fn} {c c' a a':Array Value}:FnR r f f'->VRs r c.toList c'.toList->VRs r a.toList a'.toList->DfR r ⟨.fn f c,a⟩ ⟨.fn f' c',a'⟩
 |coll {b b' d:Nat}:r.blk b=some (b',d)->DfR r ⟨.collected b, #[]⟩ ⟨.collected b', #[]⟩
theorem DfR.mono {r r':Inj}(h:r.le r'){m m':Deferred}(k:DfR r m m'):DfR r' m m':=by
 cases k with
 |fn a b c=>exact .fn (a.mono h) (b.mono h) (c.mono h)
 |coll a=>exact .coll (h.1 _ _ a)
inductive DfsR (r:Inj):List Deferred->List Deferred->Prop
 |nil:DfsR r [] []
 |cons {e e':Deferred} {l l':List Deferred}:DfR r e e'->DfsR r l l'->DfsR r (e::l) (e'::l')
theorem DfsR.mono {r r':Inj}(h:r.le r'){l l':List Deferred}(k:DfsR r l l'):DfsR r' l l':=by
 induction k with
 |nil=>exact .nil
 |cons a _ ih=>exact .cons (a.mono h) ih
def CxR (r:Inj)(base:List Deferred×List Frame)(cx:Ctx)(b:Frame)(dfs:List Deferred)(cs:List Frame):Prop:=
 match cx with
 | .no=>dfs=base.1/\cs=base.2
 | .cx up d=>
  (match up with
   |none=>b.kind= .normal/\cs=base.2
   |some m=>b.kind= .deferred/\ ∃c rest m',base.2=c::rest/\cs={c with mode:=m'}::rest/\MoR r m m')/\
  (match d with
   |none=>b.roundOf≠none/\dfs=[]
   |some l=>b.roundOf=none/\DfsR r l dfs)
theorem CxR.mono {r r':Inj}(h:r.le r'){base:List Deferred×List Frame}{cx:Ctx}{b:Frame}{dfs:List Deferred}{cs:List Frame}(k:CxR r base cx b dfs cs):CxR r' base cx b dfs cs:=by
 unfold CxR at *
 cases cx with
 |no=>exact k
 |cx up d=>
  obtain⟨k1,k2⟩:=k
  constructor
  ·cases up with
   |none=>exact k1
   |some m=>obtain⟨q1,c,rest,m',q2,q3,q4⟩:=k1;exact⟨q1,c,rest,m',q2,q3,q4.mono h⟩
  ·cases d with
   |none=>exact k2
   |some l=>exact⟨k2.1,k2.2.mono h⟩
def frm (b:Frame)(t:Array Value)(d:List Deferred)(todo:List Item):Frame:={fn:=b.fn,tmps:=t,todo,defers:=d,mode:= .run,kind:=b.kind,roundOf:=b.roundOf}
def putT (t:Array Value)(dst:Option Nat)(v:Value):Array Value:=
 match dst with
 |some d=>t.setIfInBounds d v
 |none=>t
theorem SJ_ (b:Frame)(t:Array Value)(d:List Deferred)(todo:List Item):(frm b t d todo).eval=Act.eval ⟨t,d⟩:=funext λx=>by cases x<;>rfl
theorem Ig (b:Frame)(t:Array Value)(d:List Deferred){ops:Array Oper}{i:Nat}{o:Oper}(ho:ops[i]?=some o)(rest:List Nat)(k:List Item)(v:Value):
  (frm b t d (.inRegion ops (i::rest)::k)).finish v=frm b (putT t o.dst v) d (.inRegion ops rest::k):=by
 cases h:o.dst<;>simp[Frame.finish,frm,putT,ho,h]
section
variable {P:Program}{b:Frame}{t:Array Value}{d:List Deferred}{k:List Item}{cs:List Frame}{w:World}{ops:Array Oper}
theorem IM {i:Nat}{rest:List Nat}{o:Oper}(ho:ops[i]?=some o)(hw:Region.wanted o (yielded ops t)=true)(hd:b.roundOf=none\/ ∀c,o.op≠ .defer c):
  stepG P true {frame:=frm b t d (.inRegion ops (i::rest)::k),callers:=cs,status:= .running,dying:=none} w=
   stepG.apply P true (frm b t d (.inRegion ops (i::rest)::k)) cs none (execOp (Act.eval ⟨t,d⟩) o) w:=by
 have he:=SJ_ b t d (.inRegion ops (i::rest)::k)
 have e1:stepG P true {frame:=frm b t d (.inRegion ops (i::rest)::k),callers:=cs,status:= .running,dying:=none} w=
   stepG.oper P true (frm b t d (.inRegion ops (i::rest)::k)) cs none w:=by
  simp[stepG,stepG.exec,frm,ho,hw]
 rw[e1]
 have e2:(frm b t d (.inRegion ops (i::rest)::k)).oper?=some o:=ho
 unfold stepG.oper
 simp only[e2,he]
 split
 ·rename_i l c h1 h2
  rcases hd with hd|hd
  ·rw[show(frm b t d (.inRegion ops (i::rest)::k)).roundOf=b.roundOf from rfl,hd]at h1
   cases h1
  ·exact absurd h2 (hd c)
 ·rfl
theorem Zg_ {id:Nat}:step P (lone (frm b t d (.code (.region id ops false)::k)) cs w)= .next (lone (frm b t d (.inRegion ops (List.range ops.size)::k)) cs w):=
 step_lone_go (by simp[stepG,stepG.exec,frm])
theorem AmJ_ {id:Nat}:
  step P (lone (frm b t d (.code (.region id ops true)::k)) cs w)=
   .next (lone (frm b t d (.inRegion ops (Region.schedule (P.follows .mixedOrders) ops (w.tape w.drawn (.order b.fn id)))::k)) cs {w with drawn:=w.drawn+1}):=
 step_lone_go (by simp[stepG,stepG.exec,frm,choose,Sem.run,Question.forced,Question.cut])
theorem Anw_:step P (lone (frm b t d (.inRegion ops []::k)) cs w)= .next (lone (frm b t d k) cs w):=
 step_lone_go (by simp[stepG,stepG.exec,frm])
theorem Aev_ {i:Nat}{o:Oper}{rest:List Nat}(ho:ops[i]?=some o)(h:Region.wanted o (yielded ops t)=false):
  step P (lone (frm b t d (.inRegion ops (i::rest)::k)) cs w)= .next (lone (frm b (putT t o.dst undef) d (.inRegion ops rest::k)) cs w):=by
 rw[<-Ig b t d ho]
 exact step_lone_go (by simp[stepG,stepG.exec,frm,ho,h])
end
def Ends (P:Program)(r:Inj)(out:Out Value)(m:Machine)(c:Frame)(cs:List Frame)(w':World):Prop:=
 match out with
 | .inl v=> ∃v',VR r v v'/\Steps P m (lone (c.finish v') cs w')
 | .inr ch=> ∃ch',ChR r ch ch'/\Steps P m (lone (c.raise ch') cs w')
def Qp (P:Program)(w0 w:World)(r:Inj)(s:St)(f:Nat)(args':List Value)(out:Out Value)(s':St):Prop:=
 ∃v v' w' r',out= .inl v/\VR r' v v'/\Goes w0 r s s' r' w'/\s'.lim=s.lim/\s'.cx=s.cx/\(callFunc f args'.toArray).run P w= .ok (.value v') w'
structure CallOK (E:Env)(call:Ag):Prop where
 loc: ∀f args,Loc (call f args)
 ok: ∀{w0 w:World} {r:Inj} {f:Nat} {args args':List Value} {s:St} {out:Out Value} {s':St},call f args s=rOf out s'->Rel w0 r s.mem w->Bnd s->AK r s.next s'.next->VRs r args args'->
  ((∀w,(callFunc f args'.toArray).run E.P w= .ok (.enter f args'.toArray) w)/\
  ∀c cs,∃w' r',Goes w0 r s s' r' w'/\s'.lim=s.lim/\s'.cx=s.cx/\Ends E.P r' out (lone (Frame.enter E.P f args'.toArray .normal) (c::cs) w) c cs w')\/
  (E.ext.get f≠none/\Qp E.P w0 w r s f args' out s')
structure RoundOK (E:Env)(round:Ag):Prop where
 loc: ∀l args,Loc (round l args)
 ok: ∀{w0 w:World} {r:Inj} {l l' d:Nat} {args args':List Value} {s:St} {out:Out Value} {s':St},round l args s=rOf out s'->Rel w0 r s.mem w->Bnd s->AK r s.next s'.next->VRs r args args'->r.blk l=some (l',d)->
  ∃f tm as bd,(Instr.yield l' args'.toArray).run E.P w= .ok (.round l' f tm as bd) w/\
  ∀c cs,∃w' r',Goes w0 r s s' r' w'/\s'.lim=s.lim/\s'.cx=s.cx/\Ends E.P r' out (lone (Frame.round l' f tm as bd .normal) (c::cs) w) c cs w'
def LY (P:Program)(r:Inj)(out:Out Value)(m:Machine)(b:Frame)(t:Array Value)(dfs:List Deferred)(ops:Array Oper)(o:Oper)(rest:List Nat)(k:List Item)(cs:List Frame)(w':World):Prop:=
 match out with
 | .inl v=> ∃v',VR r v v'/\Steps P m (lone (frm b (putT t o.dst v') dfs (.inRegion ops rest::k)) cs w')
 | .inr ch=> ∃ch' td,ChR r ch ch'/\Steps P m (lone {frm b t dfs td with mode:= .panicking ch'} cs w')
def OpS (E:Env)(o:Oper)(c:Cl OpT)(ds:List Nat):Prop:=
 ∃f,c= .mk f/\(∀call round,CallOK E call->RoundOK E round-> ∀rho tm,Loc (f call round rho tm))/\
  ∀call round,CallOK E call->RoundOK E round-> ∀(w0 w:World) (r:Inj) (U:Nat->Prop) rho tm (b:Frame) (t:Array Value) (dfs:List Deferred) (cs:List Frame) (base:List Deferred×List Frame) (s:St) (out:Out Value) (s':St),
   SlR r U ds rho tm t->(∀t,Operand.tmp t∈o.op.operands.toList->U t)->Rel w0 r s.mem w->CxR r base s.cx b dfs cs->Bnd s->AK r s.next s'.next->f call round rho tm s=rOf out s'->
   ∀(ops:Array Oper) i rest k,ops[i]?=some o->Region.wanted o (yielded ops t)=true->
    ∃w' r' dfs' cs',Goes w0 r s s' r' w'/\CxR r' base s'.cx b dfs' cs'/\s'.lim=s.lim/\
     LY E.P r' out (lone (frm b t dfs (.inRegion ops (i::rest)::k)) cs w) b t dfs' ops o rest k cs' w'
theorem OpS.ofV {E:Env}{o:Oper}{c:Cl OpT}{ds:List Nat}(h:OpV E o c ds)(hd: ∀c,o.op≠ .defer c)(hl: ∀f,c= .mk f-> ∀call round rho tm,Loc (f call round rho tm)):OpS E o c ds:=by
 obtain⟨f,h1,h2,h3⟩:=h
 refine⟨f,h1,λcall round _ _=>hl f h1 call round, ?_⟩
 intro call round hc hro w0 w r U rho tm b t dfs cs base s out s' hs hu hr hx hb hf e ops i rest k ho hw
 cases out with
 |inr ch=>exact((h2 call round rho tm).no _ _ _ e).elim
 |inl v=>
  obtain⟨v',w',r',k1,k2,k3,k4,k5⟩:=h3 call round w0 w r U rho tm ⟨t,dfs⟩ s v s' hs hu hr e hf
  refine⟨w',r',dfs,cs,k2,by rw[k5];exact hx.mono k2.le,k4,v',k3, .one (step_lone_go ?_)⟩
  rw[IM ho hw (.inr hd),<-Ig b t dfs ho]
  rcases k1 with k1|⟨k1,rfl⟩<;>simp[stepG.apply,k1]
theorem AcU_ (b:Frame)(t:Array Value)(d:List Deferred)(td:List Item)(ch:List PanicEntry):(frm b t d td).raise ch={frm b t d td with mode:= .panicking ch}:=rfl
section
variable {E:Env}{ds:List Nat}{o:Oper}
theorem VR.func_inv {r:Inj}{f:Fn}{a c:Array Value}{v':Value}(h:VR r (.func f a c) v'): ∃f' a' c',v'= .func f' a' c'/\FnR r f f'/\VRs r a.toList a'.toList/\VRs r c.toList c'.toList:=by
 cases h with
 |func h1 h2 h3 h4 h5=>exact⟨_,_,_,rfl,h1,a8 h2 h3,a8 h4 h5⟩
theorem MJ (ρ:Operand->Value){c:Call}{ty:TypeId}{x:Operand}{f:Fn}{a cap:Array Value}(hc:c.callee= .value x)(hx:ρ x= .func f a cap):
  resolve ρ c ty=pure {target:= .fn f cap,args:=a++c.args.map ρ}:=by
 unfold resolve
 simp only[hc,hx,Deferred.ofValue]
theorem XC_ {x:Operand}{c:Call}(ho:o.op= .call c)(hc:c.callee= .value x):OpS E o (Pm ds x c.args.toList) ds:=by
 obtain⟨g,h1,h2⟩:=Be ds x
 obtain⟨g',h3,h4⟩:=EG ds c.args.toList
 refine⟨λcall round rho tm=>M.on (g rho tm) λf=>M.on (g' rho tm) λl=>AU call round f l,by unfold Pm;simp only[h1,h3], ?_, ?_⟩
 ·intro call round hc1 hc2 rho tm
  refine Bj _ λf=>Bj _ λl=> ?_
  unfold AU
  split
  ·exact hc1.loc _ _
  ·exact AS _ (hc2.loc _ _)
  ·exact Al
 ·intro call round hc1 hc2 w0 w r U rho tm b t dfs cs base s out s' hs hu hr hx hb hf e ops i rest k hoi hw
  have on': ∀{α β:Type} {y:Option α} {f:α->M β} {o:Out β} {s s':St},M.on y f s=rOf o s'-> ∃a,y=some a/\f a s=rOf o s':=by
   intro α β y f o s s' h
   cases y with
   |none=>exact(Aw h).elim
   |some a=>exact⟨a,rfl,h⟩
  obtain⟨fv,e1,e⟩:=on' e
  obtain⟨l,e2,e⟩:=on' e
  have hfv:=h2 _ _ _ _ ⟨t,dfs⟩ _ hs (λt q=>hu t (by simp[ho,Op.operands,Call.operands,hc]at q ⊢;simp[q])) e1
  have hl:VRs r l (c.args.toList.map (Act.eval ⟨t,dfs⟩)):=h4 _ _ _ _ ⟨t,dfs⟩ _ hs (λt q=>hu t (by simp[ho,Op.operands,Call.operands]at q ⊢;simp[q])) e2
  have hmap:c.args.map (Act.eval ⟨t,dfs⟩)=(c.args.toList.map (Act.eval ⟨t,dfs⟩)).toArray:=by rw[<-List.map_toArray]
  have hd: ∀c,o.op≠ .defer c:=by rw[ho];intro c h;cases h
  unfold AU at e
  split at e
  ·rename_i f first cap _
   obtain⟨f',a',c',q1,q2,q3,q4⟩:=hfv.func_inv
   cases f' with
   |func f'=>
    simp only[FnR]at q2
    subst q2
    have e1:(a'++c.args.map (Act.eval ⟨t,dfs⟩)++c')=(a'.toList++(c.args.toList.map (Act.eval ⟨t,dfs⟩)++c'.toList)).toArray:=by
     rw[hmap];simp
    rcases hc1.ok e hr hb hf (args':=a'.toList++(c.args.toList.map (Act.eval ⟨t,dfs⟩)++c'.toList)) (q3.append (hl.append q4))with⟨k1,k2⟩|⟨_,v,v',w',r',rfl,g1,g2,g3,g4,g5⟩
    case inr=>
     have hrun:(execOp (Act.eval ⟨t,dfs⟩) o).run E.P w= .ok (.value v') w':=by
      simp only[execOp,ho,MJ _ hc q1]
      simp only[invoke,Sem.run_bind,Sem.run_pure,Result.andThen_ok,e1,g5]
     refine⟨w',r',dfs,cs,g2,by rw[g4];exact hx.mono g2.le,g3,v',g1, .one (step_lone_go ?_)⟩
     rw[IM hoi hw (.inr hd),<-Ig b t dfs hoi]
     simp[stepG.apply,hrun]
    obtain⟨w',r',g1,g2,g3,g4⟩:=k2 (frm b t dfs (.inRegion ops (i::rest)::k)) cs
    have henter:step E.P (lone (frm b t dfs (.inRegion ops (i::rest)::k)) cs w)=
      .next (lone (Frame.enter E.P f (a'.toList++(c.args.toList.map (Act.eval ⟨t,dfs⟩)++c'.toList)).toArray .normal) (frm b t dfs (.inRegion ops (i::rest)::k)::cs) w):=by
     refine step_lone_go ?_
     rw[IM hoi hw (.inr hd)]
     have hrun:(execOp (Act.eval ⟨t,dfs⟩) o).run E.P w= .ok (.enter f (a'.toList++(c.args.toList.map (Act.eval ⟨t,dfs⟩)++c'.toList)).toArray) w:=by
      simp only[execOp,ho,MJ _ hc q1]
      simp only[invoke,Sem.run_bind,Sem.run_pure,Result.andThen_ok,e1,k1]
     simp[stepG.apply,hrun,frm]
    refine⟨w',r',dfs,cs,g1,by rw[g3];exact hx.mono g1.le,g2, ?_⟩
    unfold Ends at g4
    cases out with
    |inl v=>
     obtain⟨v',p1,p2⟩:=g4
     rw[Ig b t dfs hoi]at p2
     exact⟨v',p1, .head henter p2⟩
    |inr ch=>
     obtain⟨ch',p1,p2⟩:=g4
     exact⟨ch',_,p1, .head henter p2⟩
   |_=>simp only[FnR]at q2
  ·rename_i lp first cap _
   obtain⟨f',a',c',q1,q2,q3,q4⟩:=hfv.func_inv
   cases f' with
   |yield lp'=>
    obtain⟨dd,q2⟩:=q2
    cases hemp:first.isEmpty with
    |false=>rw[hemp]at e;exact(Aw e).elim
    |true=>
     rw[hemp]at e
     have e':round lp l s=rOf out s':=e
     have hfe:first= #[]:=by simpa using hemp
     subst hfe
     have ha':a'= #[]:=by have:=q3.1;simp at this;simpa using this.symm
     subst ha'
     obtain⟨fn,tmn,as,bd,k1,k2⟩:=hc2.ok e' hr hb hf hl q2
     obtain⟨w',r',g1,g2,g3,g4⟩:=k2 (frm b t dfs (.inRegion ops (i::rest)::k)) cs
     have henter:step E.P (lone (frm b t dfs (.inRegion ops (i::rest)::k)) cs w)=
       .next (lone (Frame.round lp' fn tmn as bd .normal) (frm b t dfs (.inRegion ops (i::rest)::k)::cs) w):=by
      refine step_lone_go ?_
      rw[IM hoi hw (.inr hd)]
      have hrun:(execOp (Act.eval ⟨t,dfs⟩) o).run E.P w= .ok (.round lp' fn tmn as bd) w:=by
       simp only[execOp,ho,MJ _ hc q1]
       have e1:(#[]++c.args.map (Act.eval ⟨t,dfs⟩))=(c.args.toList.map (Act.eval ⟨t,dfs⟩)).toArray:=by
        rw[hmap];simp
       simp only[invoke,Sem.run_bind,Sem.run_pure,Result.andThen_ok,e1,k1]
      simp[stepG.apply,hrun,frm]
     refine⟨w',r',dfs,cs,g1,by rw[g3];exact hx.mono g1.le,g2, ?_⟩
     unfold Ends at g4
     cases out with
     |inl v=>
      obtain⟨v',p1,p2⟩:=g4
      rw[Ig b t dfs hoi]at p2
      exact⟨v',p1, .head henter p2⟩
     |inr ch=>
      obtain⟨ch',p1,p2⟩:=g4
      exact⟨ch',_,p1, .head henter p2⟩
   |_=>simp only[FnR]at q2
  ·exact(Aw e).elim
end
section
variable {E:Env}{ds:List Nat}{o:Oper}
theorem DT {α:Type}{g:Option α}{f:α->M Value}(h: ∀a,Loc (f a)):Loc (λs=>Option.rec (motive:=λ_=>R Value) .none (λa=>f a s) g):=by
 cases g with
 |none=>exact Ya
 |some a=>exact h a
theorem SO_ {α:Type}{x:Option α}{f:α->St->R Value}{s s':St}{out:Out Value}(h:Option.rec (motive:=λ_=>R Value) .none (λa=>f a s) x=rOf out s'): ∃a,x=some a/\f a s=rOf out s':=by
 cases x with
 |none=>exact(Aw h).elim
 |some a=>exact⟨a,rfl,h⟩
theorem Wj_ {α:Type}{b:Bool}{m:M α}{o:Out α}{s s':St}(h:M.chk b m s=rOf o s'):b=true/\m s=rOf o s':=by
 cases b with
 |false=>exact(Aw h).elim
 |true=>exact⟨rfl,h⟩
theorem OP {α β:Type}{y:Option α}{f:α->M β}{o:Out β}{s s':St}(h:M.on y f s=rOf o s'): ∃a,y=some a/\f a s=rOf o s':=by
 cases y with
 |none=>exact(Aw h).elim
 |some a=>exact⟨a,rfl,h⟩
theorem Cj {α β:Type}{m:M α}{f:α->M β}{o:Out β}{s s':St}(h:M.bind m f s=rOf o s'):(∃a s1,m s= .some a s1/\f a s1=rOf o s')\/ ∃c,m s= .pan c s'/\o= .inr c:=by
 unfold M.bind at h
 cases e:m s with
 |none=>rw[e]at h;exact(Aw h).elim
 |some a s1=>rw[e]at h;exact .inl ⟨a,s1,rfl,h⟩
 |pan c s1=>
  rw[e]at h
  obtain⟨rfl,rfl⟩:=IH h
  exact .inr ⟨c,rfl,rfl⟩
theorem AhH_ {β:Type}{f:Ctx->M β}{s:St}:M.bind Lf f s=f s.cx s:=rfl
theorem Ur_ {β:Type}{x:Ctx}{f:Unit->M β}{s:St}:M.bind (JT x) f s=f () ⟨s.mem,s.next,s.lim,s.rd,s.wr,x⟩:=rfl
theorem ApF_ {x:Operand}(ho:o.op= .panic x):OpS E o (A7 ds x DB_) ds:=by
 obtain⟨g,h1,h2⟩:=Be ds x
 refine⟨_,by unfold A7;rw[h1],λcall round _ _ rho tm=>DT λa=> ?_, ?_⟩
 ·cases a<;>first|exact PK _|exact Al
 ·intro call round hc1 hc2 w0 w r U rho tm b t dfs cs base s out s' hs hu hr hx hb hf e ops i rest k hoi hw
  obtain⟨v,e1,e⟩:=SO_ e
  have hv:VR r v (Act.eval ⟨t,dfs⟩ x):=h2 _ _ _ _ ⟨t,dfs⟩ _ hs (λt q=>hu t (by simp[ho,Op.operands]at q ⊢;simp[q])) e1
  have hd: ∀c,o.op≠ .defer c:=by rw[ho];intro c h;cases h
  cases v with
  |iface ty y=>
   obtain⟨rfl,rfl⟩:=IH (show R.pan [{v:= .iface ty y,recovered:=false}] s=rOf out s' from e)
   cases hv':Act.eval ⟨t,dfs⟩ x with
   |iface ty' y'=>
    rw[hv']at hv
    refine⟨w,r,dfs,cs, .of_rel rfl hr,hx,rfl,[{v:= .iface ty' y',recovered:=false}], .inRegion ops (i::rest)::k, .cons hv rfl rfl .nil, .one (step_lone_go ?_)⟩
    rw[IM hoi hw (.inr hd)]
    simp only[execOp,ho,hv']
    rw[<-AcU_]
    simp[stepG.apply,Instr.panic,goPanic,Sem.run]
   |_=>rw[hv']at hv;cases hv
  |_=>exact(Aw e).elim
theorem Ny_ {k:Int->Int->St->R Value}{slow:Value->Value->M Value}(hk: ∀a b,Loc (k a b))(hs: ∀x y,Loc (slow x y))(x y:Value):Loc (int2 k slow x y):=by
 unfold int2 Ch
 cases x
 case int k1 a=>
  cases y
  case int k2 b=>
   cases h1:DA k1 with
   |false=>simp only[h1];exact hs _ _
   |true=>
    cases h2:DA k2 with
    |false=>simp only[h1,h2];exact hs _ _
    |true=>simp only[h1,h2];exact hk a b
  all_goals exact hs _ _
 all_goals exact hs _ _
theorem NL {k:Cc}{slow:Value->Value->M Value}(hs: ∀x y,Loc (slow x y))(x y:Value):Loc (int3 k slow x y):=by
 unfold int3 Ch
 cases x
 case int k1 a=>
  cases y
  case int k2 b=>
   cases a with
   |negSucc m=>exact hs _ _
   |ofNat m=>
    cases b with
    |negSucc n=>exact hs _ _
    |ofNat n=>
     simp only
     cases k k1 k2 m n with
     |none=>exact hs _ _
     |some u=>exact Ah _
  all_goals exact hs _ _
 all_goals exact hs _ _
theorem AmW_ {op:BinOp}{t:Nat}{x y:Operand}{f:Value->Value->M Value}(h:aBin E op t x y= .mk f): ∀a b,Loc (f a b):=by
 have slow: ∀op a b,Loc (AJ E op t x y a b):=λop a b=>Abe_ _ _ _ _ _ _ _
 have rI': ∀n,Loc (rI n):=λn=>by
  have:rI n=(M.pure (.int .i64 (wrap64 n)):M Value):=by funext s;unfold rI;rw[Cd];rfl
  rw[this];exact Ah _
 have rB': ∀b,Loc (rB b):=λb=>by cases b<;>exact Ah _
 intro a b
 cases op<;>cases h<;>first|exact slow _ _ _|exact NL (slow _) _ _|exact Ny_ (λa b=>rI' _) (NL (slow _)) _ _|exact Ny_ (λa b=>rB' _) (NL (slow _)) _ _
theorem NX_ {x:Operand}: ∀f,ES ds x= .mk f-> ∀call round rho tm,Loc (f call round rho tm):=by
 obtain⟨g,h1,_⟩:=Be ds x
 intro f h
 unfold ES at h
 rw[h1]at h
 cases h
 exact λ_ _ _ _=>DT (f:=λa=>M.pure a) λa=>Ah a
theorem C3 {x:Operand}{k:Value->M Value}(hk: ∀a,Loc (k a)): ∀f,A7 ds x k= .mk f-> ∀call round rho tm,Loc (f call round rho tm):=by
 obtain⟨g,h1,_⟩:=Be ds x
 intro f h
 unfold A7 at h
 rw[h1]at h
 cases h
 exact λ_ _ _ _=>DT hk
theorem GK {x y:Operand}{k:Value->Value->M Value}(hk: ∀a b,Loc (k a b)): ∀f,B5 ds x y k= .mk f-> ∀call round rho tm,Loc (f call round rho tm):=by
 obtain⟨g,h1,_⟩:=Be ds x
 obtain⟨g',h2,_⟩:=Be ds y
 intro f h
 unfold B5 at h
 rw[h1,h2]at h
 cases h
 exact λ_ _ rho tm=>DT (f:=λa s=>Option.rec (motive:=λ_=>R Value) .none (λb=>k a b s) (g' rho tm)) λa=>DT (hk a)
theorem Vo_ {l:List Operand}{k:List Value->M Value}(hk: ∀a,Loc (k a)): ∀f,He ds l k= .mk f-> ∀call round rho tm,Loc (f call round rho tm):=by
 obtain⟨g,h1,_⟩:=EG ds l
 intro f h
 unfold He at h
 rw[h1]at h
 cases h
 exact λ_ _ _ _=>DT hk
theorem Amn_ {l l':List Operand}{k:List Value->List Value->M Value}(hk: ∀a b,Loc (k a b)): ∀f,IL ds l l' k= .mk f-> ∀call round rho tm,Loc (f call round rho tm):=by
 obtain⟨g,h1,_⟩:=EG ds l
 obtain⟨g',h2,_⟩:=EG ds l'
 intro f h
 unfold IL at h
 rw[h1,h2]at h
 cases h
 exact λ_ _ rho tm=>DT (f:=λa s=>Option.rec (motive:=λ_=>R Value) .none (λb=>k a b s) (g' rho tm)) λa=>DT (hk a)
theorem AW_ {l:List (Nat×Operand)}{k:List (Nat×Value)->M Value}(hk: ∀a,Loc (k a)): ∀f,Fa ds l k= .mk f-> ∀call round rho tm,Loc (f call round rho tm):=by
 obtain⟨g,h1,_⟩:=Mz ds l
 intro f h
 unfold Fa at h
 rw[h1]at h
 cases h
 exact λ_ _ _ _=>DT hk
theorem WD {x y z:Operand}{k:Value->Value->Value->M Value}(hk: ∀a b c,Loc (k a b c)): ∀f,D8 ds x y z k= .mk f-> ∀call round rho tm,Loc (f call round rho tm):=by
 obtain⟨g,h1,_⟩:=Be ds x
 obtain⟨g',h2,_⟩:=Be ds y
 obtain⟨g2,h3,_⟩:=Be ds z
 intro f h
 unfold D8 at h
 rw[h1,h2,h3]at h
 cases h
 exact λ_ _ rho tm=>Bj _ λa=>Bj _ λb=>Bj _ λc=>hk a b c
theorem Aol_ {t:Nat}{x:Operand}{lo hi mx:Option Operand}: ∀f,Iv E ds t x lo hi mx= .mk f-> ∀call round rho tm,Loc (f call round rho tm):=by
 cases mx with
 |some m=>intro f h;cases h;exact λ_ _ _ _=>Al
 |none=>
  obtain⟨g,h1,_⟩:=Be ds x
  obtain⟨g',h2,_⟩:=K6 ds lo
  obtain⟨g2,h3,_⟩:=K6 ds hi
  intro f h
  unfold Iv Mh at h
  simp only[h1,h2,h3]at h
  cases h
  exact λ_ _ rho tm=>Bj _ λa=>Bj _ λb=>Bj _ λc=>AgH_ _ _ _ _ _
theorem Og:OpS E o H9 ds:=⟨_,rfl,λ_ _ _ _ _ _=>Al,λ_call _round _ _ _w0 _w _r _U _rho _tm _b _t _dfs _cs _base _s _out _s' _hs _hu _hr _hx _hb _hf e=>(Aw e).elim⟩
theorem Act_ (he:EnvTy E)(o:Oper)(ds:List Nat):OpS E o (DG E ds o.op) ds:=by
 have nd: ∀{p:Op},o.op=p->(∀c,p≠ .defer c)-> ∀c,o.op≠ .defer c:=λh k c=>by rw[h];exact k c
 generalize hop:o.op=op
 unfold DG
 split
 ·exact .ofV (AdM_ hop) (nd hop (by intro c h;cases h)) NX_
 ·exact .ofV (AcS_ hop) (nd hop (by intro c h;cases h)) NX_
 ·exact .ofV (VE_ hop) (nd hop (by intro c h;cases h)) (WD Adu_)
 ·exact .ofV (VA_ hop he) (nd hop (by intro c h;cases h)) (by intro f h;cases h;exact λ_ _ _ _=>AoV_ _ _)
 ·exact .ofV (Agh_ hop) (nd hop (by intro c h;cases h)) (C3 AlT_)
 ·exact .ofV (XD_ hop he) (nd hop (by intro c h;cases h)) (AW_ λa=>Ui_ _ _ _)
 ·exact .ofV (Amu_ hop he) (nd hop (by intro c h;cases h)) (AW_ λa=>AbX_ _ _ _ _)
 ·exact .ofV (Acf_ hop he) (nd hop (by intro c h;cases h)) (C3 λa=>VB_ _ _ _)
 ·exact .ofV (ZO_ hop he) (nd hop (by intro c h;cases h)) (GK λa b=>Vx_ _ _ _ _)
 ·exact .ofV (Aqm_ hop) (nd hop (by intro c h;cases h)) (C3 Agj_)
 ·refine .ofV (WN_ hop he) (nd hop (by intro c h;cases h)) ?_
  rename_i op t x y yt
  generalize hc:aBin E op t x y=c
  obtain⟨f⟩:=c
  exact GK (AmW_ hc)
 ·exact .ofV (AmZ_ hop) (nd hop (by intro c h;cases h)) (C3 λa=>YY_ _ _ _)
 ·exact .ofV (Alh_ hop he) (nd hop (by intro c h;cases h)) (C3 λa=>Vh_ _ _ _ _)
 ·exact .ofV (Aex_ hop he) (nd hop (by intro c h;cases h)) (C3 λa=>WX_ _ _ _)
 ·exact .ofV (AeN_ hop he) (nd hop (by intro c h;cases h)) (C3 λa=>Aiq_ _ _ _)
 ·exact .ofV (Zt_ hop) (nd hop (by intro c h;cases h)) (Amn_ λa b=>Ah _)
 ·exact .ofV (Xl_ hop he) (nd hop (by intro c h;cases h)) (GK λa b=>ArG_ _ _ _ _)
 ·exact .ofV (AeY_ hop he) (nd hop (by intro c h;cases h)) Aol_
 ·exact .ofV (Ahw_ hop he) (nd hop (by intro c h;cases h)) (C3 λa=>AnR_ _ _ _ _)
 ·exact .ofV (ZS_ hop he) (nd hop (by intro c h;cases h)) (C3 λa=>Wn_ _ _ _ _)
 ·exact .ofV (Aey_ hop he) (nd hop (by intro c h;cases h)) (GK λa b=>Alf_ _ _ _ _)
 ·exact .ofV (Abr_ hop he) (nd hop (by intro c h;cases h)) (GK λa b=>AdH_ _ _ _ _)
 ·exact .ofV (Xj_ hop) (nd hop (by intro c h;cases h)) (C3 λa=>ZL_ _ _)
 ·rename_i c
  cases hc:c.callee with
  |value f=>unfold Hq;simp only[hc];exact XC_ hop hc
  |invoke a b=>unfold Hq;simp only[hc];exact Og
  |builtin bi=>
   by_cases hbr:bi= .recover
   ·subst hbr;unfold Hq;simp only[hc];exact Og
   ·have:Hq E ds c=He ds c.args.toList (AH E bi c.argTypes.toList):=by
     unfold Hq
     rw[hc]
     cases bi<;>first|rfl|exact absurd rfl hbr
    rw[this]
    exact .ofV (Aro_ hop hc hbr he) (nd hop (by intro c h;cases h)) (Vo_ λa=>Xn_ _ _ _ _)
 ·exact ApF_ hop
 ·exact .ofV (Ana_ hop he) (nd hop (by intro c h;cases h)) (C3 λa=>AlO_ _ _ _)
 ·exact .ofV (AgI_ hop) (nd hop (by intro c h;cases h)) (C3 λa=>Agd_ _)
 ·exact .ofV (Wc_ hop) (nd hop (by intro c h;cases h)) (by intro f h;cases h;exact λ_ _ _ _=>AeS_)
 ·exact .ofV (Zc_ hop he) (nd hop (by intro c h;cases h)) (GK λa b=>Agq_ _ _ _ _ _)
 ·exact .ofV (Ajf_ hop he) (nd hop (by intro c h;cases h)) (WD λa b c=>VV_ _ _ _ _ _)
 ·exact Og
