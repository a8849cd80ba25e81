import Derived.Test.YtndednnianphoaaGreatDoorJo03
namespace Go.Proofs.YtndednnianphoaaGreatDoor.Am
structure NoPan {α:Type}(m:M α):Prop where
 no: ∀s c s',m s= .pan c s'->False
theorem Aj {α:Type}(a:α):NoPan (M.pure a):=⟨λs c s' h=>by cases h⟩
theorem Ap {α:Type}:NoPan (aA:M α):=⟨λs c s' h=>by cases h⟩
theorem Ef {α:Type}(x:Option α):NoPan (M.ofOpt x):=⟨λs c s' h=>by cases x<;>cases h⟩
theorem Ad {α β:Type}{m:M α}{f:α->M β}(h:NoPan m)(k: ∀a,NoPan (f a)):NoPan (M.bind m f):=⟨λs c s' e=>by
 rcases Nl e with e|⟨a,s1,_,e⟩
 ·exact h.no _ _ _ e
 ·exact(k a).no _ _ _ e⟩
theorem AW {α:Type}(b:Bool){m:M α}(h:NoPan m):NoPan (M.chk b m):=⟨λs c s' e=>by
 cases b with
 |false=>cases e
 |true=>exact h.no _ _ _ e⟩
theorem DH {α:Type}(b:Bool){m n:M α}(h:NoPan m)(k:NoPan n):NoPan (aN b m n):=by cases b<;>assumption
theorem A3 {α β:Type}(x:Option α){f:α->M β}(k: ∀a,NoPan (f a)):NoPan (M.on x f):=by
 cases x with
 |none=>exact Ap
 |some a=>exact k a
theorem C2 {α:Type}(n:Nat){f:Nat->M α}(k: ∀a,NoPan (f a)):NoPan (fN n f):=by rw[Ao];exact k _
theorem JY {α:Type}(n:Int){f:Int->M α}(k: ∀a,NoPan (f a)):NoPan (fI n f):=by rw[BO];exact k _
theorem KK {α:Type}(n:Addr){f:Addr->M α}(k: ∀a,NoPan (f a)):NoPan (fA n f):=by rw[Cq];exact k _
theorem RG {α:Type}(v:Value){f:IntKind->Int->M α}{d:M α}(h: ∀k n,NoPan (f k n))(k:NoPan d):NoPan (BR v f d):=by
 cases v<;>first|exact h _ _|exact k
theorem FP {α:Type}(b:Bool){m n:M α}(h:NoPan m)(k:NoPan n):NoPan (Bool.rec (motive:=λ_=>M α) m n b):=by cases b<;>assumption
theorem ZU_ {α β:Type}(x:Option α){m:M β}{f:α->M β}(h:NoPan m)(k: ∀a,NoPan (f a)):NoPan (Option.rec (motive:=λ_=>M β) m (λa=>f a) x):=by
 cases x with
 |none=>exact h
 |some a=>exact k a
theorem C1 (loc:Nat):NoPan (rdC loc):= .mk λs c s' h=>by
 obtain⟨mem,next,lim,rd,wr,cx⟩:=s
 unfold rdC at h
 simp only at h
 cases hb:Nat.blt loc next<;>rw[hb]at h
 ·cases h
 ·cases e:T.get mem loc<;>rw[e]at h<;>cases h
theorem B5 (loc:Nat)(x:Cell):NoPan (wrC loc x):= .mk λs c s' h=>by
 obtain⟨mem,next,lim,rd,wr,cx⟩:=s
 unfold wrC at h
 obtain⟨v,l,r,e⟩:=aU mem loc x
 simp only[e]at h
 cases hb:Nat.blt loc next<;>rw[hb]at h<;>cases h
theorem MQ_ (loc:Nat):NoPan (delC loc):= .mk λs c s' h=>by
 obtain⟨mem,next,lim,rd,wr,cx⟩:=s
 unfold delC at h
 simp only at h
 cases hb:Nat.blt loc next<;>rw[hb]at h<;>cases h
theorem EY (vs:List Value):NoPan (newL vs):= .mk λs c s' h=>by
 obtain⟨mem,next,lim,rd,wr,cx⟩:=s
 have h0:newL vs ⟨mem,next,lim,rd,wr,cx⟩=fN next λb=>fN (Nat.succ (Nat.add b vs.length)) λn=>R.some b (St.mk (layL b vs b mem) n lim rd wr cx):=rfl
 rw[h0,Ao,Ao]at h
 cases h
theorem Ka (o:AObj):NoPan (newO o):= .mk λs c s' h=>by
 obtain⟨mem,next,lim,rd,wr,cx⟩:=s
 have h0:newO o ⟨mem,next,lim,rd,wr,cx⟩=fN next λb=>fN (Nat.succ b) λn=>R.some b (St.mk (T.set mem b (.O o)) n lim rd wr cx):=rfl
 rw[h0,Ao,Ao]at h
 cases h
theorem Mb_:NoPan getCx:= .mk λs c s' h=>by
 obtain⟨mem,next,lim,rd,wr,cx⟩:=s
 cases h
theorem AaU_ (x:Ctx):NoPan (putCx x):= .mk λs c s' h=>by
 obtain⟨mem,next,lim,rd,wr,cx⟩:=s
 cases h
theorem D8 (a:Addr):NoPan (rdV a):=by
 obtain⟨b,o,s⟩:=a
 cases s with
 |some x=>exact Ap
 |none=>exact Ad (C1 _) λc=>Ef _
theorem Q8 (a:Addr)(v:Value):NoPan (wrV a v):=by
 obtain⟨b,o,s⟩:=a
 cases s with
 |some x=>exact Ap
 |none=>exact Ad (C1 _) λc=>AW _ (B5 _ _)
theorem E4: ∀(n:Nat) (a:Addr),NoPan (rdL n a)
 |0,_=>Aj _
 |n+1,a=>by
  have h0:rdL (n+1) a=fA a λa=>M.bind (rdV a) λv=>M.bind (rdL n ⟨a.block,Nat.succ a.off,a.spot⟩) λl=>M.pure (v::l):=rfl
  rw[h0]
  exact KK _ λa=>Ad (D8 a) λv=>Ad (E4 n _) λl=>Aj _
theorem Hy: ∀(vs:List Value) (a:Addr),NoPan (wrL vs a)
 |[],_=>Aj _
 |v::vs,a=>by
  have h0:wrL (v::vs) a=fA a λa=>M.bind (wrV a v) λ_=>wrL vs ⟨a.block,Nat.succ a.off,a.spot⟩:=rfl
  rw[h0]
  exact KK _ λa=>Ad (Q8 a v) λv=>Hy vs _
theorem Te: ∀(n l:Nat),NoPan (Cm n l)
 |0,_=>Aj _
 |n+1,l=>by
  have h0:Cm (n+1) l=M.bind (delC l) λ_=>Cm n (l+1):=rfl
  rw[h0]
  exact Ad (MQ_ l) λ_=>Te n _
theorem AX (x0:_)(x1:_):NoPan (ti x0 x1):=by
 unfold ti
 repeat' (first|exact Ef _|intro _|split)
theorem HW (x0:_):NoPan (pV x0):=by
 unfold pV
 repeat' (first|exact Aj _|apply AW|apply JY|apply RG|intro _|split)
theorem ZV_ (x0:_)(x1:_)(x2:_)(x3:_)(x4:_):NoPan (CP x0 x1 x2 x3 x4):=by
 unfold CP
 repeat' (first|exact Aj _|exact Ap|exact AX _ _|apply Ad|apply A3|intro _|split)
theorem XB_ (x0:_)(x1:_):NoPan (Ga x0 x1):=by
 unfold Ga
 repeat' (first|exact Aj _|exact Ap|intro _|split)
theorem Ko_ (x0:_)(x1:_)(x2:_):NoPan (GS x0 x1 x2):=by
 unfold GS
 repeat' (first|exact XB_ _ _|apply AW|apply A3|intro _|split)
theorem Nl_ (x0:_)(x1:_)(x2:_)(x3:_)(x4:_)(x5:_)(x6:_):NoPan (AS x0 x1 x2 x3 x4 x5 x6):=by
 unfold AS
 repeat' (first|exact Ko_ _ _ _|exact ZV_ _ _ _ _ _|exact HW _|apply DH|apply A3|intro _|split)
theorem Rl_ (x0:_):NoPan (lenOf x0):=by
 unfold lenOf
 repeat' (first|exact Aj _|exact Ap|intro _|split)
theorem HS_ (x0:_)(x1:_)(x2:_):NoPan (Fq x0 x1 x2):=by
 unfold Fq
 repeat' (first|exact Aj _|exact AX _ _|exact E4 _ _|exact D8 _|apply Ad|apply DH|intro _|split)
theorem Ki_ (x0:_)(x1:_)(x2:_)(x3:_):NoPan (GR x0 x1 x2 x3):=by
 unfold GR
 repeat' (first|exact AX _ _|exact Hy _ _|apply Ad|apply AW|intro _|split)
theorem GU (x0:_):NoPan (asA x0):=by
 unfold asA
 repeat' (first|exact Aj _|exact Ap|intro _|split)
theorem IA (x0:_)(x1:_)(x2:_):NoPan (bnd x0 x1 x2):=by
 unfold bnd
 repeat' (first|exact Aj _|exact Ap|apply AW|intro _|split)
theorem L7 (x0:_):NoPan (ptrA x0):=by
 unfold ptrA
 repeat' (first|exact Aj _|apply KK|intro _|split)
theorem Hq (x0:_)(x1:_)(x2:_):NoPan (pSl x0 x1 x2):=by
 unfold pSl
 repeat' (first|exact Aj _|apply C2|apply KK|intro _|split)
theorem IR (x0:_):NoPan (pN x0):=by
 unfold pN
 repeat' (first|exact Aj _|apply C2|intro _|split)
theorem Up_ (x0:_)(x1:_)(x2:_)(x3:_)(x4:_):NoPan (FM x0 x1 x2 x3 x4):=by
 unfold FM
 repeat' (first|exact Hq _ _ _|exact IA _ _ _|apply Ad|apply AW|apply FP|intro _|split)
theorem Lc_ (x0:_)(x1:_)(x2:_)(x3:_)(x4:_)(x5:_):NoPan (slSl x0 x1 x2 x3 x4 x5):=by
 unfold slSl
 repeat' (first|exact Hq _ _ _|exact IA _ _ _|apply Ad|apply AW|apply FP|intro _|split)
theorem Abb_ (x0:_)(x1:_)(x2:_):NoPan (FV x0 x1 x2):=by
 unfold FV
 repeat' (first|exact Aj _|exact IA _ _ _|apply Ad|intro _|split)
theorem VY_ (x0:_)(x1:_)(x2:_)(x3:_)(x4:_):NoPan (Bz x0 x1 x2 x3 x4):=by
 unfold Bz
 repeat' (first|exact Aj _|exact Ap|exact Abb_ _ _ _|exact Lc_ _ _ _ _ _ _|exact Up_ _ _ _ _ _|exact IA _ _ _|exact AX _ _|apply Ad|intro _|split)
theorem SQ (x0:_)(x1:_)(x2:_):NoPan (srcL x0 x1 x2):=by
 unfold srcL
 repeat' (first|exact Aj _|exact Ap|exact E4 _ _|intro _|split)
theorem Vg_ (x0:_)(x1:_)(x2:_):NoPan (appN x0 x1 x2):=by
 unfold appN
 repeat' (first|exact Aj _|exact Ap|apply AW|intro _|split)
theorem Pk_ (x0:_)(x1:_)(x2:_)(x3:_):NoPan (appL x0 x1 x2 x3):=by
 unfold appL
 repeat' (first|exact Aj _|exact SQ _ _ _|apply DH|intro _|split)
theorem Yh_ (x0:_)(x1:_)(x2:_):NoPan (oldL x0 x1 x2):=by
 unfold oldL
 repeat' (first|exact Aj _|exact E4 _ _|intro _|split)
theorem Ry_ (x0:_)(x1:_)(x2:_):NoPan (E3 x0 x1 x2):=by
 unfold E3
 repeat' (first|exact Aj _|exact Te _ _|intro _|split)
theorem KE_ (x0:_)(x1:_)(x2:_)(x3:_):NoPan (CW x0 x1 x2 x3):=by
 unfold CW
 repeat' (first|exact Aj _|exact Ap|exact Ry_ _ _ _|exact B5 _ _|exact C1 _|apply Ad|apply AW|apply DH|apply C2|intro _|split)
theorem Zp_ (x0:_)(x1:_)(x2:_)(x3:_)(x4:_)(x5:_)(x6:_)(x7:_):NoPan (grow x0 x1 x2 x3 x4 x5 x6 x7):=by
 unfold grow
 repeat' (first|exact KE_ _ _ _ _|exact Yh_ _ _ _|exact Hq _ _ _|exact EY _|exact B5 _ _|apply Ad|apply AW|apply C2|apply FP|intro _|split)
theorem NY_ (x0:_)(x1:_)(x2:_)(x3:_)(x4:_)(x5:_):NoPan (EG x0 x1 x2 x3 x4 x5):=by
 unfold EG
 repeat' (first|exact Aj _|exact Hq _ _ _|exact Hy _ _|apply Ad|intro _|split)
theorem Vk_ (x0:_)(x1:_)(x2:_)(x3:_)(x4:_):NoPan (BS x0 x1 x2 x3 x4):=by
 unfold BS
 repeat' (first|exact Ap|exact NY_ _ _ _ _ _ _|exact Zp_ _ _ _ _ _ _ _ _|exact Pk_ _ _ _ _|exact Vg_ _ _ _|exact AX _ _|apply Ad|apply DH|intro _|split)
theorem PN_ (x0:_)(x1:_)(x2:_):NoPan (BP x0 x1 x2):=by
 unfold BP
 repeat' (first|exact Aj _|exact Ap|exact Ef _|exact AX _ _|apply Ad|intro _|split)
theorem Aau_ (x0:_)(x1:_)(x2:_)(x3:_):NoPan (BY x0 x1 x2 x3):=by
 unfold BY
 repeat' (first|exact Aj _|exact Ap|exact Ef _|exact AX _ _|exact EY _|exact B5 _ _|apply Ad|apply AW|intro _|split)
theorem NW (x0:_)(x1:_)(x2:_)(x3:_):NoPan (EE x0 x1 x2 x3):=by
 unfold EE
 repeat' (first|exact Aj _|exact Ef _|exact AX _ _|apply Ad|apply DH|intro _|split)
theorem NF_ (x0:_)(x1:_)(x2:_)(x3:_)(x4:_):NoPan (ER x0 x1 x2 x3 x4):=by
 unfold ER
 repeat' (first|exact Ap|exact SQ _ _ _|exact IR _|exact Rl_ _|exact AX _ _|exact Hy _ _|apply Ad|apply C2|intro _|split)
theorem Eh (x0:_):NoPan (mapAt x0):=by
 unfold mapAt
 repeat' (first|exact Aj _|exact Ap|exact C1 _|apply Ad|intro _|split)
theorem JT_ (x0:_):NoPan (D5 x0):=by
 unfold D5
 repeat' (first|exact Ap|exact Eh _|exact IR _|apply Ad|intro _|split)
theorem Rf_ (x0:_)(x1:_)(x2:_):NoPan (aLen x0 x1 x2):=by
 unfold aLen
 repeat' (first|exact Aj _|exact Ap|exact JT_ _|exact IR _|exact AX _ _|apply Ad|intro _|split)
theorem Og_ (x0:_)(x1:_)(x2:_):NoPan (aCap x0 x1 x2):=by
 unfold aCap
 repeat' (first|exact Ap|exact IR _|exact AX _ _|apply Ad|apply AW|intro _|split)
theorem LN_ (x0:_)(x1:_)(x2:_):NoPan (Gb x0 x1 x2):=by
 unfold Gb
 repeat' (first|exact Aj _|exact Ap|exact AX _ _|exact Hy _ _|apply Ad|apply AW|intro _|split)
theorem VA (x0:_):NoPan (zeroV x0):=by
 unfold zeroV
 repeat' (first|exact Aj _|exact Ef _|apply DH|intro _|split)
theorem GH (E:_)(e:_)(t:_)(k:_)(es:_):NoPan (Ca E e t k es):=AW _ (A3 _ λ_=>Aj _)
theorem Ms (x0:_)(x1:_)(x2:_):NoPan (Dv x0 x1 x2):=by
 unfold Dv
 repeat' (first|exact Aj _|apply FP|intro _|split)
theorem Nz (x0:_)(x1:_):NoPan (zeroOf x0 x1):=by
 unfold zeroOf
 repeat' (first|exact VA _|exact AX _ _|apply Ad|intro _|split)
theorem UC_ (E:_)(a:_)(b:_)(k:_)(c:_):NoPan (LO E a b k c):=Ad (GH _ _ _ _ _) λr=>by
 cases r with
 |none=>exact Ad (Nz _ _) λ_=>Ms _ _ _
 |some j=>exact Ap
theorem NM_ (E:_)(a:_)(b:_)(k:_)(c:_)(es:_):NoPan (Du E a b k c es):=Ad (GH _ _ _ _ _) λr=>by
 cases r with
 |none=>exact Ad (Nz _ _) λ_=>Ms _ _ _
 |some j=>exact A3 _ λ_=>Ms _ _ _
theorem Il (x0:_)(x1:_):NoPan (mapT x0 x1):=by
 unfold mapT
 repeat' (first|exact Aj _|exact Ap|exact AX _ _|apply Ad|intro _|split)
theorem Aao_ (E:_)(t:_)(c:_)(x:_)(k:_):NoPan (Cs E t c x k):=Ad (Il _ _) λke=>by
 cases x with
 |map m=>
  cases m with
  |none=>exact UC_ _ _ _ _ _
  |some l=>exact Ad (Eh _) λp=>NM_ _ _ _ _ _ _
 |_=>exact Ap
theorem PQ_ (E:_)(t:_)(k:_)(x:_)(l:_)(p:_):NoPan (putE E t k x l p):=Ad (GH _ _ _ _ _) λr=>by
 cases r with
 |none=>exact B5 _ _
 |some j=>exact A3 _ λ_=>AW _ (B5 _ _)
theorem Z6 (E:_)(t:_)(m:_)(k:_)(x:_):NoPan (DC E t m k x):=Ad (Il _ _) λke=>by
 cases m with
 |map m=>
  cases m with
  |none=>exact Ap
  |some l=>exact Ad (Eh _) λp=>Ad (PQ_ _ _ _ _ _ _) λ_=>Aj _
 |_=>exact Ap
theorem Os_ (E:_)(a:_)(b:_)(k:_)(l:_)(p:_):NoPan (entE E a b k l p):=Ad (GH _ _ _ _ _) λr=>by
 cases r with
 |none=>exact Ad (Nz _ _) λ_=>Ad (B5 _ _) λ_=>Aj _
 |some j=>exact A3 _ λ_=>AW _ (Ad (B5 _ _) λ_=>Aj _)
theorem AaH_ (E:_)(t:_)(m:_)(k:_):NoPan (Hn E t m k):=Ad (Il _ _) λke=>by
 cases m with
 |map m=>
  cases m with
  |none=>exact Ap
  |some l=>exact Ad (Eh _) λp=>Os_ _ _ _ _ _ _
 |_=>exact Ap
theorem QQ_ (x0:_)(x1:_)(x2:_):NoPan (D4 x0 x1 x2):=by
 unfold D4
 repeat' (first|exact Aj _|exact Ap|exact Eh _|exact B5 _ _|apply Ad|apply A3|intro _|split)
theorem ED_:NoPan (De):=by
 unfold De
 repeat' (first|exact Aj _|exact Ka _|apply Ad|intro _|split)
theorem Zc_ (x0:_)(x1:_)(x2:_):NoPan (Fh x0 x1 x2):=by
 unfold Fh
 repeat' (first|exact Ap|exact ED_|exact Il _ _|apply Ad|apply RG|intro _|split)
theorem IT_ (E:_)(t:_)(m:_)(k:_):NoPan (kDel E t m k):=Ad (Il _ _) λke=>by
 cases m with
 |map m=>
  cases m with
  |none=>exact Ad (GH _ _ _ _ _) λ_=>Aj _
  |some l=>exact Ad (Eh _) λp=>Ad (GH _ _ _ _ _) λr=>by cases r<;>exact Ad (B5 _ _) λ_=>Aj _
 |_=>exact Ap
theorem Yv_ (x0:_)(x1:_)(x2:_)(x3:_):NoPan (A8 x0 x1 x2 x3):=by
 unfold A8
 repeat' (first|exact Ap|exact IT_ _ _ _ _|exact LN_ _ _ _|exact Og_ _ _ _|exact Rf_ _ _ _|exact NF_ _ _ _ _ _|exact Vk_ _ _ _ _ _|exact HW _|apply AW|apply A3|intro _|split)
theorem RC_ (x0:_)(x1:_)(x2:_)(x3:_):NoPan (idxN x0 x1 x2 x3):=by
 unfold idxN
 repeat' (first|exact Ap|exact L7 _|exact AX _ _|apply Ad|apply AW|intro _|split)
theorem M9 (x0:_):NoPan (asN x0):=by
 unfold asN
 repeat' (first|exact Aj _|exact Ap|intro _|split)
theorem AcY_ (x0:_)(x1:_)(x2:_):NoPan (Aw x0 x1 x2):=by
 unfold Aw
 repeat' (first|exact Aj _|exact Ap|apply FP|intro _|split)
theorem BZ_ (x0:_):NoPan (ptrN x0):=by
 unfold ptrN
 repeat' (first|exact Aj _|intro _|split)
theorem Ob_ (x0:_)(x1:_):NoPan (Ce x0 x1):=by
 unfold Ce
 repeat' (first|exact BZ_ _|exact AX _ _|exact EY _|apply Ad|intro _|split)
theorem XX_ (x0:_):NoPan (kBox x0):=by
 unfold kBox
 repeat' (first|exact BZ_ _|exact EY _|apply Ad|intro _|split)
theorem YO_ (x0:_)(x1:_)(x2:_):NoPan (AQ x0 x1 x2):=by
 unfold AQ
 repeat' (first|exact GU _|exact HS_ _ _ _|apply Ad|intro _|split)
theorem KK_ (x0:_)(x1:_)(x2:_)(x3:_):NoPan (AB x0 x1 x2 x3):=by
 unfold AB
 repeat' (first|exact Aj _|exact GU _|exact Ki_ _ _ _ _|apply Ad|intro _|split)
theorem MD_ (x0:_):NoPan (kNil x0):=by
 unfold kNil
 repeat' (first|exact Aj _|exact Ap|intro _|split)
theorem YV_ (b:Bool):NoPan (pB b):=⟨λs c s' h=>by cases b<;>cases h⟩
theorem JE (x0:_)(x1:_)(x2:_):NoPan (CJ x0 x1 x2):=by
 unfold CJ
 repeat' (first|exact HW _|apply AW|apply A3|intro _|split)
theorem Qi_ (P:Program)(v:Value):NoPan (xorU P v):=by
 have h:=JE P .xor v
 cases v with
 |int k n=>
  cases n with
  |negSucc m=>exact JE P .xor (.int k (.negSucc m))
  |ofNat m=>
   show NoPan (Option.rec (motive:=λ_=>M Value) (CJ P .xor (.int k (.ofNat m))) (λx=>M.pure x) (notK k m))
   exact ZU_ _ (JE _ _ _) λ_=>Aj _
 |_=>exact h
theorem Qx_ (x0:_)(x1:_)(x2:_):NoPan (kUn x0 x1 x2):=by
 unfold kUn
 repeat' (first|exact Aj _|exact Qi_ _ _|exact JE _ _ _|exact YV_ _|intro _|split)
theorem Xo_ (x0:_)(x1:_):NoPan (strOf x0 x1):=by
 unfold strOf
 repeat' (first|exact Aj _|exact E4 _ _|apply Ad|apply A3|intro _|split)
theorem Yd_ (x0:_)(x1:_)(x2:_)(x3:_)(x4:_):NoPan (G5 x0 x1 x2 x3 x4):=by
 unfold G5
 repeat' (first|exact Ap|exact Xo_ _ _|exact AX _ _|apply Ad|intro _|split)
theorem Yq_ (x0:_)(x1:_)(x2:_)(x3:_)(x4:_):NoPan (ET x0 x1 x2 x3 x4):=by
 unfold ET
 repeat' (first|exact Aj _|exact HW _|exact AX _ _|apply Ad|apply A3|apply JY|intro _|split)
theorem NI (x0:_)(x1:_)(x2:_)(x3:_):NoPan (DL x0 x1 x2 x3):=by
 unfold DL
 repeat' (first|exact Yq_ _ _ _ _ _|exact Yd_ _ _ _ _ _|exact HW _|apply AW|apply A3|intro _|split)
theorem EI_ (x0:_)(x1:_):NoPan (rowN x0 x1):=by
 unfold rowN
 repeat' (first|exact Hq _ _ _|exact EY _|exact B5 _ _|apply Ad|apply AW|intro _|split)
theorem Abh_ (l:List UInt8):NoPan (E1 l):=by
 unfold E1
 rw[JD]
 exact C2 _ λn=>EI_ _ _
theorem TS_ (x0:_)(x1:_)(x2:_)(x3:_):NoPan (FH x0 x1 x2 x3):=by
 unfold FH
 repeat' (first|exact Ap|exact Abh_ _|exact NI _ _ _ _|exact AX _ _|apply Ad|intro _|split)
theorem AaL_ (x0:_)(x1:_)(x2:_)(x3:_)(x4:_)(x5:_):NoPan (Fe x0 x1 x2 x3 x4 x5):=by
 unfold Fe
 repeat' (first|exact Aj _|exact Ap|exact NI _ _ _ _|exact AX _ _|exact E4 _ _|exact C1 _|apply Ad|apply AW|intro _|split)
theorem OK_ (x0:_)(x1:_)(x2:_)(x3:_):NoPan (Cf x0 x1 x2 x3):=by
 unfold Cf
 repeat' (first|exact AaL_ _ _ _ _ _ _|exact TS_ _ _ _ _|exact NI _ _ _ _|intro _|split)
theorem WO_ (x0:_)(x1:_):NoPan (Gh x0 x1):=by
 unfold Gh
 repeat' (first|exact Aj _|exact Ap|apply AW|intro _|split)
theorem RU_ (x0:_)(x1:_)(x2:_):NoPan (Fc x0 x1 x2):=by
 unfold Fc
 repeat' (first|exact WO_ _ _|exact AX _ _|apply Ad|intro _|split)
theorem XA_ (x0:_)(x1:_)(x2:_):NoPan (FB x0 x1 x2):=by
 unfold FB
 repeat' (first|exact Aj _|exact Ap|exact AX _ _|apply Ad|intro _|split)
theorem Po_ (x0:_)(x1:_)(x2:_)(x3:_):NoPan (mkSl x0 x1 x2 x3):=by
 unfold mkSl
 repeat' (first|exact Aj _|exact Ap|exact AX _ _|exact EY _|apply Ad|apply AW|intro _|split)
theorem ME_ (x0:_)(x1:_)(x2:_)(x3:_):NoPan (EM x0 x1 x2 x3):=by
 unfold EM
 repeat' (first|exact Po_ _ _ _ _|exact M9 _|exact AX _ _|apply Ad|intro _|split)
theorem IB (x0:_)(x1:_)(x2:_):NoPan (CI x0 x1 x2):=by
 unfold CI
 repeat' (first|exact Aj _|exact Ap|exact AX _ _|apply Ad|intro _|split)
theorem Xv_ (x0:_)(x1:_)(x2:_)(x3:_):NoPan (kFld x0 x1 x2 x3):=by
 unfold kFld
 repeat' (first|exact IB _ _ _|exact L7 _|exact GU _|exact AX _ _|apply Ad|apply AW|intro _|split)
theorem Qw (x0:_):NoPan (asCs x0):=by
 unfold asCs
 repeat' (first|exact Aj _|exact Ap|intro _|split)
theorem Abr_ (x0:_)(x1:_)(x2:_)(x3:_):NoPan (EP x0 x1 x2 x3):=by
 unfold EP
 repeat' (first|exact Qw _|exact IB _ _ _|exact NW _ _ _ _|exact AX _ _|apply Ad|intro _|split)
theorem Abl_ (x0:_)(x1:_)(x2:_)(x3:_):NoPan (BT x0 x1 x2 x3):=by
 unfold BT
 repeat' (first|exact M9 _|exact RC_ _ _ _ _|exact AX _ _|apply Ad|intro _|split)
theorem Nf_ (x0:_)(x1:_)(x2:_)(x3:_):NoPan (idxV x0 x1 x2 x3):=by
 unfold idxV
 repeat' (first|exact Aj _|exact Ap|exact NW _ _ _ _|exact AX _ _|apply Ad|apply AW|apply A3|intro _|split)
theorem UV_ (x0:_)(x1:_)(x2:_)(x3:_):NoPan (kIdx x0 x1 x2 x3):=by
 unfold kIdx
 repeat' (first|exact Nf_ _ _ _ _|exact M9 _|exact AX _ _|apply Ad|intro _|split)
theorem Qu_ (x0:_)(x1:_):NoPan (kExt x0 x1):=by
 unfold kExt
 repeat' (first|exact Ap|exact Ef _|intro _|split)
theorem YR_ (x0:_)(x1:_)(x2:_):NoPan (okV x0 x1 x2):=by
 unfold okV
 repeat' (first|exact Aj _|exact Ap|apply FP|intro _|split)
theorem VE_ (x0:_)(x1:_)(x2:_):NoPan (ES x0 x1 x2):=by
 unfold ES
 repeat' (first|exact Aj _|exact Ap|exact AX _ _|exact Ka _|apply Ad|intro _|split)
theorem ZP_ (x0:_)(x1:_)(x2:_):NoPan (sitN x0 x1 x2):=by
 unfold sitN
 repeat' (first|exact Aj _|exact B5 _ _|apply Ad|apply DH|apply C2|intro _|split)
theorem Lw_ (x0:_):NoPan (EN x0):=by
 unfold EN
 repeat' (first|exact Ap|exact ZP_ _ _ _|exact C1 _|apply Ad|apply C2|intro _|split)
theorem Oa_ (x0:_)(x1:_)(x2:_)(x3:_):NoPan (Ff x0 x1 x2 x3):=by
 unfold Ff
 repeat' (first|exact Ap|exact YR_ _ _ _|exact VA _|exact AX _ _|apply Ad|apply DH|apply A3|intro _|split)
open Go.RowKit
def OpV (E:Env)(o:Oper)(c:Cl OpT)(ds:List Nat):Prop:=
 ∃f,c= .mk f/\(∀call round rho tm,NoPan (f call round rho tm))/\
  ∀call round (w0 w:World) (r:Inj) (U:Nat->Prop) rho tm (a:Act) s v s',SlR r U ds rho tm a.tmps->(∀t,Operand.tmp t∈o.op.operands.toList->U t)->Rel w0 r s.mem w->f call round rho tm s= .some v s'->AA r s.next s'.next->
   ∃v' w' r',((execOp a.eval o).run E.P w= .ok (.value v') w'\/((execOp a.eval o).run E.P w= .ok .skip w'/\v'=undef))/\Goes w0 r s s' r' w'/\VR r' v v'/\s'.lim=s.lim/\s'.cx=s.cx
section
variable {E:Env}{ds:List Nat}{o:Oper}
def B3 (m:Sem Value):Sem Next:=do pure (.value (<-m))
theorem Yields.val {w0 w:World}{r:Inj}{s s':St}{v:Value}{m:Sem Value}(h:Yields E w0 r s s' v w m){n:Sem Next}(hn:n=B3 m):
  ∃v' w' r',(n.run E.P w= .ok (.value v') w'\/(n.run E.P w= .ok .skip w'/\v'=undef))/\Goes w0 r s s' r' w'/\VR r' v v'/\s'.lim=s.lim/\s'.cx=s.cx:=by
 obtain⟨v',w',r',h1,h2,h3,h4,h5⟩:=h
 exact⟨v',w',r', .inl (by rw[hn];simp[B3,h1]),h2,h3,h4,h5⟩
theorem CY {α:Type}{x:Option α}{f:α->St->R Value}{s s':St}{v:Value}(h:Option.rec (motive:=λ_=>R Value) .none (λa=>f a s) x= .some v s'): ∃a,x=some a/\f a s= .some v s':=by
 cases x with
 |none=>cases h
 |some a=>exact⟨a,rfl,h⟩
theorem Di {α:Type}{g:Option α}{f:α->M Value}(h: ∀a,NoPan (f a)):NoPan (λs=>Option.rec (motive:=λ_=>R Value) .none (λa=>f a s) g):=⟨λs c s' e=>by
 cases g with
 |none=>cases e
 |some a=>exact(h a).no _ _ _ e⟩
theorem Yr {x:Operand}(hx:o.op.operands.toList=[x])(ho: ∀a:Act,execOp a.eval o=pure (.value (a.eval x))):OpV E o (Ei ds x) ds:=by
 obtain⟨g,h1,h2⟩:=A1 ds x
 refine⟨_,by unfold Ei;rw[h1],λ_ _ rho tm=>Di (f:=λa s=> .some a s) (g:=g rho tm) λa=>Aj a, ?_⟩
 intro call round w0 w r U rho tm a s v s' hs hu hr h hf
 obtain⟨y,e1,e2⟩:=CY (f:=λa s=> .some a s) h
 cases e2
 exact⟨_,w,r, .inl (by rw[ho];rfl), .of_rel rfl hr,h2 _ _ _ _ _ _ hs (λt q=>hu t (by first|(rw[hx];simp at q ⊢;simp[q])|exact hx _ q)) e1,rfl,rfl⟩
theorem Cv {x:Operand}{k:Value->M Value}{m:Value->Sem Value}(hx:o.op.operands.toList=[x])(ho: ∀a:Act,execOp a.eval o=B3 (m (a.eval x)))(np: ∀y,NoPan (k y))
  (hk: ∀{w0 w:World} {r:Inj} {y y':Value} {s v s'},k y s= .some v s'->Rel w0 r s.mem w->AA r s.next s'.next->VR r y y'->Yields E w0 r s s' v w (m y')):OpV E o (AU ds x k) ds:=by
 obtain⟨g,h1,h2⟩:=A1 ds x
 refine⟨_,by unfold AU;rw[h1],λ_ _ rho tm=>Di (g:=g rho tm) np, ?_⟩
 intro call round w0 w r U rho tm a s v s' hs hu hr h hf
 obtain⟨y,e1,e2⟩:=CY h
 exact(hk e2 hr hf (h2 _ _ _ _ _ _ hs (λt q=>hu t (by first|(rw[hx];simp at q ⊢;simp[q])|exact hx _ q)) e1)).val (ho a)
theorem FS {x y:Operand}{k:Value->Value->M Value}{m:Value->Value->Sem Value}(hx:o.op.operands.toList=[x,y])(ho: ∀a:Act,execOp a.eval o=B3 (m (a.eval x) (a.eval y)))(np: ∀y z,NoPan (k y z))
  (hk: ∀{w0 w:World} {r:Inj} {y y' z z':Value} {s v s'},k y z s= .some v s'->Rel w0 r s.mem w->AA r s.next s'.next->VR r y y'->VR r z z'->Yields E w0 r s s' v w (m y' z')):OpV E o (BG ds x y k) ds:=by
 obtain⟨g,h1,h2⟩:=A1 ds x
 obtain⟨g',h3,h4⟩:=A1 ds y
 refine⟨_,by unfold BG;rw[h1,h3],λ_ _ rho tm=>Di (g:=g rho tm) (f:=λa s=>Option.rec (motive:=λ_=>R Value) .none (λb=>k a b s) (g' rho tm)) λa=>Di (np a), ?_⟩
 intro call round w0 w r U rho tm a s v s' hs hu hr h hf
 obtain⟨y,e1,e2⟩:=CY (f:=λa s=>Option.rec (motive:=λ_=>R Value) .none (λb=>k a b s) (g' rho tm)) h
 obtain⟨z,e3,e4⟩:=CY e2
 exact(hk e4 hr hf (h2 _ _ _ _ _ _ hs (λt q=>hu t (by first|(rw[hx];simp at q ⊢;simp[q])|exact hx _ q)) e1) (h4 _ _ _ _ _ _ hs (λt q=>hu t (by rw[hx];simp at q ⊢;simp[q])) e3)).val (ho a)
theorem Di_ {l:List (Nat×Operand)}{k:List (Nat×Value)->M Value}{m:List (Nat×Value)->Sem Value}(hx:o.op.operands.toList=l.map (·.2))(ho: ∀a:Act,execOp a.eval o=B3 (m (l.map λp=>(p.1,a.eval p.2))))(np: ∀y,NoPan (k y))
  (hk: ∀{w0 w:World} {r:Inj} {y y':List (Nat×Value)} {s v s'},k y s= .some v s'->Rel w0 r s.mem w->AA r s.next s'.next->PRs r y y'->Yields E w0 r s s' v w (m y')):OpV E o (Ez ds l k) ds:=by
 obtain⟨g,h1,h2⟩:=K9 ds l
 refine⟨_,by unfold Ez;rw[h1],λ_ _ rho tm=>Di (g:=g rho tm) np, ?_⟩
 intro call round w0 w r U rho tm a s v s' hs hu hr h hf
 obtain⟨y,e1,e2⟩:=CY h
 exact(hk e2 hr hf (h2 _ _ _ _ _ _ hs (λt q=>hu t (by first|(rw[hx];simp at q ⊢;simp[q])|exact hx _ q)) e1)).val (ho a)
end
section
variable {E:Env}{ds:List Nat}{o:Oper}
theorem Sk_ {x:Operand}(ho:o.op= .move x):OpV E o (Ei ds x) ds:=Yr (by simp[ho,Op.operands]) λa=>by simp only[execOp,ho]
theorem Rq_ {x:Operand}(ho:o.op= .assign x):OpV E o (Ei ds x) ds:=Yr (by simp[ho,Op.operands]) λa=>by simp only[execOp,ho]
theorem KM_ {e:Nat}(ho:o.op= .alloc e)(he:EnvTy E):OpV E o (.mk λ_ _ _ _=>Ce E e) ds:=by
 refine⟨_,rfl,λ_ _ _ _=>Ob_ _ _, ?_⟩
 intro call round w0 w r U rho tm a s v s' hs hu hr h hf
 exact(Rv_ he h hr hf).val (by simp only[execOp,ho];rfl)
theorem Un_ {e:Nat}{x:Operand}(ho:o.op= .box e x):OpV E o (AU ds x kBox) ds:=
 Cv (m:=Instr.box e) (by simp[ho,Op.operands]) (λa=>by simp only[execOp,ho];rfl) XX_ λh hr hf hx=>Wq_ h hr hf hx
theorem Mx_ {t:Nat}{ps:Array (Nat×Operand)}(ho:o.op= .build t ps)(he:EnvTy E):OpV E o (Ez ds ps.toList (BP E t)) ds:=
 Di_ (m:=λl=>Instr.build t l.toArray) (by simp[ho,Op.operands]) (λa=>by simp only[execOp,ho];rw[<-List.map_toArray];rfl) (PN_ _ _) λh hr hf hx=>RY_ he h hr (by simpa using hx)
theorem Zd_ {t n:Nat}{ps:Array (Nat×Operand)}(ho:o.op= .buildSlice t n ps)(he:EnvTy E):OpV E o (Ez ds ps.toList (BY E t n)) ds:=
 Di_ (m:=λl=>Instr.buildSlice t n l.toArray) (by simp[ho,Op.operands]) (λa=>by simp only[execOp,ho];rw[<-List.map_toArray];rfl) (Aau_ _ _ _) λh hr hf hx=>QY_ he h hr hf (by simpa using hx)
theorem QD_ {t:Nat}{x:Operand}(ho:o.op= .load t x)(he:EnvTy E):OpV E o (AU ds x (AQ E t)) ds:=
 Cv (m:=Instr.loadAt t) (by simp[ho,Op.operands]) (λa=>by simp only[execOp,ho];rfl) (YO_ _ _) λh hr hf hx=>Ql_ he h hr hx
theorem Ov_ {t:Nat}{x y:Operand}(ho:o.op= .store t x y)(he:EnvTy E):OpV E o (BG ds x y (AB E t)) ds:=by
 obtain⟨g,h1,h2⟩:=A1 ds x
 obtain⟨g',h3,h4⟩:=A1 ds y
 refine⟨_,by unfold BG;rw[h1,h3],λ_ _ rho tm=>Di (g:=g rho tm) (f:=λa s=>Option.rec (motive:=λ_=>R Value) .none (λb=>AB E t a b s) (g' rho tm)) λa=>Di (KK_ _ _ a), ?_⟩
 intro call round w0 w r U rho tm a s v s' hs hu hr h hf
 obtain⟨y,e1,e2⟩:=CY (f:=λa s=>Option.rec (motive:=λ_=>R Value) .none (λb=>AB E t a b s) (g' rho tm)) h
 obtain⟨z,e3,e4⟩:=CY e2
 obtain⟨rfl,w',k1,k2,k3,k4,k5⟩:=IB_ he e4 hr (h2 _ _ _ _ _ _ hs (λt q=>hu t (by simp[ho,Op.operands]at q ⊢;simp[q])) e1) (h4 _ _ _ _ _ _ hs (λt q=>hu t (by simp[ho,Op.operands]at q ⊢;simp[q])) e3)
 refine⟨undef,w',r, .inr ⟨?_,rfl⟩, .of_rel k3 k2, .tuple rfl (λi v v' e=>by simp at e),k4,k5⟩
 simp[execOp,ho,k1]
theorem Acg_ {x:Operand}(ho:o.op= .nilCheck x):OpV E o (AU ds x kNil) ds:=by
 obtain⟨g,h1,h2⟩:=A1 ds x
 refine⟨_,by unfold AU;rw[h1],λ_ _ rho tm=>Di (g:=g rho tm) MD_, ?_⟩
 intro call round w0 w r U rho tm a s v s' hs hu hr h hf
 obtain⟨y,e1,e2⟩:=CY h
 have hx:=h2 _ _ _ _ _ _ hs (λt q=>hu t (by simp[ho,Op.operands]at q ⊢;simp[q])) e1
 obtain⟨rfl,rfl,e3⟩:=Iz_ (P:=E.P) (w:=w) (a:=a) ho rfl e2 hx
 exact⟨_,w,r, .inl e3, .of_rel rfl hr,hx,rfl,rfl⟩
theorem LJ_ {op:BinOp}{t yt:Nat}{x y:Operand}(ho:o.op= .binOp op t x y yt)(he:EnvTy E):OpV E o (Cl.rec (motive:=λ_=>Cl OpT) (λf=>BG ds x y f) (aBin E op t x y)) ds:=by
 generalize hc:aBin E op t x y=c
 obtain⟨f⟩:=c
 refine FS (m:=λy' z'=>do eqGuard op t x y y' z';binOp op t y' z') (by simp[ho,Op.operands]) (λa=>by simp only[execOp,ho];rfl) (λy' z'=> ?_) λh hr hf hx hy=>Nn_ hc he h hr hx hy
 have slow: ∀op,NoPan (AS E op t x y y' z'):=λop=>Nl_ _ _ _ _ _ _ _
 have fast3: ∀(k:BV) op,NoPan (int3 k (AS E op t x y) y' z'):=λk op=>⟨λs c s' e=>by
  unfold int3 BR at e
  cases y'<;>simp only at e
  case int k1 a=>
   cases z'<;>simp only at e
   case int k2 b=>
    cases a with
    |negSucc m=>exact(slow op).no _ _ _ e
    |ofNat m=>
     cases b with
     |negSucc m=>exact(slow op).no _ _ _ e
     |ofNat n=>
      simp only at e
      cases e1:k k1 k2 m n with
      |none=>rw[e1]at e;exact(slow op).no _ _ _ e
      |some u=>rw[e1]at e;cases e
   all_goals exact(slow op).no _ _ _ e
  all_goals exact(slow op).no _ _ _ e⟩
 have fast2: ∀(k:Int->Int->St->R Value) (k3:BV) op,(∀a b,NoPan (k a b))->NoPan (int2 k (int3 k3 (AS E op t x y)) y' z'):=λk k3 op hk=>⟨λs c s' e=>by
  have f3:=fast3 k3 op
  unfold int2 BR at e
  cases y'<;>simp only at e
  case int k1 a=>
   cases z'<;>simp only at e
   case int k2 b=>
    cases e1:Dk k1 with
    |false=>rw[e1]at e;exact f3.no _ _ _ e
    |true=>
     cases e2:Dk k2 with
     |false=>rw[e1,e2]at e;exact f3.no _ _ _ e
     |true=>rw[e1,e2]at e;exact(hk a b).no _ _ _ e
   all_goals exact f3.no _ _ _ e
  all_goals exact f3.no _ _ _ e⟩
 have rI': ∀n,NoPan (rI n):=λn=>⟨λs c s' e=>by unfold rI at e;rw[BO]at e;cases e⟩
 have rB': ∀b,NoPan (rB b):=λb=>⟨λs c s' e=>by cases b<;>cases e⟩
 cases op<;>cases hc<;>first|exact slow _|exact fast3 _ _|exact fast2 _ _ _ λa b=>rI' _|exact fast2 _ _ _ λa b=>rB' _
theorem ZA_ {op:UnOp}{t:Nat}{x:Operand}(ho:o.op= .unOp op t x):OpV E o (AU ds x (kUn E.P op)) ds:=
 Cv (m:=Op.unary op) (by simp[ho,Op.operands]) (λa=>by simp only[execOp,ho];rfl) (Qx_ _ _) λh hr hf hx=>Py_ h hr hx
theorem Yn_ {s d:Nat}{x:Operand}(ho:o.op= .convert s d x)(he:EnvTy E):OpV E o (AU ds x (Cf E s d)) ds:=
 Cv (m:=convert s d) (by simp[ho,Op.operands]) (λa=>by simp only[execOp,ho];rfl) (OK_ _ _ _) λh hr hf hx=>MK_ he h hr hf hx
theorem SR_ {t:Nat}{x:Operand}(ho:o.op= .sliceToArrayPointer t x)(he:EnvTy E):OpV E o (AU ds x (Fc E t)) ds:=
 Cv (m:=Instr.arrayAt t) (by simp[ho,Op.operands]) (λa=>by simp only[execOp,ho];rfl) (RU_ _ _) λh hr hf hx=>Xf_ he h hr hx
theorem Ti_ {t:Nat}{x:Operand}(ho:o.op= .makeInterface t x)(he:EnvTy E):OpV E o (AU ds x (FB E t)) ds:=
 Cv (m:=Instr.makeInterface t) (by simp[ho,Op.operands]) (λa=>by simp only[execOp,ho];rfl) (XA_ _ _) λh hr hf hx=>JN_ he h hr hx
theorem Me_ {t:Nat}{x y:Operand}(ho:o.op= .makeSlice t x y)(he:EnvTy E):OpV E o (BG ds x y (EM E t)) ds:=
 FS (m:=Instr.makeSlice t) (by simp[ho,Op.operands]) (λa=>by simp only[execOp,ho];rfl) (ME_ _ _) λh hr hf hx hy=>NI_ he h hr hf hx hy
theorem Vs_ {t f:Nat}{x:Operand}(ho:o.op= .fieldAddr t x f)(he:EnvTy E):OpV E o (AU ds x λa=>kFld E t a f) ds:=
 Cv (m:=λx=>Instr.fieldAt t x f) (by simp[ho,Op.operands]) (λa=>by simp only[execOp,ho];rfl) (λy=>Xv_ _ _ y _) λh hr hf hx=>JQ_ he h hr hx
theorem OA_ {t f:Nat}{x:Operand}(ho:o.op= .field t x f)(he:EnvTy E):OpV E o (AU ds x λa=>EP E t a f) ds:=
 Cv (m:=λx=>Instr.field t x f) (by simp[ho,Op.operands]) (λa=>by simp only[execOp,ho];rfl) (λy=>Abr_ _ _ y _) λh hr hf hx=>XJ_ he h hr hx
theorem SS_ {t:Nat}{x y:Operand}(ho:o.op= .indexAddr t x y)(he:EnvTy E):OpV E o (BG ds x y (BT E t)) ds:=
 FS (m:=Instr.indexAt t) (by simp[ho,Op.operands]) (λa=>by simp only[execOp,ho];rfl) (Abl_ _ _) λh hr hf hx hy=>SB_ he h hr hx hy
theorem PT_ {t:Nat}{x y:Operand}(ho:o.op= .index t x y)(he:EnvTy E):OpV E o (BG ds x y (kIdx E t)) ds:=
 FS (m:=Instr.index t) (by simp[ho,Op.operands]) (λa=>by simp only[execOp,ho];rfl) (UV_ _ _) λh hr hf hx hy=>OI_ he h hr hx hy
theorem LX_ {k:Nat}{x:Operand}(ho:o.op= .extract x k):OpV E o (AU ds x (kExt k)) ds:=
 Cv (m:=λx=>Instr.extract x k) (by simp[ho,Op.operands]) (λa=>by simp only[execOp,ho];rfl) (Qu_ _) λh hr hf hx=>PV_ h hr hx
theorem ZN_ {xt t:Nat}{c:Bool}{x:Operand}(ho:o.op= .typeAssert x xt t c)(he:EnvTy E):OpV E o (AU ds x (Ff E t c)) ds:=
 Cv (m:=λx=>Instr.typeAssert x xt t c) (by simp[ho,Op.operands]) (λa=>by simp only[execOp,ho];rfl) (Oa_ _ _ _) λh hr hf hx=>JM_ he h hr hx
end
section
variable {E:Env}{ds:List Nat}{o:Oper}
theorem KO_ {x y z:Operand}(ho:o.op= .pick x y z):OpV E o (Cn ds x y z Aw) ds:=by
 obtain⟨g,h1,h2⟩:=A1 ds x
 obtain⟨g',h3,h4⟩:=A1 ds y
 obtain⟨g2,h5,h6⟩:=A1 ds z
 refine⟨_,by unfold Cn;rw[h1,h3,h5],λ_ _ rho tm=>A3 _ λa=>A3 _ λb=>A3 _ λc=>AcY_ _ _ _, ?_⟩
 intro call round w0 w r U rho tm a s v s' hs hu hr h hf
 obtain⟨x',e1,h⟩:=A4 h
 obtain⟨y',e2,h⟩:=A4 h
 obtain⟨z',e3,h⟩:=A4 h
 obtain⟨rfl,t,k1,k2⟩:=QI_ h (h2 _ _ _ _ _ _ hs (λt q=>hu t (by simp[ho,Op.operands]at q ⊢;simp[q])) e1) (h4 _ _ _ _ _ _ hs (λt q=>hu t (by simp[ho,Op.operands]at q ⊢;simp[q])) e2) (h6 _ _ _ _ _ _ hs (λt q=>hu t (by simp[ho,Op.operands]at q ⊢;simp[q])) e3)
 refine⟨_,w,r, .inl ?_, .of_rel rfl hr,k2,rfl,rfl⟩
 simp only[execOp,ho,k1]
 cases t<;>simp[asBool]
theorem Tv_ {t:Nat}{x:Operand}{lo hi mx:Option Operand}(ho:o.op= .slice t x lo hi mx)(he:EnvTy E):OpV E o (HY E ds t x lo hi mx) ds:=by
 cases mx with
 |some m=>
  exact⟨_,rfl,λ_ _ _ _=>Ap,λcall round w0 w r U rho tm a s v s' hs hu hr h hf=>by cases h⟩
 |none=>
  obtain⟨g,h1,h2⟩:=A1 ds x
  obtain⟨g',h3,h4⟩:=Kj ds lo
  obtain⟨g2,h5,h6⟩:=Kj ds hi
  refine⟨λ_ _ rho tm=>M.on (g rho tm) λa=>M.on (g' rho tm) λb=>M.on (g2 rho tm) λc=>Bz E t a b c,by unfold HY KX;simp only[h1,h3,h5],λ_ _ rho tm=>A3 _ λa=>A3 _ λb=>A3 _ λc=>VY_ _ _ _ _ _, ?_⟩
  intro call round w0 w r U rho tm a s v s' hs hu hr h hf
  obtain⟨x',e1,h⟩:=A4 h
  obtain⟨y',e2,h⟩:=A4 h
  obtain⟨z',e3,h⟩:=A4 h
  exact(PE_ he h hr (h2 _ _ _ _ _ _ hs (λt q=>hu t (by simp[ho,Op.operands]at q ⊢;simp[q])) e1) (h4 _ _ _ _ _ _ hs (λt q=>hu t (by simp[ho,Op.operands]at q ⊢;simp[q])) e2) (h6 _ _ _ _ _ _ hs (λt q=>hu t (by simp[ho,Op.operands]at q ⊢;simp[q])) e3)).val (by simp only[execOp,ho];rfl)
theorem Le_ {t:Nat}(ho:o.op= .makeMap t none):OpV E o (.mk λ_ _ _ _=>De) ds:=by
 refine⟨_,rfl,λ_ _ _ _=>ED_, ?_⟩
 intro call round w0 w r U rho tm a s v s' hs hu hr h hf
 exact(Hf_ h hr hf).val (by simp only[execOp,ho];rfl)
theorem SC_ {t:Nat}{x:Operand}(ho:o.op= .makeMap t (some x))(he:EnvTy E):OpV E o (AU ds x (Fh E t)) ds:=
 Cv (m:=λx=>Instr.makeMap t (some x)) (by simp[ho,Op.operands]) (λa=>by simp only[execOp,ho];rfl) (Zc_ _ _) λh hr hf hx=>Tp_ he h hr hf hx
theorem NH_ {t:Nat}{c:Bool}{x y:Operand}(ho:o.op= .lookup t x y c)(he:EnvTy E):OpV E o (BG ds x y (Cs E t c)) ds:=
 FS (m:=λx y=>Instr.lookup t x y c) (by simp[ho,Op.operands]) (λa=>by simp only[execOp,ho];rfl) (Aao_ _ _ _) λh hr hf hx hy=>RT_ he h hr hx hy
theorem PP_ {t:Nat}{x y:Operand}(ho:o.op= .mapEntry t x y)(he:EnvTy E):OpV E o (BG ds x y (Hn E t)) ds:=
 FS (m:=Instr.mapEntry t) (by simp[ho,Op.operands]) (λa=>by simp only[execOp,ho];rfl) (AaH_ _ _) λh hr hf hx hy=>Ly_ he h hr hx hy
theorem N8 {x y z:Operand}{k:Value->Value->Value->M Value}{m:Value->Value->Value->Sem Unit}(hx:o.op.operands.toList=[x,y,z])(ho: ∀a:Act,execOp a.eval o=(do m (a.eval x) (a.eval y) (a.eval z);pure .skip))(np: ∀x y z,NoPan (k x y z))
  (hk: ∀{w0 w:World} {r:Inj} {x x' y y' z z':Value} {s v s'},k x y z s= .some v s'->Rel w0 r s.mem w->VR r x x'->VR r y y'->VR r z z'->v=undef/\ ∃w',(m x' y' z').run E.P w= .ok () w'/\Goes w0 r s s' r w'/\s'.lim=s.lim/\s'.cx=s.cx):OpV E o (Cn ds x y z k) ds:=by
 obtain⟨g,h1,h2⟩:=A1 ds x
 obtain⟨g',h3,h4⟩:=A1 ds y
 obtain⟨g2,h5,h6⟩:=A1 ds z
 refine⟨_,by unfold Cn;rw[h1,h3,h5],λ_ _ rho tm=>A3 _ λa=>A3 _ λb=>A3 _ λc=>np _ _ _, ?_⟩
 intro call round w0 w r U rho tm a s v s' hs hu hr h hf
 obtain⟨x',e1,h⟩:=A4 h
 obtain⟨y',e2,h⟩:=A4 h
 obtain⟨z',e3,h⟩:=A4 h
 obtain⟨rfl,w',k1,k2,k3,k4⟩:=hk h hr (h2 _ _ _ _ _ _ hs (λt q=>hu t (by rw[hx];simp at q ⊢;simp[q])) e1) (h4 _ _ _ _ _ _ hs (λt q=>hu t (by rw[hx];simp at q ⊢;simp[q])) e2) (h6 _ _ _ _ _ _ hs (λt q=>hu t (by rw[hx];simp at q ⊢;simp[q])) e3)
 refine⟨undef,w',r, .inr ⟨?_,rfl⟩,k2, .undef,k3,k4⟩
 rw[ho]
 simp[k1]
theorem WX_ {t:Nat}{x y z:Operand}(ho:o.op= .mapUpdate t x y z)(he:EnvTy E):OpV E o (Cn ds x y z (DC E t)) ds:=
 N8 (m:=Instr.mapUpdate t) (by simp[ho,Op.operands]) (λa=>by simp only[execOp,ho]) (Z6 _ _) λh hr hx hy hz=>CH_ he h hr hx hy hz
theorem IE_ {t:Nat}{x y z:Operand}(ho:o.op= .insert t x y z)(he:EnvTy E):OpV E o (Cn ds x y z (DC E t)) ds:=
 N8 (m:=Instr.mapUpdate t) (by simp[ho,Op.operands]) (λa=>by simp only[execOp,ho]) (Z6 _ _) λh hr hx hy hz=>CH_ he h hr hx hy hz
theorem Xm_ {t:Nat}{x y z:Operand}(ho:o.op= .entryStore t x y z):OpV E o (Cn ds x y z D4) ds:=
 N8 (m:=Instr.entryStore t) (by simp[ho,Op.operands]) (λa=>by simp only[execOp,ho]) QQ_ λh hr hx hy hz=>QF_ h hr hx hy hz
theorem ZB_ {t:Nat}{x:Operand}(ho:o.op= .range t x)(he:EnvTy E):OpV E o (AU ds x (ES E t)) ds:=
 Cv (m:=Instr.range t) (by simp[ho,Op.operands]) (λa=>by simp only[execOp,ho];rfl) (VE_ _ _) λh hr hf hx=>ZR_ he h hr hf hx
theorem UN_ {x:Operand}(ho:o.op= .next x true):OpV E o (AU ds x EN) ds:=
 Cv (m:=λx=>Instr.next x true o.type) (by simp[ho,Op.operands]) (λa=>by simp only[execOp,ho];rfl) Lw_ λh hr hf hx=>XV_ h hr hx
theorem YD {α β:Type}(f:α->β)(a:Array α):a.map f=(a.toList.map f).toArray:=by rw[<-List.map_toArray]
theorem VRs.func {r:Inj}{f:Nat}{a a' c c':List Value}(h:VRs r a a')(k:VRs r c c'):VR r (.func (.func f) a.toArray c.toArray) (.func (.func f) a'.toArray c'.toArray):=
 .func rfl (by simpa using h.1) (λi v v' e e'=>h.2 i v v' (by simpa using e) (by simpa using e')) (by simpa using k.1) (λi v v' e e'=>k.2 i v v' (by simpa using e) (by simpa using e'))
theorem NW_ {f:Nat}{first cap:Array Operand}(ho:o.op= .makeFunc (.func f) first cap):OpV E o (Ih ds first.toList cap.toList λx c=>M.pure (.func (.func f) x.toArray c.toArray)) ds:=by
 obtain⟨g,h1,h2⟩:=Dm ds first.toList
 obtain⟨g',h3,h4⟩:=Dm ds cap.toList
 refine⟨_,by unfold Ih;rw[h1,h3],λ_ _ rho tm=>Di (g:=g rho tm) (f:=λ(a:List Value) s=>Option.rec (motive:=λ_=>R Value) .none (λ(b:List Value)=>M.pure (Value.func (.func f) a.toArray b.toArray) s) (g' rho tm)) λa=>Di (f:=λ(b:List Value)=>M.pure (Value.func (.func f) a.toArray b.toArray)) λb=>Aj _, ?_⟩
 intro call round w0 w r U rho tm a s v s' hs hu hr h hf
 obtain⟨x',e1,h⟩:=CY (f:=λ(a:List Value) s=>Option.rec (motive:=λ_=>R Value) .none (λ(b:List Value)=>M.pure (Value.func (.func f) a.toArray b.toArray) s) (g' rho tm)) h
 obtain⟨y',e2,h⟩:=CY (f:=λ(b:List Value)=>M.pure (Value.func (.func f) x'.toArray b.toArray)) h
 obtain⟨rfl,rfl⟩:=Ac h
 refine⟨_,w,r, .inl ?_, .of_rel rfl hr,(h2 _ _ _ _ _ _ hs (λt q=>hu t (by simp[ho,Op.operands]at q ⊢;simp[q])) e1).func (h4 _ _ _ _ _ _ hs (λt q=>hu t (by simp[ho,Op.operands]at q ⊢;simp[q])) e2),rfl,rfl⟩
 simp[execOp,ho,Instr.makeFunc]
 exact⟨YD _ _,YD _ _⟩
theorem AcT_ {b:Builtin}{c:Call}(ho:o.op= .call c)(hb:c.callee= .builtin b)(hn:b≠ .recover)(he:EnvTy E):OpV E o (Gu ds c.args.toList (A8 E b c.argTypes.toList)) ds:=by
 obtain⟨g,h1,h2⟩:=Dm ds c.args.toList
 refine⟨_,by unfold Gu;rw[h1],λ_ _ rho tm=>Di (g:=g rho tm) (Yv_ _ _ _), ?_⟩
 intro call round w0 w r U rho tm a s v s' hs hu hr h hf
 obtain⟨l,e1,h⟩:=CY h
 have hl:VRs r l (c.args.toList.map a.eval):=h2 _ _ _ _ _ _ hs (λt q=>hu t (by simp[ho,Op.operands,Call.operands]at q ⊢;simp[q])) e1
 have key: ∀{m:Sem Value},Yields E w0 r s s' v w m->(∀(cs:Array Bool) w,(builtin b c.argTypes o.type cs (c.args.map a.eval)).run E.P w=(B3 m).run E.P w)->
   ∃v' w' r',((execOp a.eval o).run E.P w= .ok (.value v') w'\/((execOp a.eval o).run E.P w= .ok .skip w'/\v'=undef))/\Goes w0 r s s' r' w'/\VR r' v v'/\s'.lim=s.lim/\s'.cx=s.cx:=by
  intro m hy hm
  obtain⟨v',w',r',k1,k2,k3,k4,k5⟩:=hy
  refine⟨v',w',r', .inl ?_,k2,k3,k4,k5⟩
  simp only[execOp,ho,resolve,hb,invoke,Sem.run_bind,Sem.run_pure,Result.andThen_ok,hm,B3,k1]
 generalize hts:c.argTypes.toList=ts at h
 have hmap:c.args.map a.eval=(c.args.toList.map a.eval).toArray:=by rw[<-List.map_toArray]
 have ht0: ∀{t:Nat} {l:List Nat},c.argTypes.toList=t::l->c.argTypes[0]?=some t:=by
  intro t l e;rw[<-Array.getElem?_toList,e];rfl
 have ht1: ∀{t t2:Nat} {l:List Nat},c.argTypes.toList=t::t2::l->c.argTypes[1]?=some t2:=by
  intro t t2 l e;rw[<-Array.getElem?_toList,e];rfl
 unfold A8 at h
 split at h
 ·rename_i t ts' x
  obtain⟨x',l',q1,q2,q3⟩:=hl.inv
  have:=q3.inv_nil
  subst this
  refine key (VK_ (ty:=o.type) (ht0 hts) he h hr q2) λcs w=> ?_
  rw[hmap,q1];simp[builtin,B3]
 ·rename_i t ts' x
  obtain⟨x',l',q1,q2,q3⟩:=hl.inv
  have:=q3.inv_nil
  subst this
  refine key (Tb_ (ty:=o.type) (ht0 hts) he h hr q2) λcs w=> ?_
  rw[hmap,q1];simp[builtin,B3]
 ·obtain⟨y',l1,q1,q2,q3⟩:=hl.inv
  obtain⟨x',l',q4,q5,q6⟩:=q3.inv
  have:=q6.inv_nil
  subst this
  subst q4
  refine key (Ng_ (ty:=o.type) (ht0 hts) (ht1 hts) he h hr hf q2 q5) λcs w=> ?_
  rw[hmap,q1];simp[builtin,B3]
 ·obtain⟨y',l1,q1,q2,q3⟩:=hl.inv
  obtain⟨x',l',q4,q5,q6⟩:=q3.inv
  have:=q6.inv_nil
  subst this
  subst q4
  refine key (Ty_ (ty:=o.type) (ht0 hts) he h hr q2 q5) λcs w=> ?_
  rw[hmap,q1];simp[builtin,B3]
 ·obtain⟨y',l1,q1,q2,q3⟩:=hl.inv
  obtain⟨x',l',q4,q5,q6⟩:=q3.inv
  have:=q6.inv_nil
  subst this
  subst q4
  refine key (YQ_ (ty:=o.type) (ht0 hts) he h hr q2 q5) λcs w=> ?_
  rw[hmap,q1];simp[builtin,B3]
 ·obtain⟨x',l',q1,q2,q3⟩:=hl.inv
  have:=q3.inv_nil
  subst this
  refine key (IJ_ (ty:=o.type) (ht0 hts) he h hr q2) λcs w=> ?_
  rw[hmap,q1];simp[builtin,B3]
 ·refine key (RK_ (ts:=c.argTypes) (ty:=o.type) h hr hl) λcs w=> ?_
  rw[hmap];simp[builtin,B3]
 ·refine key (AbH_ (ts:=c.argTypes) (ty:=o.type) h hr hl) λcs w=> ?_
  rw[hmap];simp[builtin,B3]
 ·cases h
end
abbrev Out (α:Type):Type:=Sum α (List PanicEntry)
def rOf {α:Type}(o:Out α)(s:St):R α:=
 match o with
 | .inl a=> .some a s
 | .inr c=> .pan c s
def Bnd (s:St):Prop:=s.lim<=s.next
structure LocG {α:Type}(m:M α)(s:St)(o:Out α)(s':St)(Rd Wr:Nat->Prop)(dr dw:List Nat):Prop where
 rd:s'.rd=dr++s.rd
 wr:s'.wr=dw++s.wr
 nxt:s.next<=s'.next
 lim:s'.lim=s.lim
 bnd:Bnd s'
 rlt: ∀l,Rd l->l<s'.next
 wlt: ∀l,Wr l->l<s'.next
 old: ∀l,¬Wr l->T.get s'.mem l=T.get s.mem l
 any: ∀t:St,t.next=s.next->t.lim=s.lim->t.cx=s.cx->(∀l,Rd l\/Wr l->T.get t.mem l=T.get s.mem l)->
  ∃t',m t=rOf o t'/\t'.next=s'.next/\t'.lim=s'.lim/\t'.cx=s'.cx/\t'.rd=dr++t.rd/\t'.wr=dw++t.wr/\
   (∀l,Wr l->T.get t'.mem l=T.get s'.mem l)/\(∀l,¬Wr l->T.get t'.mem l=T.get t.mem l)
def Cw {α:Type}(m:M α)(s:St)(o:Out α)(s':St):Prop:=
 ∃Rd Wr dr dw,LocG m s o s' Rd Wr dr dw/\(∀l,Rd l->l<s.lim->l∈dr)/\(∀l,Wr l->l<s.lim->l∈dw)
structure Loc {α:Type}(m:M α):Prop where
 at': ∀s o s',m s=rOf o s'->Bnd s->Cw m s o s'
theorem LocG.seq {α β:Type}{m:M α}{n C:M β}{s s1 s':St}{o1:Out α}{o:Out β}{R1 W1 R2 W2:Nat->Prop}{r1 w1 r2 w2:List Nat}
  (h:LocG m s o1 s1 R1 W1 r1 w1) (k:LocG n s1 o s' R2 W2 r2 w2) (hC: ∀t t1,m t=rOf o1 t1->C t=n t1):LocG C s o s' (λl=>R1 l\/R2 l) (λl=>W1 l\/W2 l) (r2++r1) (w2++w1) where
 rd:=by rw[k.rd,h.rd,List.append_assoc]
 wr:=by rw[k.wr,h.wr,List.append_assoc]
 nxt:=Nat.le_trans h.nxt k.nxt
 lim:=k.lim.trans h.lim
 bnd:=k.bnd
 rlt:=λl e=>e.elim (λe=>Nat.lt_of_lt_of_le (h.rlt l e) k.nxt) (k.rlt l)
 wlt:=λl e=>e.elim (λe=>Nat.lt_of_lt_of_le (h.wlt l e) k.nxt) (k.wlt l)
 old:=λl e=>(k.old l λx=>e (.inr x)).trans (h.old l λx=>e (.inl x))
 any:=λt e1 e2 e3 e4=>by
  obtain⟨t1,q1,q2,q3,q4,q5,q6,q7,q8⟩:=h.any t e1 e2 e3 λl e=>e4 l (e.elim (λe=> .inl (.inl e)) (λe=> .inr (.inl e)))
  obtain⟨t2,p1,p2,p3,p4,p5,p6,p7,p8⟩:=k.any t1 q2 q3 q4 (λl e=>by
   by_cases hw:W1 l
   ·exact q7 l hw
   ·rw[q8 l hw,h.old l hw]
    exact e4 l (e.elim (λe=> .inl (.inr e)) (λe=> .inr (.inr e))))
  refine⟨t2,(hC t t1 q1).trans p1,p2,p3,p4,by rw[p5,q5,List.append_assoc],by rw[p6,q6,List.append_assoc],λl e=> ?_,λl e=>(p8 l λx=>e (.inr x)).trans (q8 l λx=>e (.inl x))⟩
  by_cases hw:W2 l
  ·exact p7 l hw
  ·rw[p8 l hw,k.old l hw]
   exact e.elim (q7 l) (λx=>absurd x hw)
theorem Cw.bnd {α:Type}{m:M α}{s s':St}{o:Out α}(h:Cw m s o s'):Bnd s':=let ⟨_,_,_,_,e,_⟩:=h;e.bnd
theorem Cw.lim {α:Type}{m:M α}{s s':St}{o:Out α}(h:Cw m s o s'):s'.lim=s.lim:=let ⟨_,_,_,_,e,_⟩:=h;e.lim
theorem Cw.next {α:Type}{m:M α}{s s':St}{o:Out α}(h:Cw m s o s'):s.next<=s'.next:=let ⟨_,_,_,_,e,_⟩:=h;e.nxt
theorem Cw.seq {α β:Type}{m:M α}{n C:M β}{s s1 s':St}{o1:Out α}{o:Out β}(h:Cw m s o1 s1)(k:Cw n s1 o s')(hC: ∀t t1,m t=rOf o1 t1->C t=n t1):Cw C s o s':=by
 obtain⟨R1,W1,r1,w1,h1,h2,h3⟩:=h
 obtain⟨R2,W2,r2,w2,k1,k2,k3⟩:=k
 refine⟨_,_,_,_,h1.seq k1 hC,λl e x=> ?_,λl e x=> ?_⟩
 ·exact e.elim (λe=>List.mem_append_right _ (h2 l e x)) (λe=>List.mem_append_left _ (k2 l e (by rw[h1.lim];exact x)))
 ·exact e.elim (λe=>List.mem_append_right _ (h3 l e x)) (λe=>List.mem_append_left _ (k3 l e (by rw[h1.lim];exact x)))
theorem AM {α:Type}{o:Out α}{a:α}{s s':St}(h:R.some a s=rOf o s'):o= .inl a/\s'=s:=by cases o<;>cases h;exact⟨rfl,rfl⟩
theorem Ig {α:Type}{o:Out α}{c:List PanicEntry}{s s':St}(h:R.pan c s=rOf o s'):o= .inr c/\s'=s:=by cases o<;>cases h;exact⟨rfl,rfl⟩
theorem Al {α:Type}{o:Out α}{s':St}(h:R.none=rOf o s'):False:=by cases o<;>cases h
theorem Cw.quiet {α:Type}{m:M α}{s:St}{o:Out α}(hb:Bnd s)(h: ∀t:St,t.cx=s.cx->m t=rOf o t):Cw m s o s:=
 ⟨λ_=>False,λ_=>False,[],[],⟨rfl,rfl,Nat.le_refl _,rfl,hb,λ_ e=>e.elim,λ_ e=>e.elim,λ_ _=>rfl,
  λt e1 e2 e3 _=>⟨t,h t e3,e1,e2,e3,rfl,rfl,λ_ e=>e.elim,λ_ _=>rfl⟩⟩,λ_ e=>e.elim,λ_ e=>e.elim⟩
theorem Ae {α:Type}(a:α):Loc (M.pure a):=⟨λs o s' h hb=>by
 obtain⟨rfl,rfl⟩:=AM h
 exact .quiet hb λt _=>rfl⟩
theorem Ag {α:Type}:Loc (aA:M α):=⟨λs o s' h hb=>(Al h).elim⟩
theorem D9 {α:Type}(x:Option α):Loc (M.ofOpt x):=by
 cases x with
 |none=>exact Ag
 |some a=>exact Ae a
theorem Ij {α β:Type}{m:M α}{f:α->M β}{g:List PanicEntry->M β}(h:Loc m)(kf: ∀a,Loc (f a))(kg: ∀c,Loc (g c)):
  Loc (λs=>R.rec (motive:=λ_=>R β) .none (λa s=>f a s) (λc s=>g c s) (m s)):=⟨λs o s' e hb=>by
 cases e1:m s with
 |none=>rw[e1]at e;exact(Al e).elim
 |some a s1=>
  rw[e1]at e
  have h1:=h.at' s (.inl a) s1 e1 hb
  exact h1.seq ((kf a).at' s1 o s' e h1.bnd) λt t1 q=>by rw[q];rfl
 |pan c s1=>
  rw[e1]at e
  have h1:=h.at' s (.inr c) s1 e1 hb
  exact h1.seq ((kg c).at' s1 o s' e h1.bnd) λt t1 q=>by rw[q];rfl⟩
theorem Nw {α:Type}(c:List PanicEntry):Loc (λs=>R.pan c s:M α):=⟨λs o s' h hb=>by
 obtain⟨rfl,rfl⟩:=Ig h
 exact .quiet hb λt _=>rfl⟩
theorem Uc {α:Type}:Loc (λ_=>R.none:M α):=⟨λs o s' h hb=>(Al h).elim⟩
theorem Aa {α β:Type}{m:M α}{f:α->M β}(h:Loc m)(k: ∀a,Loc (f a)):Loc (M.bind m f):=Ij h k λc=>Nw c
theorem Fm {α:Type}{m:M α}(h:Loc m):Loc (noP m):=Ij h (λa=>Ae a) λ_=>Uc
theorem AI {α:Type}(b:Bool){m:M α}(h:Loc m):Loc (M.chk b m):=by
 cases b with
 |false=>exact Ag
 |true=>exact h
theorem Do {α:Type}(b:Bool){m n:M α}(h:Loc m)(k:Loc n):Loc (aN b m n):=by cases b<;>assumption
theorem AK {α β:Type}(x:Option α){f:α->M β}(k: ∀a,Loc (f a)):Loc (M.on x f):=by
 cases x with
 |none=>exact Ag
 |some a=>exact k a
theorem Dh {α:Type}(n:Nat){f:Nat->M α}(k: ∀a,Loc (f a)):Loc (fN n f):=by rw[Ao];exact k _
theorem Gt {α:Type}(n:Int){f:Int->M α}(k: ∀a,Loc (f a)):Loc (fI n f):=by rw[BO];exact k _
theorem JV {α:Type}(n:Addr){f:Addr->M α}(k: ∀a,Loc (f a)):Loc (fA n f):=by rw[Cq];exact k _
theorem DA_ {α:Type}(v:Value){f:IntKind->Int->M α}{d:M α}(h: ∀k n,Loc (f k n))(k:Loc d):Loc (BR v f d):=by
 cases v<;>first|exact h _ _|exact k
theorem Gd {α:Type}(b:Bool){m n:M α}(h:Loc m)(k:Loc n):Loc (Bool.rec (motive:=λ_=>M α) m n b):=by cases b<;>assumption
theorem Fa {α β:Type}(x:Option α){m:M β}{f:α->M β}(h:Loc m)(k: ∀a,Loc (f a)):Loc (Option.rec (motive:=λ_=>M β) m (λa=>f a) x):=by
 cases x with
 |none=>exact h
 |some a=>exact k a
theorem Jg (loc lim:Nat)(l:List Nat):notes loc lim l=if loc<lim then loc::l else l:=by
 unfold notes
 cases h:Nat.blt loc lim with
 |true=>rw[if_pos (A5 h)]
 |false=>rw[if_neg];intro h2;rw[show Nat.blt loc lim=true from Nat.ble_eq_true_of_le h2]at h;cases h
theorem Ew (loc lim:Nat)(l:List Nat):notes loc lim l=notes loc lim []++l:=by
 rw[Jg,Jg]
 split<;>rfl
theorem Mb {loc lim:Nat}(h:loc<lim):loc∈notes loc lim []:=by rw[Jg,if_pos h];exact List.mem_cons_self
theorem BJ_ (loc:Nat)(s:St):rdC loc s=if loc<s.next then match T.get s.mem loc with|none=> .none|some c=> .some c ⟨s.mem,s.next,s.lim,notes loc s.lim s.rd,s.wr,s.cx⟩else .none:=by
 obtain⟨mem,next,lim,rd,wr,cx⟩:=s
 unfold rdC
 simp only
 cases hb:Nat.blt loc next with
 |false=>rw[if_neg];intro h2;rw[show Nat.blt loc next=true from Nat.ble_eq_true_of_le h2]at hb;cases hb
 |true=>
  rw[if_pos (A5 hb)]
  cases T.get mem loc<;>rfl
theorem BH_ (loc:Nat)(c:Cell)(s:St):wrC loc c s=if loc<s.next then .some () ⟨T.set s.mem loc c,s.next,s.lim,s.rd,notes loc s.lim s.wr,s.cx⟩else .none:=by
 obtain⟨mem,next,lim,rd,wr,cx⟩:=s
 unfold wrC
 obtain⟨v,l,r,e⟩:=aU mem loc c
 simp only[e]
 cases hb:Nat.blt loc next with
 |false=>rw[if_neg];intro h2;rw[show Nat.blt loc next=true from Nat.ble_eq_true_of_le h2]at hb;cases hb
 |true=>rw[if_pos (A5 hb)]
theorem Rp (loc:Nat)(s:St):delC loc s=if loc<s.next then .some () ⟨T.del s.mem loc,s.next,s.lim,s.rd,notes loc s.lim s.wr,s.cx⟩else .none:=by
 obtain⟨mem,next,lim,rd,wr,cx⟩:=s
 unfold delC
 simp only
 cases hb:Nat.blt loc next with
 |false=>rw[if_neg];intro h2;rw[show Nat.blt loc next=true from Nat.ble_eq_true_of_le h2]at hb;cases hb
 |true=>rw[if_pos (A5 hb)]
theorem RH (vs:List Value)(s:St):newL vs s= .some s.next ⟨layL s.next vs s.next s.mem,s.next+vs.length+1,s.lim,s.rd,s.wr,s.cx⟩:=by
 obtain⟨mem,next,lim,rd,wr,cx⟩:=s
 have h0:newL vs ⟨mem,next,lim,rd,wr,cx⟩=fN next λb=>fN (Nat.succ (Nat.add b vs.length)) λn=>R.some b (St.mk (layL b vs b mem) n lim rd wr cx):=rfl
 rw[h0,Ao,Ao]
 rfl
theorem Qp (o:AObj)(s:St):newO o s= .some s.next ⟨T.set s.mem s.next (.O o),s.next+1,s.lim,s.rd,s.wr,s.cx⟩:=by
 obtain⟨mem,next,lim,rd,wr,cx⟩:=s
 have h0:newO o ⟨mem,next,lim,rd,wr,cx⟩=fN next λb=>fN (Nat.succ b) λn=>R.some b (St.mk (T.set mem b (.O o)) n lim rd wr cx):=rfl
 rw[h0,Ao,Ao]
theorem CB (loc:Nat):Loc (rdC loc):=⟨λs o s' h hb=>by
 rw[BJ_]at h
 split at h
 case isFalse=>exact(Al h).elim
 case isTrue hl=>
  cases e:T.get s.mem loc with
  |none=>rw[e]at h;exact(Al h).elim
  |some c=>
   rw[e]at h
   obtain⟨rfl,rfl⟩:=AM h
   refine⟨λl=>l=loc,λ_=>False,notes loc s.lim [],[],⟨Ew _ _ _,rfl,Nat.le_refl _,rfl,hb,λl e1=>by rw[e1];exact hl,λ_ e=>e.elim,λ_ _=>rfl,λt e1 e2 e3 e4=> ?_⟩,λl e1 e2=> ?_,λ_ e=>e.elim⟩
   ·refine⟨⟨t.mem,t.next,t.lim,notes loc t.lim t.rd,t.wr,t.cx⟩, ?_,e1,e2,e3, ?_,rfl,λ_ e=>e.elim,λ_ _=>rfl⟩
    ·rw[BJ_,if_pos (by rw[e1];exact hl),e4 loc (.inl rfl),e];rfl
    ·rw[<-e2];exact Ew _ _ _
   ·rw[e1];exact Mb (by rw[<-e1];exact e2)⟩
theorem B1 (loc:Nat)(c:Cell):Loc (wrC loc c):=⟨λs o s' h hb=>by
 rw[BH_]at h
 split at h
 case isFalse=>exact(Al h).elim
 case isTrue hl=>
  obtain⟨rfl,rfl⟩:=AM h
  refine⟨λ_=>False,λl=>l=loc,[],notes loc s.lim [],⟨rfl,Ew _ _ _,Nat.le_refl _,rfl,hb,λ_ e=>e.elim,λl e1=>by rw[e1];exact hl,λl e=> ?_,λt e1 e2 e3 e4=> ?_⟩,λ_ e=>e.elim,λl e1 e2=> ?_⟩
  ·simp only[T.get_set,if_neg e]
  ·refine⟨⟨T.set t.mem loc c,t.next,t.lim,t.rd,notes loc t.lim t.wr,t.cx⟩, ?_,e1,e2,e3,rfl, ?_,λl e=> ?_,λl e=> ?_⟩
   ·rw[BH_,if_pos (by rw[e1];exact hl)];rfl
   ·rw[<-e2];exact Ew _ _ _
   ·simp only[T.get_set,if_pos e]
   ·simp only[T.get_set,if_neg e]
  ·rw[e1];exact Mb (by rw[<-e1];exact e2)⟩
theorem Qg_ (loc:Nat):Loc (delC loc):=⟨λs o s' h hb=>by
 rw[Rp]at h
 split at h
 case isFalse=>exact(Al h).elim
 case isTrue hl=>
  obtain⟨rfl,rfl⟩:=AM h
  refine⟨λ_=>False,λl=>l=loc,[],notes loc s.lim [],⟨rfl,Ew _ _ _,Nat.le_refl _,rfl,hb,λ_ e=>e.elim,λl e1=>by rw[e1];exact hl,λl e=> ?_,λt e1 e2 e3 e4=> ?_⟩,λ_ e=>e.elim,λl e1 e2=> ?_⟩
  ·simp only[aP,if_neg e]
  ·refine⟨⟨T.del t.mem loc,t.next,t.lim,t.rd,notes loc t.lim t.wr,t.cx⟩, ?_,e1,e2,e3,rfl, ?_,λl e=> ?_,λl e=> ?_⟩
   ·rw[Rp,if_pos (by rw[e1];exact hl)];rfl
   ·rw[<-e2];exact Ew _ _ _
   ·simp only[aP,if_pos e]
   ·simp only[aP,if_neg e]
  ·rw[e1];exact Mb (by rw[<-e1];exact e2)⟩
theorem Kh (b:Nat): ∀(vs:List Value) (loc:Nat) (t:T Cell) (k:Nat),T.get (layL b vs loc t) k=if loc<=k/\k<loc+vs.length then(vs[k-loc]?).map (.C b)else T.get t k
 |[],loc,t,k=>by rw[if_neg (λe=>by have:=e.2;simp at this;omega)];rfl
 |v::vs,loc,t,k=>by
  have h0:layL b (v::vs) loc t=fN loc λloc=>layL b vs (Nat.succ loc) (T.set t loc (.C b v)):=rfl
  rw[h0,Ao,Kh b vs]
  by_cases h1:loc=k
  ·subst h1
   rw[if_neg (by omega),if_pos (by simp),T.get_set,if_pos rfl]
   simp
  ·by_cases h2:loc<=k/\k<loc+(v::vs).length
   ·have h3:k-loc=(k-Nat.succ loc)+1:=by omega
    rw[if_pos h2,if_pos (by simp at h2 ⊢;omega),h3,List.getElem?_cons_succ]
   ·rw[if_neg h2,if_neg (by simp at h2 ⊢;omega),T.get_set,if_neg (λe=>h1 e.symm)]
theorem EO (vs:List Value):Loc (newL vs):=⟨λs o s' h hb=>by
 rw[RH]at h
 obtain⟨rfl,rfl⟩:=AM h
 refine⟨λ_=>False,λl=>s.next<=l/\l<s.next+vs.length,[],[],⟨rfl,rfl,by show s.next<=s.next+vs.length+1;omega,rfl, ?_,λ_ e=>e.elim,λl e=> ?_,λl e=> ?_,λt e1 e2 e3 e4=> ?_⟩,λ_ e=>e.elim,λl e1 e2=> ?_⟩
 ·show s.lim<=s.next+vs.length+1
  unfold Bnd at hb;omega
 ·show l<s.next+vs.length+1
  omega
 ·simp only[Kh,if_neg e]
 ·refine⟨⟨layL t.next vs t.next t.mem,t.next+vs.length+1,t.lim,t.rd,t.wr,t.cx⟩, ?_,by rw[e1],e2,e3,rfl,rfl,λl e=> ?_,λl e=> ?_⟩
  ·rw[RH,e1];rfl
  ·simp only[Kh,e1,if_pos e]
  ·simp only[Kh,e1,if_neg e]
 ·unfold Bnd at hb;omega⟩
theorem GO (x:AObj):Loc (newO x):=⟨λs o s' h hb=>by
 rw[Qp]at h
 obtain⟨rfl,rfl⟩:=AM h
 refine⟨λ_=>False,λl=>l=s.next,[],[],⟨rfl,rfl,by show s.next<=s.next+1;omega,rfl, ?_,λ_ e=>e.elim,λl e=> ?_,λl e=> ?_,λt e1 e2 e3 e4=> ?_⟩,λ_ e=>e.elim,λl e1 e2=> ?_⟩
 ·show s.lim<=s.next+1
  unfold Bnd at hb;omega
 ·show l<s.next+1
  omega
 ·simp only[T.get_set,if_neg e]
 ·refine⟨⟨T.set t.mem t.next (.O x),t.next+1,t.lim,t.rd,t.wr,t.cx⟩, ?_,by rw[e1],e2,e3,rfl,rfl,λl e=> ?_,λl e=> ?_⟩
  ·rw[Qp,e1];rfl
  ·simp only[T.get_set,e1,if_pos e]
  ·simp only[T.get_set,e1,if_neg e]
 ·unfold Bnd at hb;omega⟩
theorem Ie:Loc getCx:=⟨λs o s' h hb=>by
 obtain⟨rfl,rfl⟩:=AM (show R.some s.cx s=rOf o s' from h)
 exact .quiet hb λt e=>by rw[<-e];rfl⟩
theorem Jh (x:Ctx):Loc (putCx x):=⟨λs o s' h hb=>by
 obtain⟨rfl,rfl⟩:=AM (show R.some () (St.mk s.mem s.next s.lim s.rd s.wr x)=rOf o s' from h)
 exact⟨λ_=>False,λ_=>False,[],[],⟨rfl,rfl,Nat.le_refl _,rfl,hb,λ_ e=>e.elim,λ_ e=>e.elim,λ_ _=>rfl,
  λt e1 e2 e3 _=>⟨St.mk t.mem t.next t.lim t.rd t.wr x,rfl,e1,e2,rfl,rfl,rfl,λ_ e=>e.elim,λ_ _=>rfl⟩⟩,λ_ e=>e.elim,λ_ e=>e.elim⟩⟩
theorem Ex (a:Addr):Loc (rdV a):=by
 obtain⟨b,o,s⟩:=a
 cases s with
 |some x=>exact Ag
 |none=>exact Aa (CB _) λc=>D9 _
theorem QZ (a:Addr)(v:Value):Loc (wrV a v):=by
 obtain⟨b,o,s⟩:=a
 cases s with
 |some x=>exact Ag
 |none=>exact Aa (CB _) λc=>AI _ (B1 _ _)
theorem Fk: ∀(n:Nat) (a:Addr),Loc (rdL n a)
 |0,_=>Ae _
 |n+1,a=>by
  have h0:rdL (n+1) a=fA a λa=>M.bind (rdV a) λv=>M.bind (rdL n ⟨a.block,Nat.succ a.off,a.spot⟩) λl=>M.pure (v::l):=rfl
  rw[h0]
  exact JV _ λa=>Aa (Ex a) λv=>Aa (Fk n _) λl=>Ae _
theorem H7: ∀(vs:List Value) (a:Addr),Loc (wrL vs a)
 |[],_=>Ae _
 |v::vs,a=>by
  have h0:wrL (v::vs) a=fA a λa=>M.bind (wrV a v) λ_=>wrL vs ⟨a.block,Nat.succ a.off,a.spot⟩:=rfl
  rw[h0]
  exact JV _ λa=>Aa (QZ a v) λv=>H7 vs _
theorem UO: ∀(n l:Nat),Loc (Cm n l)
 |0,_=>Ae _
 |n+1,l=>by
  have h0:Cm (n+1) l=M.bind (delC l) λ_=>Cm n (l+1):=rfl
  rw[h0]
  exact Aa (Qg_ l) λ_=>UO n _
theorem AV (x0:_)(x1:_):Loc (ti x0 x1):=by
 unfold ti
 repeat' (first|exact D9 _|intro _|split)
theorem Io (x0:_):Loc (pV x0):=by
 unfold pV
 repeat' (first|exact Ae _|apply AI|apply Gt|apply DA_|intro _|split)
theorem Nu_ (x0:_)(x1:_)(x2:_)(x3:_)(x4:_):Loc (CP x0 x1 x2 x3 x4):=by
 unfold CP
 repeat' (first|exact Ae _|exact Ag|exact AV _ _|apply Aa|apply AK|intro _|split)
theorem Vy_ (x0:_)(x1:_):Loc (Ga x0 x1):=by
 unfold Ga
 repeat' (first|exact Ae _|exact Ag|intro _|split)
theorem AcP_ (x0:_)(x1:_)(x2:_):Loc (GS x0 x1 x2):=by
 unfold GS
 repeat' (first|exact Vy_ _ _|apply AI|apply AK|intro _|split)
theorem PM_ (x0:_)(x1:_)(x2:_)(x3:_)(x4:_)(x5:_)(x6:_):Loc (AS x0 x1 x2 x3 x4 x5 x6):=by
 unfold AS
 repeat' (first|exact AcP_ _ _ _|exact Nu_ _ _ _ _ _|exact Io _|apply Do|apply AK|intro _|split)
theorem MI_ (x0:_):Loc (lenOf x0):=by
 unfold lenOf
 repeat' (first|exact Ae _|exact Ag|intro _|split)
theorem FG_ (x0:_)(x1:_)(x2:_):Loc (Fq x0 x1 x2):=by
 unfold Fq
 repeat' (first|exact Ae _|exact AV _ _|exact Fk _ _|exact Ex _|apply Aa|apply Do|intro _|split)
theorem KV_ (x0:_)(x1:_)(x2:_)(x3:_):Loc (GR x0 x1 x2 x3):=by
 unfold GR
 repeat' (first|exact AV _ _|exact H7 _ _|apply Aa|apply AI|intro _|split)
theorem GP (x0:_):Loc (asA x0):=by
 unfold asA
 repeat' (first|exact Ae _|exact Ag|intro _|split)
theorem I7 (x0:_)(x1:_)(x2:_):Loc (bnd x0 x1 x2):=by
 unfold bnd
 repeat' (first|exact Ae _|exact Ag|apply AI|intro _|split)
theorem OZ (x0:_):Loc (ptrA x0):=by
 unfold ptrA
 repeat' (first|exact Ae _|apply JV|intro _|split)
theorem Hj (x0:_)(x1:_)(x2:_):Loc (pSl x0 x1 x2):=by
 unfold pSl
 repeat' (first|exact Ae _|apply Dh|apply JV|intro _|split)
theorem JA (x0:_):Loc (pN x0):=by
 unfold pN
 repeat' (first|exact Ae _|apply Dh|intro _|split)
theorem Zr_ (x0:_)(x1:_)(x2:_)(x3:_)(x4:_):Loc (FM x0 x1 x2 x3 x4):=by
 unfold FM
 repeat' (first|exact Hj _ _ _|exact I7 _ _ _|apply Aa|apply AI|apply Gd|intro _|split)
theorem Rz_ (x0:_)(x1:_)(x2:_)(x3:_)(x4:_)(x5:_):Loc (slSl x0 x1 x2 x3 x4 x5):=by
 unfold slSl
 repeat' (first|exact Hj _ _ _|exact I7 _ _ _|apply Aa|apply AI|apply Gd|intro _|split)
theorem SX_ (x0:_)(x1:_)(x2:_):Loc (FV x0 x1 x2):=by
 unfold FV
 repeat' (first|exact Ae _|exact I7 _ _ _|apply Aa|intro _|split)
theorem UM_ (x0:_)(x1:_)(x2:_)(x3:_)(x4:_):Loc (Bz x0 x1 x2 x3 x4):=by
 unfold Bz
 repeat' (first|exact Ae _|exact Ag|exact SX_ _ _ _|exact Rz_ _ _ _ _ _ _|exact Zr_ _ _ _ _ _|exact I7 _ _ _|exact AV _ _|apply Aa|intro _|split)
theorem Tk (x0:_)(x1:_)(x2:_):Loc (srcL x0 x1 x2):=by
 unfold srcL
 repeat' (first|exact Ae _|exact Ag|exact Fk _ _|intro _|split)
theorem Ky_ (x0:_)(x1:_)(x2:_):Loc (appN x0 x1 x2):=by
 unfold appN
 repeat' (first|exact Ae _|exact Ag|apply AI|intro _|split)
theorem WY_ (x0:_)(x1:_)(x2:_)(x3:_):Loc (appL x0 x1 x2 x3):=by
 unfold appL
 repeat' (first|exact Ae _|exact Tk _ _ _|apply Do|intro _|split)
theorem VV_ (x0:_)(x1:_)(x2:_):Loc (oldL x0 x1 x2):=by
 unfold oldL
 repeat' (first|exact Ae _|exact Fk _ _|intro _|split)
theorem AcW_ (x0:_)(x1:_)(x2:_):Loc (E3 x0 x1 x2):=by
 unfold E3
 repeat' (first|exact Ae _|exact UO _ _|intro _|split)
theorem Aci_ (x0:_)(x1:_)(x2:_)(x3:_):Loc (CW x0 x1 x2 x3):=by
 unfold CW
 repeat' (first|exact Ae _|exact Ag|exact AcW_ _ _ _|exact B1 _ _|exact CB _|apply Aa|apply AI|apply Do|apply Dh|intro _|split)
theorem Aay_ (x0:_)(x1:_)(x2:_)(x3:_)(x4:_)(x5:_)(x6:_)(x7:_):Loc (grow x0 x1 x2 x3 x4 x5 x6 x7):=by
 unfold grow
 repeat' (first|exact Aci_ _ _ _ _|exact VV_ _ _ _|exact Hj _ _ _|exact EO _|exact B1 _ _|apply Aa|apply AI|apply Dh|apply Gd|intro _|split)
theorem LD_ (x0:_)(x1:_)(x2:_)(x3:_)(x4:_)(x5:_):Loc (EG x0 x1 x2 x3 x4 x5):=by
 unfold EG
 repeat' (first|exact Ae _|exact Hj _ _ _|exact H7 _ _|apply Aa|intro _|split)
theorem UJ_ (x0:_)(x1:_)(x2:_)(x3:_)(x4:_):Loc (BS x0 x1 x2 x3 x4):=by
 unfold BS
 repeat' (first|exact Ag|exact LD_ _ _ _ _ _ _|exact Aay_ _ _ _ _ _ _ _ _|exact WY_ _ _ _ _|exact Ky_ _ _ _|exact AV _ _|apply Aa|apply Do|intro _|split)
theorem JI_ (x0:_)(x1:_)(x2:_):Loc (BP x0 x1 x2):=by
 unfold BP
 repeat' (first|exact Ae _|exact Ag|exact D9 _|exact AV _ _|apply Aa|intro _|split)
theorem Qt_ (x0:_)(x1:_)(x2:_)(x3:_):Loc (BY x0 x1 x2 x3):=by
 unfold BY
 repeat' (first|exact Ae _|exact Ag|exact D9 _|exact AV _ _|exact EO _|exact B1 _ _|apply Aa|apply AI|intro _|split)
theorem OE (x0:_)(x1:_)(x2:_)(x3:_):Loc (EE x0 x1 x2 x3):=by
 unfold EE
 repeat' (first|exact Ae _|exact D9 _|exact AV _ _|apply Aa|apply Do|intro _|split)
theorem Wm_ (x0:_)(x1:_)(x2:_)(x3:_)(x4:_):Loc (ER x0 x1 x2 x3 x4):=by
 unfold ER
 repeat' (first|exact Ag|exact Tk _ _ _|exact JA _|exact MI_ _|exact AV _ _|exact H7 _ _|apply Aa|apply Dh|intro _|split)
theorem EC (x0:_):Loc (mapAt x0):=by
 unfold mapAt
 repeat' (first|exact Ae _|exact Ag|exact CB _|apply Aa|intro _|split)
theorem ZD_ (x0:_):Loc (D5 x0):=by
 unfold D5
 repeat' (first|exact Ag|exact EC _|exact JA _|apply Aa|intro _|split)
theorem AcN_ (x0:_)(x1:_)(x2:_):Loc (aLen x0 x1 x2):=by
 unfold aLen
 repeat' (first|exact Ae _|exact Ag|exact ZD_ _|exact JA _|exact AV _ _|apply Aa|intro _|split)
theorem Ada_ (x0:_)(x1:_)(x2:_):Loc (aCap x0 x1 x2):=by
 unfold aCap
 repeat' (first|exact Ag|exact JA _|exact AV _ _|apply Aa|apply AI|intro _|split)
theorem Qa_ (x0:_)(x1:_)(x2:_):Loc (Gb x0 x1 x2):=by
 unfold Gb
 repeat' (first|exact Ae _|exact Ag|exact AV _ _|exact H7 _ _|apply Aa|apply AI|intro _|split)
theorem Ul (x0:_):Loc (zeroV x0):=by
 unfold zeroV
 repeat' (first|exact Ae _|exact D9 _|apply Do|intro _|split)
theorem GB (E:_)(e:_)(t:_)(k:_)(es:_):Loc (Ca E e t k es):=AI _ (AK _ λ_=>Ae _)
theorem MC (x0:_)(x1:_)(x2:_):Loc (Dv x0 x1 x2):=by
 unfold Dv
 repeat' (first|exact Ae _|apply Gd|intro _|split)
theorem Oe (x0:_)(x1:_):Loc (zeroOf x0 x1):=by
 unfold zeroOf
 repeat' (first|exact Ul _|exact AV _ _|apply Aa|intro _|split)
theorem Abe_ (E:_)(a:_)(b:_)(k:_)(c:_):Loc (LO E a b k c):=Aa (GB _ _ _ _ _) λr=>by
 cases r with
 |none=>exact Aa (Oe _ _) λ_=>MC _ _ _
 |some j=>exact Ag
theorem Mo_ (E:_)(a:_)(b:_)(k:_)(c:_)(es:_):Loc (Du E a b k c es):=Aa (GB _ _ _ _ _) λr=>by
 cases r with
 |none=>exact Aa (Oe _ _) λ_=>MC _ _ _
 |some j=>exact AK _ λ_=>MC _ _ _
theorem HH (x0:_)(x1:_):Loc (mapT x0 x1):=by
 unfold mapT
 repeat' (first|exact Ae _|exact Ag|exact AV _ _|apply Aa|intro _|split)
theorem Ux_ (E:_)(t:_)(c:_)(x:_)(k:_):Loc (Cs E t c x k):=Aa (HH _ _) λke=>by
 cases x with
 |map m=>
  cases m with
  |none=>exact Abe_ _ _ _ _ _
  |some l=>exact Aa (EC _) λp=>Mo_ _ _ _ _ _ _
 |_=>exact Ag
theorem UR_ (E:_)(t:_)(k:_)(x:_)(l:_)(p:_):Loc (putE E t k x l p):=Aa (GB _ _ _ _ _) λr=>by
 cases r with
 |none=>exact B1 _ _
 |some j=>exact AK _ λ_=>AI _ (B1 _ _)
theorem ST (E:_)(t:_)(m:_)(k:_)(x:_):Loc (DC E t m k x):=Aa (HH _ _) λke=>by
 cases m with
 |map m=>
  cases m with
  |none=>exact Ag
  |some l=>exact Aa (EC _) λp=>Aa (UR_ _ _ _ _ _ _) λ_=>Ae _
 |_=>exact Ag
theorem AbG_ (E:_)(a:_)(b:_)(k:_)(l:_)(p:_):Loc (entE E a b k l p):=Aa (GB _ _ _ _ _) λr=>by
 cases r with
 |none=>exact Aa (Oe _ _) λ_=>Aa (B1 _ _) λ_=>Ae _
 |some j=>exact AK _ λ_=>AI _ (Aa (B1 _ _) λ_=>Ae _)
theorem QZ_ (E:_)(t:_)(m:_)(k:_):Loc (Hn E t m k):=Aa (HH _ _) λke=>by
 cases m with
 |map m=>
  cases m with
  |none=>exact Ag
  |some l=>exact Aa (EC _) λp=>AbG_ _ _ _ _ _ _
 |_=>exact Ag
theorem TE_ (x0:_)(x1:_)(x2:_):Loc (D4 x0 x1 x2):=by
 unfold D4
 repeat' (first|exact Ae _|exact Ag|exact EC _|exact B1 _ _|apply Aa|apply AK|intro _|split)
theorem YV:Loc (De):=by
 unfold De
 repeat' (first|exact Ae _|exact GO _|apply Aa|intro _|split)
theorem IN_ (x0:_)(x1:_)(x2:_):Loc (Fh x0 x1 x2):=by
 unfold Fh
 repeat' (first|exact Ag|exact YV|exact HH _ _|apply Aa|apply DA_|intro _|split)
theorem Sp_ (E:_)(t:_)(m:_)(k:_):Loc (kDel E t m k):=Aa (HH _ _) λke=>by
 cases m with
 |map m=>
  cases m with
  |none=>exact Aa (GB _ _ _ _ _) λ_=>Ae _
  |some l=>exact Aa (EC _) λp=>Aa (GB _ _ _ _ _) λr=>by cases r<;>exact Aa (B1 _ _) λ_=>Ae _
 |_=>exact Ag
theorem Mj_ (x0:_)(x1:_)(x2:_)(x3:_):Loc (A8 x0 x1 x2 x3):=by
 unfold A8
 repeat' (first|exact Ag|exact Sp_ _ _ _ _|exact Qa_ _ _ _|exact Ada_ _ _ _|exact AcN_ _ _ _|exact Wm_ _ _ _ _ _|exact UJ_ _ _ _ _ _|exact Io _|apply AI|apply AK|intro _|split)
theorem Lh_ (x0:_)(x1:_)(x2:_)(x3:_):Loc (idxN x0 x1 x2 x3):=by
 unfold idxN
 repeat' (first|exact Ag|exact OZ _|exact AV _ _|apply Aa|apply AI|intro _|split)
theorem Lb (x0:_):Loc (asN x0):=by
 unfold asN
 repeat' (first|exact Ae _|exact Ag|intro _|split)
theorem RQ_ (x0:_)(x1:_)(x2:_):Loc (Aw x0 x1 x2):=by
 unfold Aw
 repeat' (first|exact Ae _|exact Ag|apply Gd|intro _|split)
theorem VS (x0:_):Loc (ptrN x0):=by
 unfold ptrN
 repeat' (first|exact Ae _|intro _|split)
theorem Abo_ (x0:_)(x1:_):Loc (Ce x0 x1):=by
 unfold Ce
 repeat' (first|exact VS _|exact AV _ _|exact EO _|apply Aa|intro _|split)
theorem YN_ (x0:_):Loc (kBox x0):=by
 unfold kBox
 repeat' (first|exact VS _|exact EO _|apply Aa|intro _|split)
theorem KN_ (x0:_)(x1:_)(x2:_):Loc (AQ x0 x1 x2):=by
 unfold AQ
 repeat' (first|exact GP _|exact FG_ _ _ _|apply Aa|intro _|split)
theorem KF_ (x0:_)(x1:_)(x2:_)(x3:_):Loc (AB x0 x1 x2 x3):=by
 unfold AB
 repeat' (first|exact Ae _|exact GP _|exact KV_ _ _ _ _|apply Aa|intro _|split)
theorem Uo_ (x0:_):Loc (kNil x0):=by
 unfold kNil
 repeat' (first|exact Ae _|exact Ag|intro _|split)
theorem Abz_ (b:Bool):Loc (pB b):=by cases b<;>exact Ae _
theorem JM (x0:_)(x1:_)(x2:_):Loc (CJ x0 x1 x2):=by
 unfold CJ
 repeat' (first|exact Io _|apply AI|apply AK|intro _|split)
theorem VR_ (P:Program)(v:Value):Loc (xorU P v):=by
 have h:=JM P .xor v
 cases v with
 |int k n=>
  cases n with
  |negSucc m=>exact JM P .xor (.int k (.negSucc m))
  |ofNat m=>
   show Loc (Option.rec (motive:=λ_=>M Value) (CJ P .xor (.int k (.ofNat m))) (λx=>M.pure x) (notK k m))
   exact Fa _ (JM _ _ _) λ_=>Ae _
 |_=>exact h
theorem ND_ (x0:_)(x1:_)(x2:_):Loc (kUn x0 x1 x2):=by
 unfold kUn
 repeat' (first|exact Ae _|exact VR_ _ _|exact JM _ _ _|exact Abz_ _|intro _|split)
theorem JB_ (x0:_)(x1:_):Loc (strOf x0 x1):=by
 unfold strOf
 repeat' (first|exact Ae _|exact Fk _ _|apply Aa|apply AK|intro _|split)
theorem NO_ (x0:_)(x1:_)(x2:_)(x3:_)(x4:_):Loc (G5 x0 x1 x2 x3 x4):=by
 unfold G5
 repeat' (first|exact Ag|exact JB_ _ _|exact AV _ _|apply Aa|intro _|split)
theorem Zo_ (x0:_)(x1:_)(x2:_)(x3:_)(x4:_):Loc (ET x0 x1 x2 x3 x4):=by
 unfold ET
 repeat' (first|exact Ae _|exact Io _|exact AV _ _|apply Aa|apply AK|apply Gt|intro _|split)
theorem NU (x0:_)(x1:_)(x2:_)(x3:_):Loc (DL x0 x1 x2 x3):=by
 unfold DL
 repeat' (first|exact Zo_ _ _ _ _ _|exact NO_ _ _ _ _ _|exact Io _|apply AI|apply AK|intro _|split)
theorem Db_ (x0:_)(x1:_):Loc (rowN x0 x1):=by
 unfold rowN
 repeat' (first|exact Hj _ _ _|exact EO _|exact B1 _ _|apply Aa|apply AI|intro _|split)
theorem XH_ (l:List UInt8):Loc (E1 l):=by
 unfold E1
 rw[JD]
 exact Dh _ λn=>Db_ _ _
theorem NB_ (x0:_)(x1:_)(x2:_)(x3:_):Loc (FH x0 x1 x2 x3):=by
 unfold FH
 repeat' (first|exact Ag|exact XH_ _|exact NU _ _ _ _|exact AV _ _|apply Aa|intro _|split)
theorem Ka_ (x0:_)(x1:_)(x2:_)(x3:_)(x4:_)(x5:_):Loc (Fe x0 x1 x2 x3 x4 x5):=by
 unfold Fe
 repeat' (first|exact Ae _|exact Ag|exact NU _ _ _ _|exact AV _ _|exact Fk _ _|exact CB _|apply Aa|apply AI|intro _|split)
theorem Kv_ (x0:_)(x1:_)(x2:_)(x3:_):Loc (Cf x0 x1 x2 x3):=by
 unfold Cf
 repeat' (first|exact Ka_ _ _ _ _ _ _|exact NB_ _ _ _ _|exact NU _ _ _ _|intro _|split)
theorem XI_ (x0:_)(x1:_):Loc (Gh x0 x1):=by
 unfold Gh
 repeat' (first|exact Ae _|exact Ag|apply AI|intro _|split)
theorem LQ_ (x0:_)(x1:_)(x2:_):Loc (Fc x0 x1 x2):=by
 unfold Fc
 repeat' (first|exact XI_ _ _|exact AV _ _|apply Aa|intro _|split)
theorem Wi_ (x0:_)(x1:_)(x2:_):Loc (FB x0 x1 x2):=by
 unfold FB
 repeat' (first|exact Ae _|exact Ag|exact AV _ _|apply Aa|intro _|split)
theorem Kw_ (x0:_)(x1:_)(x2:_)(x3:_):Loc (mkSl x0 x1 x2 x3):=by
 unfold mkSl
 repeat' (first|exact Ae _|exact Ag|exact AV _ _|exact EO _|apply Aa|apply AI|intro _|split)
theorem Adj_ (x0:_)(x1:_)(x2:_)(x3:_):Loc (EM x0 x1 x2 x3):=by
 unfold EM
 repeat' (first|exact Kw_ _ _ _ _|exact Lb _|exact AV _ _|apply Aa|intro _|split)
theorem Kn (x0:_)(x1:_)(x2:_):Loc (CI x0 x1 x2):=by
 unfold CI
 repeat' (first|exact Ae _|exact Ag|exact AV _ _|apply Aa|intro _|split)
theorem Aal_ (x0:_)(x1:_)(x2:_)(x3:_):Loc (kFld x0 x1 x2 x3):=by
 unfold kFld
 repeat' (first|exact Kn _ _ _|exact OZ _|exact GP _|exact AV _ _|apply Aa|apply AI|intro _|split)
theorem Iq_ (x0:_):Loc (asCs x0):=by
 unfold asCs
 repeat' (first|exact Ae _|exact Ag|intro _|split)
theorem Lm_ (x0:_)(x1:_)(x2:_)(x3:_):Loc (EP x0 x1 x2 x3):=by
 unfold EP
 repeat' (first|exact Iq_ _|exact Kn _ _ _|exact OE _ _ _ _|exact AV _ _|apply Aa|intro _|split)
theorem Ym_ (x0:_)(x1:_)(x2:_)(x3:_):Loc (BT x0 x1 x2 x3):=by
 unfold BT
 repeat' (first|exact Lb _|exact Lh_ _ _ _ _|exact AV _ _|apply Aa|intro _|split)
theorem Qq_ (x0:_)(x1:_)(x2:_)(x3:_):Loc (idxV x0 x1 x2 x3):=by
 unfold idxV
 repeat' (first|exact Ae _|exact Ag|exact OE _ _ _ _|exact AV _ _|apply Aa|apply AI|apply AK|intro _|split)
theorem Sc_ (x0:_)(x1:_)(x2:_)(x3:_):Loc (kIdx x0 x1 x2 x3):=by
 unfold kIdx
 repeat' (first|exact Qq_ _ _ _ _|exact Lb _|exact AV _ _|apply Aa|intro _|split)
theorem Oo_ (x0:_)(x1:_):Loc (kExt x0 x1):=by
 unfold kExt
 repeat' (first|exact Ag|exact D9 _|intro _|split)
theorem QA_ (x0:_)(x1:_)(x2:_):Loc (okV x0 x1 x2):=by
 unfold okV
 repeat' (first|exact Ae _|exact Ag|apply Gd|intro _|split)
theorem YM_ (x0:_)(x1:_)(x2:_):Loc (ES x0 x1 x2):=by
 unfold ES
 repeat' (first|exact Ae _|exact Ag|exact AV _ _|exact GO _|apply Aa|intro _|split)
theorem JK_ (x0:_)(x1:_)(x2:_):Loc (sitN x0 x1 x2):=by
 unfold sitN
 repeat' (first|exact Ae _|exact B1 _ _|apply Aa|apply Do|apply Dh|intro _|split)
theorem Uk_ (x0:_):Loc (EN x0):=by
 unfold EN
 repeat' (first|exact Ag|exact JK_ _ _ _|exact CB _|apply Aa|apply Dh|intro _|split)
theorem Aaw_ (x0:_)(x1:_)(x2:_)(x3:_):Loc (Ff x0 x1 x2 x3):=by
 unfold Ff
 repeat' (first|exact Ag|exact QA_ _ _ _|exact Ul _|exact AV _ _|apply Aa|apply Do|apply AK|intro _|split)
theorem ZY_:Loc (GE):=by
 unfold GE
 repeat' (first|exact Ae _|exact Ag|exact Jh _|exact Ie|apply Aa|apply Fa|intro _|split)
theorem Zg_ (x0:_)(x1:_):Loc (Gj x0 x1):=by
 unfold Gj
 repeat' (first|exact Ae _|exact Ag|exact Jh _|exact Ie|apply Aa|intro _|split)
