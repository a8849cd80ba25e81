import Derived.Test.YtndednnianphoaaGreatDoorJf03
namespace Go.Proofs.YtndednnianphoaaGreatDoor.Am
structure NoPan {α:Type}(m:M α):Prop where
 no: ∀s c s',m s= .pan c s'→False
theorem AE {α:Type}(a:α):NoPan (M.pure a):=⟨fun s c s' h=>by cases h⟩
theorem AH {α:Type}:NoPan (M.fail:M α):=⟨fun s c s' h=>by cases h⟩
theorem AU {α:Type}(x:Option α):NoPan (M.ofOpt x):=⟨fun s c s' h=>by cases x<;>cases h⟩
theorem AB {α β:Type}{m:M α}{f:α→M β}(h:NoPan m)(k: ∀a,NoPan (f a)):NoPan (M.bind m f):=⟨fun s c s' e=>by
 rcases Rj e with e|⟨a,s1,_,e⟩
 ·exact h.no _ _ _ e
 ·exact(k a).no _ _ _ e⟩
theorem AK {α:Type}(b:Bool){m:M α}(h:NoPan m):NoPan (M.chk b m):=⟨fun s c s' e=>by
 cases b with
 |false=>cases e
 |true=>exact h.no _ _ _ e⟩
theorem A3 {α:Type}(b:Bool){m n:M α}(h:NoPan m)(k:NoPan n):NoPan (M.if b m n):=by cases b<;>assumption
theorem AJ {α β:Type}(x:Option α){f:α→M β}(k: ∀a,NoPan (f a)):NoPan (M.on x f):=by
 cases x with
 |none=>exact AH
 |some a=>exact k a
theorem AQ {α:Type}(n:Nat){f:Nat→M α}(k: ∀a,NoPan (f a)):NoPan (fN n f):=by rw[A6];exact k _
theorem AW {α:Type}(n:Int){f:Int→M α}(k: ∀a,NoPan (f a)):NoPan (fI n f):=by rw[Ch];exact k _
theorem AZ {α:Type}(n:Addr){f:Addr→M α}(k: ∀a,NoPan (f a)):NoPan (fA n f):=by rw[CK];exact k _
theorem A1 {α:Type}(v:Value){f:IntKind→Int→M α}{d:M α}(h: ∀k n,NoPan (f k n))(k:NoPan d):NoPan (Ci v f d):=by
 cases v<;>first|exact h _ _|exact k
theorem A2 {α:Type}(b:Bool){m n:M α}(h:NoPan m)(k:NoPan n):NoPan (Bool.rec (motive:=fun _=>M α) m n b):=by cases b<;>assumption
theorem A0 {α β:Type}(x:Option α){m:M β}{f:α→M β}(h:NoPan m)(k: ∀a,NoPan (f a)):NoPan (Option.rec (motive:=fun _=>M β) m (fun a=>f a) x):=by
 cases x with
 |none=>exact h
 |some a=>exact k a
theorem Dk (loc:Nat):NoPan (rdC loc):= .mk fun s c s' h=>by
 obtain⟨mem,next,lim,rd,wr,cx⟩:=s
 unfold rdC at h
 simp only at h
 cases hb:Nat.blt loc next<;>rw[hb]at h
 ·cases h
 ·cases e:T.get mem loc<;>rw[e]at h<;>cases h
theorem Ct (loc:Nat)(x:Cell):NoPan (wrC loc x):= .mk fun s c s' h=>by
 obtain⟨mem,next,lim,rd,wr,cx⟩:=s
 unfold wrC at h
 obtain⟨v,l,r,e⟩:=T.set_N mem loc x
 simp only[e]at h
 cases hb:Nat.blt loc next<;>rw[hb]at h<;>cases h
theorem MP_ (loc:Nat):NoPan (delC loc):= .mk fun s c s' h=>by
 obtain⟨mem,next,lim,rd,wr,cx⟩:=s
 unfold delC at h
 simp only at h
 cases hb:Nat.blt loc next<;>rw[hb]at h<;>cases h
theorem E3 (vs:List Value):NoPan (newL vs):= .mk fun s c s' h=>by
 obtain⟨mem,next,lim,rd,wr,cx⟩:=s
 have h0:newL vs ⟨mem,next,lim,rd,wr,cx⟩=fN next fun b=>fN (Nat.succ (Nat.add b vs.length)) fun n=>R.some b (St.mk (layL b vs b mem) n lim rd wr cx):=rfl
 rw[h0,A6,A6]at h
 cases h
theorem Na (o:AObj):NoPan (newO o):= .mk fun s c s' h=>by
 obtain⟨mem,next,lim,rd,wr,cx⟩:=s
 have h0:newO o ⟨mem,next,lim,rd,wr,cx⟩=fN next fun b=>fN (Nat.succ b) fun n=>R.some b (St.mk (T.set mem b (.O o)) n lim rd wr cx):=rfl
 rw[h0,A6,A6]at h
 cases h
theorem LN_:NoPan getCx:= .mk fun s c s' h=>by
 obtain⟨mem,next,lim,rd,wr,cx⟩:=s
 cases h
theorem AdR_ (x:Ctx):NoPan (putCx x):= .mk fun s c s' h=>by
 obtain⟨mem,next,lim,rd,wr,cx⟩:=s
 cases h
theorem Eo (a:Addr):NoPan (rdV a):=by
 obtain⟨b,o,s⟩:=a
 cases s with
 |some x=>exact AH
 |none=>exact AB (Dk _) fun c=>AU _
theorem U6 (a:Addr)(v:Value):NoPan (wrV a v):=by
 obtain⟨b,o,s⟩:=a
 cases s with
 |some x=>exact AH
 |none=>exact AB (Dk _) fun c=>AK _ (Ct _ _)
theorem E8: ∀(n:Nat) (a:Addr),NoPan (rdL n a)
 |0,_=>AE _
 |n+1,a=>by
  have h0:rdL (n+1) a=fA a fun a=>M.bind (rdV a) fun v=>M.bind (rdL n ⟨a.block,Nat.succ a.off,a.spot⟩) fun l=>M.pure (v::l):=rfl
  rw[h0]
  exact AZ _ fun a=>AB (Eo a) fun v=>AB (E8 n _) fun l=>AE _
theorem Is: ∀(vs:List Value) (a:Addr),NoPan (wrL vs a)
 |[],_=>AE _
 |v::vs,a=>by
  have h0:wrL (v::vs) a=fA a fun a=>M.bind (wrV a v) fun _=>wrL vs ⟨a.block,Nat.succ a.off,a.spot⟩:=rfl
  rw[h0]
  exact AZ _ fun a=>AB (U6 a v) fun v=>Is vs _
theorem Wm: ∀(n l:Nat),NoPan (CF n l)
 |0,_=>AE _
 |n+1,l=>by
  have h0:CF (n+1) l=M.bind (delC l) fun _=>CF n (l+1):=rfl
  rw[h0]
  exact AB (MP_ l) fun _=>Wm n _
theorem By (x0:_)(x1:_):NoPan (ti x0 x1):=by
 unfold ti
 repeat' (first|exact AE _|exact AH|exact AU _|apply AB|apply AK|apply A3|apply AJ|apply AQ|apply AW|apply AZ|apply A1|apply A2|apply A0|intro _|split)
theorem IK (x0:_):NoPan (pV x0):=by
 unfold pV
 repeat' (first|exact AE _|exact AH|exact AU _|apply AB|apply AK|apply A3|apply AJ|apply AQ|apply AW|apply AZ|apply A1|apply A2|apply A0|intro _|split)
theorem AcJ_ (x0:_)(x1:_)(x2:_)(x3:_)(x4:_):NoPan (Da x0 x1 x2 x3 x4):=by
 unfold Da
 repeat' (first|exact AE _|exact AH|exact AU _|exact By _ _|apply AB|apply AK|apply A3|apply AJ|apply AQ|apply AW|apply AZ|apply A1|apply A2|apply A0|intro _|split)
theorem ZJ_ (x0:_)(x1:_):NoPan (Gs x0 x1):=by
 unfold Gs
 repeat' (first|exact AE _|exact AH|exact AU _|apply AB|apply AK|apply A3|apply AJ|apply AQ|apply AW|apply AZ|apply A1|apply A2|apply A0|intro _|split)
theorem JG_ (x0:_)(x1:_)(x2:_):NoPan (Hv x0 x1 x2):=by
 unfold Hv
 repeat' (first|exact AE _|exact AH|exact AU _|exact ZJ_ _ _|apply AB|apply AK|apply A3|apply AJ|apply AQ|apply AW|apply AZ|apply A1|apply A2|apply A0|intro _|split)
theorem Ns_ (x0:_)(x1:_)(x2:_)(x3:_)(x4:_)(x5:_)(x6:_):NoPan (Bu x0 x1 x2 x3 x4 x5 x6):=by
 unfold Bu
 repeat' (first|exact AE _|exact AH|exact AU _|exact JG_ _ _ _|exact AcJ_ _ _ _ _ _|exact IK _|apply AB|apply AK|apply A3|apply AJ|apply AQ|apply AW|apply AZ|apply A1|apply A2|apply A0|intro _|split)
theorem Sd_ (x0:_):NoPan (lenOf x0):=by
 unfold lenOf
 repeat' (first|exact AE _|exact AH|exact AU _|apply AB|apply AK|apply A3|apply AJ|apply AQ|apply AW|apply AZ|apply A1|apply A2|apply A0|intro _|split)
theorem GS_ (x0:_)(x1:_)(x2:_):NoPan (Fr x0 x1 x2):=by
 unfold Fr
 repeat' (first|exact AE _|exact AH|exact AU _|exact By _ _|exact E8 _ _|exact Eo _|apply AB|apply AK|apply A3|apply AJ|apply AQ|apply AW|apply AZ|apply A1|apply A2|apply A0|intro _|split)
theorem Jx_ (x0:_)(x1:_)(x2:_)(x3:_):NoPan (Hu x0 x1 x2 x3):=by
 unfold Hu
 repeat' (first|exact AE _|exact AH|exact AU _|exact By _ _|exact Is _ _|apply AB|apply AK|apply A3|apply AJ|apply AQ|apply AW|apply AZ|apply A1|apply A2|apply A0|intro _|split)
theorem Hy (x0:_):NoPan (asA x0):=by
 unfold asA
 repeat' (first|exact AE _|exact AH|exact AU _|apply AB|apply AK|apply A3|apply AJ|apply AQ|apply AW|apply AZ|apply A1|apply A2|apply A0|intro _|split)
theorem Jl (x0:_)(x1:_)(x2:_):NoPan (bnd x0 x1 x2):=by
 unfold bnd
 repeat' (first|exact AE _|exact AH|exact AU _|apply AB|apply AK|apply A3|apply AJ|apply AQ|apply AW|apply AZ|apply A1|apply A2|apply A0|intro _|split)
theorem PW (x0:_):NoPan (ptrA x0):=by
 unfold ptrA
 repeat' (first|exact AE _|exact AH|exact AU _|apply AB|apply AK|apply A3|apply AJ|apply AQ|apply AW|apply AZ|apply A1|apply A2|apply A0|intro _|split)
theorem Ig (x0:_)(x1:_)(x2:_):NoPan (pSl x0 x1 x2):=by
 unfold pSl
 repeat' (first|exact AE _|exact AH|exact AU _|apply AB|apply AK|apply A3|apply AJ|apply AQ|apply AW|apply AZ|apply A1|apply A2|apply A0|intro _|split)
theorem JV (x0:_):NoPan (pN x0):=by
 unfold pN
 repeat' (first|exact AE _|exact AH|exact AU _|apply AB|apply AK|apply A3|apply AJ|apply AQ|apply AW|apply AZ|apply A1|apply A2|apply A0|intro _|split)
theorem VI_ (x0:_)(x1:_)(x2:_)(x3:_)(x4:_):NoPan (FV x0 x1 x2 x3 x4):=by
 unfold FV
 repeat' (first|exact AE _|exact AH|exact AU _|exact Ig _ _ _|exact Jl _ _ _|apply AB|apply AK|apply A3|apply AJ|apply AQ|apply AW|apply AZ|apply A1|apply A2|apply A0|intro _|split)
theorem KA_ (x0:_)(x1:_)(x2:_)(x3:_)(x4:_)(x5:_):NoPan (slSl x0 x1 x2 x3 x4 x5):=by
 unfold slSl
 repeat' (first|exact AE _|exact AH|exact AU _|exact Ig _ _ _|exact Jl _ _ _|apply AB|apply AK|apply A3|apply AJ|apply AQ|apply AW|apply AZ|apply A1|apply A2|apply A0|intro _|split)
theorem Aed_ (x0:_)(x1:_)(x2:_):NoPan (Gb x0 x1 x2):=by
 unfold Gb
 repeat' (first|exact AE _|exact AH|exact AU _|exact Jl _ _ _|apply AB|apply AK|apply A3|apply AJ|apply AQ|apply AW|apply AZ|apply A1|apply A2|apply A0|intro _|split)
theorem XG_ (x0:_)(x1:_)(x2:_)(x3:_)(x4:_):NoPan (B5 x0 x1 x2 x3 x4):=by
 unfold B5
 repeat' (first|exact AE _|exact AH|exact AU _|exact Aed_ _ _ _|exact KA_ _ _ _ _ _ _|exact VI_ _ _ _ _ _|exact Jl _ _ _|exact By _ _|apply AB|apply AK|apply A3|apply AJ|apply AQ|apply AW|apply AZ|apply A1|apply A2|apply A0|intro _|split)
theorem V7 (x0:_)(x1:_)(x2:_):NoPan (srcL x0 x1 x2):=by
 unfold srcL
 repeat' (first|exact AE _|exact AH|exact AU _|exact E8 _ _|apply AB|apply AK|apply A3|apply AJ|apply AQ|apply AW|apply AZ|apply A1|apply A2|apply A0|intro _|split)
theorem WI_ (x0:_)(x1:_)(x2:_):NoPan (appN x0 x1 x2):=by
 unfold appN
 repeat' (first|exact AE _|exact AH|exact AU _|apply AB|apply AK|apply A3|apply AJ|apply AQ|apply AW|apply AZ|apply A1|apply A2|apply A0|intro _|split)
theorem PQ_ (x0:_)(x1:_)(x2:_)(x3:_):NoPan (appL x0 x1 x2 x3):=by
 unfold appL
 repeat' (first|exact AE _|exact AH|exact AU _|exact V7 _ _ _|apply AB|apply AK|apply A3|apply AJ|apply AQ|apply AW|apply AZ|apply A1|apply A2|apply A0|intro _|split)
theorem AaB_ (x0:_)(x1:_)(x2:_):NoPan (oldL x0 x1 x2):=by
 unfold oldL
 repeat' (first|exact AE _|exact AH|exact AU _|exact E8 _ _|apply AB|apply AK|apply A3|apply AJ|apply AQ|apply AW|apply AZ|apply A1|apply A2|apply A0|intro _|split)
theorem Sp_ (x0:_)(x1:_)(x2:_):NoPan (E7 x0 x1 x2):=by
 unfold E7
 repeat' (first|exact AE _|exact AH|exact AU _|exact Wm _ _|apply AB|apply AK|apply A3|apply AJ|apply AQ|apply AW|apply AZ|apply A1|apply A2|apply A0|intro _|split)
theorem Ka_ (x0:_)(x1:_)(x2:_)(x3:_):NoPan (Df x0 x1 x2 x3):=by
 unfold Df
 repeat' (first|exact AE _|exact AH|exact AU _|exact Sp_ _ _ _|exact Ct _ _|exact Dk _|apply AB|apply AK|apply A3|apply AJ|apply AQ|apply AW|apply AZ|apply A1|apply A2|apply A0|intro _|split)
theorem AbZ_ (x0:_)(x1:_)(x2:_)(x3:_)(x4:_)(x5:_)(x6:_)(x7:_):NoPan (grow x0 x1 x2 x3 x4 x5 x6 x7):=by
 unfold grow
 repeat' (first|exact AE _|exact AH|exact AU _|exact Ka_ _ _ _ _|exact AaB_ _ _ _|exact Ig _ _ _|exact E3 _|exact Ct _ _|apply AB|apply AK|apply A3|apply AJ|apply AQ|apply AW|apply AZ|apply A1|apply A2|apply A0|intro _|split)
theorem Op_ (x0:_)(x1:_)(x2:_)(x3:_)(x4:_)(x5:_):NoPan (EK x0 x1 x2 x3 x4 x5):=by
 unfold EK
 repeat' (first|exact AE _|exact AH|exact AU _|exact Ig _ _ _|exact Is _ _|apply AB|apply AK|apply A3|apply AJ|apply AQ|apply AW|apply AZ|apply A1|apply A2|apply A0|intro _|split)
theorem WP_ (x0:_)(x1:_)(x2:_)(x3:_)(x4:_):NoPan (Cj x0 x1 x2 x3 x4):=by
 unfold Cj
 repeat' (first|exact AE _|exact AH|exact AU _|exact Op_ _ _ _ _ _ _|exact AbZ_ _ _ _ _ _ _ _ _|exact PQ_ _ _ _ _|exact WI_ _ _ _|exact By _ _|apply AB|apply AK|apply A3|apply AJ|apply AQ|apply AW|apply AZ|apply A1|apply A2|apply A0|intro _|split)
theorem Qr_ (x0:_)(x1:_)(x2:_):NoPan (Cm x0 x1 x2):=by
 unfold Cm
 repeat' (first|exact AE _|exact AH|exact AU _|exact By _ _|apply AB|apply AK|apply A3|apply AJ|apply AQ|apply AW|apply AZ|apply A1|apply A2|apply A0|intro _|split)
theorem Adn_ (x0:_)(x1:_)(x2:_)(x3:_):NoPan (Cu x0 x1 x2 x3):=by
 unfold Cu
 repeat' (first|exact AE _|exact AH|exact AU _|exact By _ _|exact E3 _|exact Ct _ _|apply AB|apply AK|apply A3|apply AJ|apply AQ|apply AW|apply AZ|apply A1|apply A2|apply A0|intro _|split)
theorem RV (x0:_)(x1:_)(x2:_)(x3:_):NoPan (EI x0 x1 x2 x3):=by
 unfold EI
 repeat' (first|exact AE _|exact AH|exact AU _|exact By _ _|apply AB|apply AK|apply A3|apply AJ|apply AQ|apply AW|apply AZ|apply A1|apply A2|apply A0|intro _|split)
theorem NO_ (x0:_)(x1:_)(x2:_)(x3:_)(x4:_):NoPan (EW x0 x1 x2 x3 x4):=by
 unfold EW
 repeat' (first|exact AE _|exact AH|exact AU _|exact V7 _ _ _|exact JV _|exact Sd_ _|exact By _ _|exact Is _ _|apply AB|apply AK|apply A3|apply AJ|apply AQ|apply AW|apply AZ|apply A1|apply A2|apply A0|intro _|split)
theorem Et (x0:_):NoPan (mapAt x0):=by
 unfold mapAt
 repeat' (first|exact AE _|exact AH|exact AU _|exact Dk _|apply AB|apply AK|apply A3|apply AJ|apply AQ|apply AW|apply AZ|apply A1|apply A2|apply A0|intro _|split)
theorem Jg_ (x0:_):NoPan (El x0):=by
 unfold El
 repeat' (first|exact AE _|exact AH|exact AU _|exact Et _|exact JV _|apply AB|apply AK|apply A3|apply AJ|apply AQ|apply AW|apply AZ|apply A1|apply A2|apply A0|intro _|split)
theorem RX_ (x0:_)(x1:_)(x2:_):NoPan (aLen x0 x1 x2):=by
 unfold aLen
 repeat' (first|exact AE _|exact AH|exact AU _|exact Jg_ _|exact JV _|exact By _ _|apply AB|apply AK|apply A3|apply AJ|apply AQ|apply AW|apply AZ|apply A1|apply A2|apply A0|intro _|split)
theorem Oy_ (x0:_)(x1:_)(x2:_):NoPan (aCap x0 x1 x2):=by
 unfold aCap
 repeat' (first|exact AE _|exact AH|exact AU _|exact JV _|exact By _ _|apply AB|apply AK|apply A3|apply AJ|apply AQ|apply AW|apply AZ|apply A1|apply A2|apply A0|intro _|split)
theorem Lv_ (x0:_)(x1:_)(x2:_):NoPan (Gt x0 x1 x2):=by
 unfold Gt
 repeat' (first|exact AE _|exact AH|exact AU _|exact By _ _|exact Is _ _|apply AB|apply AK|apply A3|apply AJ|apply AQ|apply AW|apply AZ|apply A1|apply A2|apply A0|intro _|split)
theorem X8 (x0:_):NoPan (zeroV x0):=by
 unfold zeroV
 repeat' (first|exact AE _|exact AH|exact AU _|apply AB|apply AK|apply A3|apply AJ|apply AQ|apply AW|apply AZ|apply A1|apply A2|apply A0|intro _|split)
theorem Hc (E:_)(e:_)(t:_)(k:_)(es:_):NoPan (Cv E e t k es):=AK _ (AJ _ fun _=>AE _)
theorem Qk (x0:_)(x1:_)(x2:_):NoPan (DM x0 x1 x2):=by
 unfold DM
 repeat' (first|exact AE _|exact AH|exact AU _|apply AB|apply AK|apply A3|apply AJ|apply AQ|apply AW|apply AZ|apply A1|apply A2|apply A0|intro _|split)
theorem RA (x0:_)(x1:_):NoPan (zeroOf x0 x1):=by
 unfold zeroOf
 repeat' (first|exact AE _|exact AH|exact AU _|exact X8 _|exact By _ _|apply AB|apply AK|apply A3|apply AJ|apply AQ|apply AW|apply AZ|apply A1|apply A2|apply A0|intro _|split)
theorem VX_ (E:_)(a:_)(b:_)(k:_)(c:_):NoPan (PH E a b k c):=AB (Hc _ _ _ _ _) fun r=>by
 cases r with
 |none=>exact AB (RA _ _) fun _=>Qk _ _ _
 |some j=>exact AH
theorem Oa_ (E:_)(a:_)(b:_)(k:_)(c:_)(es:_):NoPan (DL E a b k c es):=AB (Hc _ _ _ _ _) fun r=>by
 cases r with
 |none=>exact AB (RA _ _) fun _=>Qk _ _ _
 |some j=>exact AJ _ fun _=>Qk _ _ _
theorem I7 (x0:_)(x1:_):NoPan (mapT x0 x1):=by
 unfold mapT
 repeat' (first|exact AE _|exact AH|exact AU _|exact By _ _|apply AB|apply AK|apply A3|apply AJ|apply AQ|apply AW|apply AZ|apply A1|apply A2|apply A0|intro _|split)
theorem Adh_ (E:_)(t:_)(c:_)(x:_)(k:_):NoPan (Cy E t c x k):=AB (I7 _ _) fun ke=>by
 cases x with
 |map m=>
  cases m with
  |none=>exact VX_ _ _ _ _ _
  |some l=>exact AB (Et _) fun p=>Oa_ _ _ _ _ _ _
 |_=>exact AH
theorem Qu_ (E:_)(t:_)(k:_)(x:_)(l:_)(p:_):NoPan (putE E t k x l p):=AB (Hc _ _ _ _ _) fun r=>by
 cases r with
 |none=>exact Ct _ _
 |some j=>exact AJ _ fun _=>AK _ (Ct _ _)
theorem Bu_ (E:_)(t:_)(m:_)(k:_)(x:_):NoPan (DU E t m k x):=AB (I7 _ _) fun ke=>by
 cases m with
 |map m=>
  cases m with
  |none=>exact AH
  |some l=>exact AB (Et _) fun p=>AB (Qu_ _ _ _ _ _ _) fun _=>AE _
 |_=>exact AH
theorem OM_ (E:_)(a:_)(b:_)(k:_)(l:_)(p:_):NoPan (entE E a b k l p):=AB (Hc _ _ _ _ _) fun r=>by
 cases r with
 |none=>exact AB (RA _ _) fun _=>AB (Ct _ _) fun _=>AE _
 |some j=>exact AJ _ fun _=>AK _ (AB (Ct _ _) fun _=>AE _)
theorem AdB_ (E:_)(t:_)(m:_)(k:_):NoPan (Ib E t m k):=AB (I7 _ _) fun ke=>by
 cases m with
 |map m=>
  cases m with
  |none=>exact AH
  |some l=>exact AB (Et _) fun p=>OM_ _ _ _ _ _ _
 |_=>exact AH
theorem RF_ (x0:_)(x1:_)(x2:_):NoPan (Ek x0 x1 x2):=by
 unfold Ek
 repeat' (first|exact AE _|exact AH|exact AU _|exact Et _|exact Ct _ _|apply AB|apply AK|apply A3|apply AJ|apply AQ|apply AW|apply AZ|apply A1|apply A2|apply A0|intro _|split)
theorem ED_:NoPan (Dw):=by
 unfold Dw
 repeat' (first|exact AE _|exact AH|exact AU _|exact Na _|apply AB|apply AK|apply A3|apply AJ|apply AQ|apply AW|apply AZ|apply A1|apply A2|apply A0|intro _|split)
theorem AbJ_ (x0:_)(x1:_)(x2:_):NoPan (Fi x0 x1 x2):=by
 unfold Fi
 repeat' (first|exact AE _|exact AH|exact AU _|exact ED_|exact I7 _ _|apply AB|apply AK|apply A3|apply AJ|apply AQ|apply AW|apply AZ|apply A1|apply A2|apply A0|intro _|split)
theorem HK_ (E:_)(t:_)(m:_)(k:_):NoPan (kDel E t m k):=AB (I7 _ _) fun ke=>by
 cases m with
 |map m=>
  cases m with
  |none=>exact AB (Hc _ _ _ _ _) fun _=>AE _
  |some l=>exact AB (Et _) fun p=>AB (Hc _ _ _ _ _) fun r=>by cases r<;>exact AB (Ct _ _) fun _=>AE _
 |_=>exact AH
theorem AaQ_ (x0:_)(x1:_)(x2:_)(x3:_):NoPan (Ba x0 x1 x2 x3):=by
 unfold Ba
 repeat' (first|exact AE _|exact AH|exact AU _|exact HK_ _ _ _ _|exact Lv_ _ _ _|exact Oy_ _ _ _|exact RX_ _ _ _|exact NO_ _ _ _ _ _|exact WP_ _ _ _ _ _|exact IK _|apply AB|apply AK|apply A3|apply AJ|apply AQ|apply AW|apply AZ|apply A1|apply A2|apply A0|intro _|split)
theorem Ss_ (x0:_)(x1:_)(x2:_)(x3:_):NoPan (idxN x0 x1 x2 x3):=by
 unfold idxN
 repeat' (first|exact AE _|exact AH|exact AU _|exact PW _|exact By _ _|apply AB|apply AK|apply A3|apply AJ|apply AQ|apply AW|apply AZ|apply A1|apply A2|apply A0|intro _|split)
theorem Q6 (x0:_):NoPan (asN x0):=by
 unfold asN
 repeat' (first|exact AE _|exact AH|exact AU _|apply AB|apply AK|apply A3|apply AJ|apply AQ|apply AW|apply AZ|apply A1|apply A2|apply A0|intro _|split)
theorem Agt_ (x0:_)(x1:_)(x2:_):NoPan (Bj x0 x1 x2):=by
 unfold Bj
 repeat' (first|exact AE _|exact AH|exact AU _|apply AB|apply AK|apply A3|apply AJ|apply AQ|apply AW|apply AZ|apply A1|apply A2|apply A0|intro _|split)
theorem CM_ (x0:_):NoPan (ptrN x0):=by
 unfold ptrN
 repeat' (first|exact AE _|exact AH|exact AU _|apply AB|apply AK|apply A3|apply AJ|apply AQ|apply AW|apply AZ|apply A1|apply A2|apply A0|intro _|split)
theorem Ot_ (x0:_)(x1:_):NoPan (CP x0 x1):=by
 unfold CP
 repeat' (first|exact AE _|exact AH|exact AU _|exact CM_ _|exact By _ _|exact E3 _|apply AB|apply AK|apply A3|apply AJ|apply AQ|apply AW|apply AZ|apply A1|apply A2|apply A0|intro _|split)
theorem Aap_ (x0:_):NoPan (kBox x0):=by
 unfold kBox
 repeat' (first|exact AE _|exact AH|exact AU _|exact CM_ _|exact E3 _|apply AB|apply AK|apply A3|apply AJ|apply AQ|apply AW|apply AZ|apply A1|apply A2|apply A0|intro _|split)
theorem Abt_ (x0:_)(x1:_)(x2:_):NoPan (AC x0 x1 x2):=by
 unfold AC
 repeat' (first|exact AE _|exact AH|exact AU _|exact Hy _|exact GS_ _ _ _|apply AB|apply AK|apply A3|apply AJ|apply AQ|apply AW|apply AZ|apply A1|apply A2|apply A0|intro _|split)
theorem Ki_ (x0:_)(x1:_)(x2:_)(x3:_):NoPan (BM x0 x1 x2 x3):=by
 unfold BM
 repeat' (first|exact AE _|exact AH|exact AU _|exact Hy _|exact Jx_ _ _ _ _|apply AB|apply AK|apply A3|apply AJ|apply AQ|apply AW|apply AZ|apply A1|apply A2|apply A0|intro _|split)
theorem Mv_ (x0:_):NoPan (kNil x0):=by
 unfold kNil
 repeat' (first|exact AE _|exact AH|exact AU _|apply AB|apply AK|apply A3|apply AJ|apply AQ|apply AW|apply AZ|apply A1|apply A2|apply A0|intro _|split)
theorem AbB_ (b:Bool):NoPan (pB b):=⟨fun s c s' h=>by cases b<;>cases h⟩
theorem LV (x0:_)(x1:_)(x2:_):NoPan (C4 x0 x1 x2):=by
 unfold C4
 repeat' (first|exact AE _|exact AH|exact AU _|exact IK _|apply AB|apply AK|apply A3|apply AJ|apply AQ|apply AW|apply AZ|apply A1|apply A2|apply A0|intro _|split)
theorem QP_ (P:Program)(v:Value):NoPan (xorU P v):=by
 have h:=LV P .xor v
 cases v with
 |int k n=>
  cases n with
  |negSucc m=>exact LV P .xor (.int k (.negSucc m))
  |ofNat m=>
   show NoPan (Option.rec (motive:=fun _=>M Value) (C4 P .xor (.int k (.ofNat m))) (fun x=>M.pure x) (notK k m))
   exact A0 _ (LV _ _ _) fun _=>AE _
 |_=>exact h
theorem Rj_ (x0:_)(x1:_)(x2:_):NoPan (kUn x0 x1 x2):=by
 unfold kUn
 repeat' (first|exact AE _|exact AH|exact AU _|exact QP_ _ _|exact LV _ _ _|exact AbB_ _|apply AB|apply AK|apply A3|apply AJ|apply AQ|apply AW|apply AZ|apply A1|apply A2|apply A0|intro _|split)
theorem Zr_ (x0:_)(x1:_):NoPan (strOf x0 x1):=by
 unfold strOf
 repeat' (first|exact AE _|exact AH|exact AU _|exact E8 _ _|apply AB|apply AK|apply A3|apply AJ|apply AQ|apply AW|apply AZ|apply A1|apply A2|apply A0|intro _|split)
theorem Aax_ (x0:_)(x1:_)(x2:_)(x3:_)(x4:_):NoPan (HK x0 x1 x2 x3 x4):=by
 unfold HK
 repeat' (first|exact AE _|exact AH|exact AU _|exact Zr_ _ _|exact By _ _|apply AB|apply AK|apply A3|apply AJ|apply AQ|apply AW|apply AZ|apply A1|apply A2|apply A0|intro _|split)
theorem AaM_ (x0:_)(x1:_)(x2:_)(x3:_)(x4:_):NoPan (EZ x0 x1 x2 x3 x4):=by
 unfold EZ
 repeat' (first|exact AE _|exact AH|exact AU _|exact IK _|exact By _ _|apply AB|apply AK|apply A3|apply AJ|apply AQ|apply AW|apply AZ|apply A1|apply A2|apply A0|intro _|split)
theorem RG (x0:_)(x1:_)(x2:_)(x3:_):NoPan (D2 x0 x1 x2 x3):=by
 unfold D2
 repeat' (first|exact AE _|exact AH|exact AU _|exact AaM_ _ _ _ _ _|exact Aax_ _ _ _ _ _|exact IK _|apply AB|apply AK|apply A3|apply AJ|apply AQ|apply AW|apply AZ|apply A1|apply A2|apply A0|intro _|split)
theorem EH_ (x0:_)(x1:_):NoPan (rowN x0 x1):=by
 unfold rowN
 repeat' (first|exact AE _|exact AH|exact AU _|exact Ig _ _ _|exact E3 _|exact Ct _ _|apply AB|apply AK|apply A3|apply AJ|apply AQ|apply AW|apply AZ|apply A1|apply A2|apply A0|intro _|split)
theorem Aej_ (l:List UInt8):NoPan (E6 l):=by
 unfold E6
 rw[LU]
 exact AQ _ fun n=>EH_ _ _
theorem Vj_ (x0:_)(x1:_)(x2:_)(x3:_):NoPan (FO x0 x1 x2 x3):=by
 unfold FO
 repeat' (first|exact AE _|exact AH|exact AU _|exact Aej_ _|exact RG _ _ _ _|exact By _ _|apply AB|apply AK|apply A3|apply AJ|apply AQ|apply AW|apply AZ|apply A1|apply A2|apply A0|intro _|split)
theorem AdJ_ (x0:_)(x1:_)(x2:_)(x3:_)(x4:_)(x5:_):NoPan (Fe x0 x1 x2 x3 x4 x5):=by
 unfold Fe
 repeat' (first|exact AE _|exact AH|exact AU _|exact RG _ _ _ _|exact By _ _|exact E8 _ _|exact Dk _|apply AB|apply AK|apply A3|apply AJ|apply AQ|apply AW|apply AZ|apply A1|apply A2|apply A0|intro _|split)
theorem Pq_ (x0:_)(x1:_)(x2:_)(x3:_):NoPan (BP x0 x1 x2 x3):=by
 unfold BP
 repeat' (first|exact AE _|exact AH|exact AU _|exact AdJ_ _ _ _ _ _ _|exact Vj_ _ _ _ _|exact RG _ _ _ _|apply AB|apply AK|apply A3|apply AJ|apply AQ|apply AW|apply AZ|apply A1|apply A2|apply A0|intro _|split)
theorem YE_ (x0:_)(x1:_):NoPan (GC x0 x1):=by
 unfold GC
 repeat' (first|exact AE _|exact AH|exact AU _|apply AB|apply AK|apply A3|apply AJ|apply AQ|apply AW|apply AZ|apply A1|apply A2|apply A0|intro _|split)
theorem SL_ (x0:_)(x1:_)(x2:_):NoPan (Fd x0 x1 x2):=by
 unfold Fd
 repeat' (first|exact AE _|exact AH|exact AU _|exact YE_ _ _|exact By _ _|apply AB|apply AK|apply A3|apply AJ|apply AQ|apply AW|apply AZ|apply A1|apply A2|apply A0|intro _|split)
theorem ZH_ (x0:_)(x1:_)(x2:_):NoPan (FE x0 x1 x2):=by
 unfold FE
 repeat' (first|exact AE _|exact AH|exact AU _|exact By _ _|apply AB|apply AK|apply A3|apply AJ|apply AQ|apply AW|apply AZ|apply A1|apply A2|apply A0|intro _|split)
theorem PT_ (x0:_)(x1:_)(x2:_)(x3:_):NoPan (mkSl x0 x1 x2 x3):=by
 unfold mkSl
 repeat' (first|exact AE _|exact AH|exact AU _|exact By _ _|exact E3 _|apply AB|apply AK|apply A3|apply AJ|apply AQ|apply AW|apply AZ|apply A1|apply A2|apply A0|intro _|split)
theorem Mx_ (x0:_)(x1:_)(x2:_)(x3:_):NoPan (EQ x0 x1 x2 x3):=by
 unfold EQ
 repeat' (first|exact AE _|exact AH|exact AU _|exact PT_ _ _ _ _|exact Q6 _|exact By _ _|apply AB|apply AK|apply A3|apply AJ|apply AQ|apply AW|apply AZ|apply A1|apply A2|apply A0|intro _|split)
theorem Jm (x0:_)(x1:_)(x2:_):NoPan (C3 x0 x1 x2):=by
 unfold C3
 repeat' (first|exact AE _|exact AH|exact AU _|exact By _ _|apply AB|apply AK|apply A3|apply AJ|apply AQ|apply AW|apply AZ|apply A1|apply A2|apply A0|intro _|split)
theorem Zz_ (x0:_)(x1:_)(x2:_)(x3:_):NoPan (kFld x0 x1 x2 x3):=by
 unfold kFld
 repeat' (first|exact AE _|exact AH|exact AU _|exact Jm _ _ _|exact PW _|exact Hy _|exact By _ _|apply AB|apply AK|apply A3|apply AJ|apply AQ|apply AW|apply AZ|apply A1|apply A2|apply A0|intro _|split)
theorem UH (x0:_):NoPan (asCs x0):=by
 unfold asCs
 repeat' (first|exact AE _|exact AH|exact AU _|apply AB|apply AK|apply A3|apply AJ|apply AQ|apply AW|apply AZ|apply A1|apply A2|apply A0|intro _|split)
theorem Aet_ (x0:_)(x1:_)(x2:_)(x3:_):NoPan (EU x0 x1 x2 x3):=by
 unfold EU
 repeat' (first|exact AE _|exact AH|exact AU _|exact UH _|exact Jm _ _ _|exact RV _ _ _ _|exact By _ _|apply AB|apply AK|apply A3|apply AJ|apply AQ|apply AW|apply AZ|apply A1|apply A2|apply A0|intro _|split)
theorem Aem_ (x0:_)(x1:_)(x2:_)(x3:_):NoPan (BD x0 x1 x2 x3):=by
 unfold BD
 repeat' (first|exact AE _|exact AH|exact AU _|exact Q6 _|exact Ss_ _ _ _ _|exact By _ _|apply AB|apply AK|apply A3|apply AJ|apply AQ|apply AW|apply AZ|apply A1|apply A2|apply A0|intro _|split)
theorem Nk_ (x0:_)(x1:_)(x2:_)(x3:_):NoPan (idxV x0 x1 x2 x3):=by
 unfold idxV
 repeat' (first|exact AE _|exact AH|exact AU _|exact RV _ _ _ _|exact By _ _|apply AB|apply AK|apply A3|apply AJ|apply AQ|apply AW|apply AZ|apply A1|apply A2|apply A0|intro _|split)
theorem Ws_ (x0:_)(x1:_)(x2:_)(x3:_):NoPan (kIdx x0 x1 x2 x3):=by
 unfold kIdx
 repeat' (first|exact AE _|exact AH|exact AU _|exact Nk_ _ _ _ _|exact Q6 _|exact By _ _|apply AB|apply AK|apply A3|apply AJ|apply AQ|apply AW|apply AZ|apply A1|apply A2|apply A0|intro _|split)
theorem Re_ (x0:_)(x1:_):NoPan (kExt x0 x1):=by
 unfold kExt
 repeat' (first|exact AE _|exact AH|exact AU _|apply AB|apply AK|apply A3|apply AJ|apply AQ|apply AW|apply AZ|apply A1|apply A2|apply A0|intro _|split)
theorem Abx_ (x0:_)(x1:_)(x2:_):NoPan (okV x0 x1 x2):=by
 unfold okV
 repeat' (first|exact AE _|exact AH|exact AU _|apply AB|apply AK|apply A3|apply AJ|apply AQ|apply AW|apply AZ|apply A1|apply A2|apply A0|intro _|split)
theorem Xl_ (x0:_)(x1:_)(x2:_):NoPan (EX x0 x1 x2):=by
 unfold EX
 repeat' (first|exact AE _|exact AH|exact AU _|exact By _ _|exact Na _|apply AB|apply AK|apply A3|apply AJ|apply AQ|apply AW|apply AZ|apply A1|apply A2|apply A0|intro _|split)
theorem AcE_ (x0:_)(x1:_)(x2:_):NoPan (sitN x0 x1 x2):=by
 unfold sitN
 repeat' (first|exact AE _|exact AH|exact AU _|exact Ct _ _|apply AB|apply AK|apply A3|apply AJ|apply AQ|apply AW|apply AZ|apply A1|apply A2|apply A0|intro _|split)
theorem KV_ (x0:_):NoPan (ER x0):=by
 unfold ER
 repeat' (first|exact AE _|exact AH|exact AU _|exact AcE_ _ _ _|exact Dk _|apply AB|apply AK|apply A3|apply AJ|apply AQ|apply AW|apply AZ|apply A1|apply A2|apply A0|intro _|split)
theorem Or_ (x0:_)(x1:_)(x2:_)(x3:_):NoPan (Fg x0 x1 x2 x3):=by
 unfold Fg
 repeat' (first|exact AE _|exact AH|exact AU _|exact Abx_ _ _ _|exact X8 _|exact By _ _|apply AB|apply AK|apply A3|apply AJ|apply AQ|apply AW|apply AZ|apply A1|apply A2|apply A0|intro _|split)
open Go.RowKit
def OpV (E:Env)(o:Oper)(c:Cl OpT)(ds:List Nat):Prop:=
 ∃f,c= .mk f∧(∀call round rho tm,NoPan (f call round rho tm))∧
  ∀call round (w0 w:World) (r:Inj) (U:Nat→Prop) rho tm (a:Act) s v s',SlR r U ds rho tm a.tmps→(∀t,Operand.tmp t∈o.op.operands.toList→U t)→Rel w0 r s.mem w→f call round rho tm s= .some v s'→Bd r s.next s'.next→
   ∃v' w' r',((execOp a.eval o).run E.P w= .ok (.value v') w'∨((execOp a.eval o).run E.P w= .ok .skip w'∧v'=undef))∧Goes w0 r s s' r' w'∧VR r' v v'∧s'.lim=s.lim∧s'.cx=s.cx
section
variable {E:Env}{ds:List Nat}{o:Oper}
def Cr (m:Sem Value):Sem Next:=do pure (.value (←m))
theorem Yields.val {w0 w:World}{r:Inj}{s s':St}{v:Value}{m:Sem Value}(h:Yields E w0 r s s' v w m){n:Sem Next}(hn:n=Cr m):
  ∃v' w' r',(n.run E.P w= .ok (.value v') w'∨(n.run E.P w= .ok .skip w'∧v'=undef))∧Goes w0 r s s' r' w'∧VR r' v v'∧s'.lim=s.lim∧s'.cx=s.cx:=by
 obtain⟨v',w',r',h1,h2,h3,h4,h5⟩:=h
 exact⟨v',w',r', .inl (by rw[hn];simp[Cr,h1]),h2,h3,h4,h5⟩
theorem Dh {α:Type}{x:Option α}{f:α→St→R Value}{s s':St}{v:Value}(h:Option.rec (motive:=fun _=>R Value) .none (fun a=>f a s) x= .some v s'): ∃a,x=some a∧f a s= .some v s':=by
 cases x with
 |none=>cases h
 |some a=>exact⟨a,rfl,h⟩
theorem Dy {α:Type}{g:Option α}{f:α→M Value}(h: ∀a,NoPan (f a)):NoPan (fun s=>Option.rec (motive:=fun _=>R Value) .none (fun a=>f a s) g):=⟨fun s c s' e=>by
 cases g with
 |none=>cases e
 |some a=>exact(h a).no _ _ _ e⟩
theorem ZZ {x:Operand}(hx:o.op.operands.toList=[x])(ho: ∀a:Act,execOp a.eval o=pure (.value (a.eval x))):OpV E o (Eu ds x) ds:=by
 obtain⟨g,h1,h2⟩:=BA ds x
 refine⟨_,by unfold Eu;rw[h1],fun _ _ rho tm=>Dy (f:=fun a s=> .some a s) (g:=g rho tm) fun a=>AE a, ?_⟩
 intro call round w0 w r U rho tm a s v s' hs hu hr h hf
 obtain⟨y,e1,e2⟩:=Dh (f:=fun a s=> .some a s) h
 cases e2
 exact⟨_,w,r, .inl (by rw[ho];rfl), .of_rel rfl hr,h2 _ _ _ _ _ _ hs (fun t q=>hu t (by first|(rw[hx];simp at q ⊢;simp[q])|exact hx _ q)) e1,rfl,rfl⟩
theorem CS {x:Operand}{k:Value→M Value}{m:Value→Sem Value}(hx:o.op.operands.toList=[x])(ho: ∀a:Act,execOp a.eval o=Cr (m (a.eval x)))(np: ∀y,NoPan (k y))
  (hk: ∀{w0 w:World} {r:Inj} {y y':Value} {s v s'},k y s= .some v s'→Rel w0 r s.mem w→Bd r s.next s'.next→VR r y y'→Yields E w0 r s s' v w (m y')):OpV E o (Bw ds x k) ds:=by
 obtain⟨g,h1,h2⟩:=BA ds x
 refine⟨_,by unfold Bw;rw[h1],fun _ _ rho tm=>Dy (g:=g rho tm) np, ?_⟩
 intro call round w0 w r U rho tm a s v s' hs hu hr h hf
 obtain⟨y,e1,e2⟩:=Dh h
 exact(hk e2 hr hf (h2 _ _ _ _ _ _ hs (fun t q=>hu t (by first|(rw[hx];simp at q ⊢;simp[q])|exact hx _ q)) e1)).val (ho a)
theorem F7 {x y:Operand}{k:Value→Value→M Value}{m:Value→Value→Sem Value}(hx:o.op.operands.toList=[x,y])(ho: ∀a:Act,execOp a.eval o=Cr (m (a.eval x) (a.eval y)))(np: ∀y z,NoPan (k y z))
  (hk: ∀{w0 w:World} {r:Inj} {y y' z z':Value} {s v s'},k y z s= .some v s'→Rel w0 r s.mem w→Bd r s.next s'.next→VR r y y'→VR r z z'→Yields E w0 r s s' v w (m y' z')):OpV E o (Ca ds x y k) ds:=by
 obtain⟨g,h1,h2⟩:=BA ds x
 obtain⟨g',h3,h4⟩:=BA ds y
 refine⟨_,by unfold Ca;rw[h1,h3],fun _ _ rho tm=>Dy (g:=g rho tm) (f:=fun a s=>Option.rec (motive:=fun _=>R Value) .none (fun b=>k a b s) (g' rho tm)) fun a=>Dy (np a), ?_⟩
 intro call round w0 w r U rho tm a s v s' hs hu hr h hf
 obtain⟨y,e1,e2⟩:=Dh (f:=fun a s=>Option.rec (motive:=fun _=>R Value) .none (fun b=>k a b s) (g' rho tm)) h
 obtain⟨z,e3,e4⟩:=Dh e2
 exact(hk e4 hr hf (h2 _ _ _ _ _ _ hs (fun t q=>hu t (by first|(rw[hx];simp at q ⊢;simp[q])|exact hx _ q)) e1) (h4 _ _ _ _ _ _ hs (fun t q=>hu t (by rw[hx];simp at q ⊢;simp[q])) e3)).val (ho a)
theorem DE_ {l:List (Nat×Operand)}{k:List (Nat×Value)→M Value}{m:List (Nat×Value)→Sem Value}(hx:o.op.operands.toList=l.map (·.2))(ho: ∀a:Act,execOp a.eval o=Cr (m (l.map fun p=>(p.1,a.eval p.2))))(np: ∀y,NoPan (k y))
  (hk: ∀{w0 w:World} {r:Inj} {y y':List (Nat×Value)} {s v s'},k y s= .some v s'→Rel w0 r s.mem w→Bd r s.next s'.next→PRs r y y'→Yields E w0 r s s' v w (m y')):OpV E o (EF ds l k) ds:=by
 obtain⟨g,h1,h2⟩:=O7 ds l
 refine⟨_,by unfold EF;rw[h1],fun _ _ rho tm=>Dy (g:=g rho tm) np, ?_⟩
 intro call round w0 w r U rho tm a s v s' hs hu hr h hf
 obtain⟨y,e1,e2⟩:=Dh h
 exact(hk e2 hr hf (h2 _ _ _ _ _ _ hs (fun t q=>hu t (by first|(rw[hx];simp at q ⊢;simp[q])|exact hx _ q)) e1)).val (ho a)
end
section
variable {E:Env}{ds:List Nat}{o:Oper}
theorem Tg_ {x:Operand}(ho:o.op= .move x):OpV E o (Eu ds x) ds:=ZZ (by simp[ho,Op.operands]) fun a=>by simp only[execOp,ho]
theorem Si_ {x:Operand}(ho:o.op= .assign x):OpV E o (Eu ds x) ds:=ZZ (by simp[ho,Op.operands]) fun a=>by simp only[execOp,ho]
theorem Kk_ {e:Nat}(ho:o.op= .alloc e)(he:EnvTy E):OpV E o (.mk fun _ _ _ _=>CP E e) ds:=by
 refine⟨_,rfl,fun _ _ _ _=>Ot_ _ _, ?_⟩
 intro call round w0 w r U rho tm a s v s' hs hu hr h hf
 exact(Sn_ he h hr hf).val (by simp only[execOp,ho];rfl)
theorem VG_ {e:Nat}{x:Operand}(ho:o.op= .box e x):OpV E o (Bw ds x kBox) ds:=
 CS (m:=Instr.box e) (by simp[ho,Op.operands]) (fun a=>by simp only[execOp,ho];rfl) Aap_ fun h hr hf hx=>Yc_ h hr hf hx
theorem Ml_ {t:Nat}{ps:Array (Nat×Operand)}(ho:o.op= .build t ps)(he:EnvTy E):OpV E o (EF ds ps.toList (Cm E t)) ds:=
 DE_ (m:=fun l=>Instr.build t l.toArray) (by simp[ho,Op.operands]) (fun a=>by simp only[execOp,ho];rw[←List.map_toArray];rfl) (Qr_ _ _) fun h hr hf hx=>SR_ he h hr (by simpa using hx)
theorem AbK_ {t n:Nat}{ps:Array (Nat×Operand)}(ho:o.op= .buildSlice t n ps)(he:EnvTy E):OpV E o (EF ds ps.toList (Cu E t n)) ds:=
 DE_ (m:=fun l=>Instr.buildSlice t n l.toArray) (by simp[ho,Op.operands]) (fun a=>by simp only[execOp,ho];rw[←List.map_toArray];rfl) (Adn_ _ _ _) fun h hr hf hx=>RP_ he h hr hf (by simpa using hx)
theorem Rr_ {t:Nat}{x:Operand}(ho:o.op= .load t x)(he:EnvTy E):OpV E o (Bw ds x (AC E t)) ds:=
 CS (m:=Instr.loadAt t) (by simp[ho,Op.operands]) (fun a=>by simp only[execOp,ho];rfl) (Abt_ _ _) fun h hr hf hx=>QU_ he h hr hx
theorem OU_ {t:Nat}{x y:Operand}(ho:o.op= .store t x y)(he:EnvTy E):OpV E o (Ca ds x y (BM E t)) ds:=by
 obtain⟨g,h1,h2⟩:=BA ds x
 obtain⟨g',h3,h4⟩:=BA ds y
 refine⟨_,by unfold Ca;rw[h1,h3],fun _ _ rho tm=>Dy (g:=g rho tm) (f:=fun a s=>Option.rec (motive:=fun _=>R Value) .none (fun b=>BM E t a b s) (g' rho tm)) fun a=>Dy (Ki_ _ _ a), ?_⟩
 intro call round w0 w r U rho tm a s v s' hs hu hr h hf
 obtain⟨y,e1,e2⟩:=Dh (f:=fun a s=>Option.rec (motive:=fun _=>R Value) .none (fun b=>BM E t a b s) (g' rho tm)) h
 obtain⟨z,e3,e4⟩:=Dh e2
 obtain⟨rfl,w',k1,k2,k3,k4,k5⟩:=Hn_ he e4 hr (h2 _ _ _ _ _ _ hs (fun t q=>hu t (by simp[ho,Op.operands]at q ⊢;simp[q])) e1) (h4 _ _ _ _ _ _ hs (fun t q=>hu t (by simp[ho,Op.operands]at q ⊢;simp[q])) e3)
 refine⟨undef,w',r, .inr ⟨?_,rfl⟩, .of_rel k3 k2, .tuple rfl (fun i v v' e=>by simp at e),k4,k5⟩
 simp[execOp,ho,k1]
theorem Afr_ {x:Operand}(ho:o.op= .nilCheck x):OpV E o (Bw ds x kNil) ds:=by
 obtain⟨g,h1,h2⟩:=BA ds x
 refine⟨_,by unfold Bw;rw[h1],fun _ _ rho tm=>Dy (g:=g rho tm) Mv_, ?_⟩
 intro call round w0 w r U rho tm a s v s' hs hu hr h hf
 obtain⟨y,e1,e2⟩:=Dh h
 have hx:=h2 _ _ _ _ _ _ hs (fun t q=>hu t (by simp[ho,Op.operands]at q ⊢;simp[q])) e1
 obtain⟨rfl,rfl,e3⟩:=Hm_ (P:=E.P) (w:=w) (a:=a) ho rfl e2 hx
 exact⟨_,w,r, .inl e3, .of_rel rfl hr,hx,rfl,rfl⟩
theorem Ln_ {op:BinOp}{t yt:Nat}{x y:Operand}(ho:o.op= .binOp op t x y yt)(he:EnvTy E):OpV E o (Cl.rec (motive:=fun _=>Cl OpT) (fun f=>Ca ds x y f) (aBin E op t x y)) ds:=by
 generalize hc:aBin E op t x y=c
 obtain⟨f⟩:=c
 refine F7 (m:=fun y' z'=>do eqGuard op t x y y' z';binOp op t y' z') (by simp[ho,Op.operands]) (fun a=>by simp only[execOp,ho];rfl) (fun y' z'=> ?_) fun h hr hf hx hy=>Nu_ hc he h hr hx hy
 have slow: ∀op,NoPan (Bu E op t x y y' z'):=fun op=>Ns_ _ _ _ _ _ _ _
 have fast3: ∀(k:Ck) op,NoPan (int3 k (Bu E op t x y) y' z'):=fun k op=>⟨fun s c s' e=>by
  unfold int3 Ci at e
  cases y'<;>simp only at e
  case int k1 a=>
   cases z'<;>simp only at e
   case int k2 b=>
    cases a with
    |negSucc m=>exact(slow op).no _ _ _ e
    |ofNat m=>
     cases b with
     |negSucc m=>exact(slow op).no _ _ _ e
     |ofNat n=>
      simp only at e
      cases e1:k k1 k2 m n with
      |none=>rw[e1]at e;exact(slow op).no _ _ _ e
      |some u=>rw[e1]at e;cases e
   all_goals exact(slow op).no _ _ _ e
  all_goals exact(slow op).no _ _ _ e⟩
 have fast2: ∀(k:Int→Int→St→R Value) (k3:Ck) op,(∀a b,NoPan (k a b))→NoPan (int2 k (int3 k3 (Bu E op t x y)) y' z'):=fun k k3 op hk=>⟨fun s c s' e=>by
  have f3:=fast3 k3 op
  unfold int2 Ci at e
  cases y'<;>simp only at e
  case int k1 a=>
   cases z'<;>simp only at e
   case int k2 b=>
    cases e1:Dz k1 with
    |false=>rw[e1]at e;exact f3.no _ _ _ e
    |true=>
     cases e2:Dz k2 with
     |false=>rw[e1,e2]at e;exact f3.no _ _ _ e
     |true=>rw[e1,e2]at e;exact(hk a b).no _ _ _ e
   all_goals exact f3.no _ _ _ e
  all_goals exact f3.no _ _ _ e⟩
 have rI': ∀n,NoPan (rI n):=fun n=>⟨fun s c s' e=>by unfold rI at e;rw[Ch]at e;cases e⟩
 have rB': ∀b,NoPan (rB b):=fun b=>⟨fun s c s' e=>by cases b<;>cases e⟩
 cases op<;>cases hc<;>first|exact slow _|exact fast3 _ _|exact fast2 _ _ _ fun a b=>rI' _|exact fast2 _ _ _ fun a b=>rB' _
theorem Acp_ {op:UnOp}{t:Nat}{x:Operand}(ho:o.op= .unOp op t x):OpV E o (Bw ds x (kUn E.P op)) ds:=
 CS (m:=Op.unary op) (by simp[ho,Op.operands]) (fun a=>by simp only[execOp,ho];rfl) (Rj_ _ _) fun h hr hf hx=>Qd_ h hr hx
theorem AaI_ {s d:Nat}{x:Operand}(ho:o.op= .convert s d x)(he:EnvTy E):OpV E o (Bw ds x (BP E s d)) ds:=
 CS (m:=convert s d) (by simp[ho,Op.operands]) (fun a=>by simp only[execOp,ho];rfl) (Pq_ _ _ _) fun h hr hf hx=>MF_ he h hr hf hx
theorem Ub_ {t:Nat}{x:Operand}(ho:o.op= .sliceToArrayPointer t x)(he:EnvTy E):OpV E o (Bw ds x (Fd E t)) ds:=
 CS (m:=Instr.arrayAt t) (by simp[ho,Op.operands]) (fun a=>by simp only[execOp,ho];rfl) (SL_ _ _) fun h hr hf hx=>YV_ he h hr hx
theorem Uu_ {t:Nat}{x:Operand}(ho:o.op= .makeInterface t x)(he:EnvTy E):OpV E o (Bw ds x (FE E t)) ds:=
 CS (m:=Instr.makeInterface t) (by simp[ho,Op.operands]) (fun a=>by simp only[execOp,ho];rfl) (ZH_ _ _) fun h hr hf hx=>IU_ he h hr hx
theorem LQ_ {t:Nat}{x y:Operand}(ho:o.op= .makeSlice t x y)(he:EnvTy E):OpV E o (Ca ds x y (EQ E t)) ds:=
 F7 (m:=Instr.makeSlice t) (by simp[ho,Op.operands]) (fun a=>by simp only[execOp,ho];rfl) (Mx_ _ _) fun h hr hf hx hy=>NU_ he h hr hf hx hy
theorem WZ_ {t f:Nat}{x:Operand}(ho:o.op= .fieldAddr t x f)(he:EnvTy E):OpV E o (Bw ds x fun a=>kFld E t a f) ds:=
 CS (m:=fun x=>Instr.fieldAt t x f) (by simp[ho,Op.operands]) (fun a=>by simp only[execOp,ho];rfl) (fun y=>Zz_ _ _ y _) fun h hr hf hx=>IZ_ he h hr hx
theorem Pa_ {t f:Nat}{x:Operand}(ho:o.op= .field t x f)(he:EnvTy E):OpV E o (Bw ds x fun a=>EU E t a f) ds:=
 CS (m:=fun x=>Instr.field t x f) (by simp[ho,Op.operands]) (fun a=>by simp only[execOp,ho];rfl) (fun y=>Aet_ _ _ y _) fun h hr hf hx=>ZY_ he h hr hx
theorem Uc_ {t:Nat}{x y:Operand}(ho:o.op= .indexAddr t x y)(he:EnvTy E):OpV E o (Ca ds x y (BD E t)) ds:=
 F7 (m:=Instr.indexAt t) (by simp[ho,Op.operands]) (fun a=>by simp only[execOp,ho];rfl) (Aem_ _ _) fun h hr hf hx hy=>TA_ he h hr hx hy
theorem Qy_ {t:Nat}{x y:Operand}(ho:o.op= .index t x y)(he:EnvTy E):OpV E o (Ca ds x y (kIdx E t)) ds:=
 F7 (m:=Instr.index t) (by simp[ho,Op.operands]) (fun a=>by simp only[execOp,ho];rfl) (Ws_ _ _) fun h hr hf hx hy=>Po_ he h hr hx hy
theorem LK_ {k:Nat}{x:Operand}(ho:o.op= .extract x k):OpV E o (Bw ds x (kExt k)) ds:=
 CS (m:=fun x=>Instr.extract x k) (by simp[ho,Op.operands]) (fun a=>by simp only[execOp,ho];rfl) (Re_ _) fun h hr hf hx=>QA_ h hr hx
theorem AcD_ {xt t:Nat}{c:Bool}{x:Operand}(ho:o.op= .typeAssert x xt t c)(he:EnvTy E):OpV E o (Bw ds x (Fg E t c)) ds:=
 CS (m:=fun x=>Instr.typeAssert x xt t c) (by simp[ho,Op.operands]) (fun a=>by simp only[execOp,ho];rfl) (Or_ _ _ _) fun h hr hf hx=>IT_ he h hr hx
end
section
variable {E:Env}{ds:List Nat}{o:Oper}
theorem Km_ {x y z:Operand}(ho:o.op= .pick x y z):OpV E o (CG ds x y z Bj) ds:=by
 obtain⟨g,h1,h2⟩:=BA ds x
 obtain⟨g',h3,h4⟩:=BA ds y
 obtain⟨g2,h5,h6⟩:=BA ds z
 refine⟨_,by unfold CG;rw[h1,h3,h5],fun _ _ rho tm=>AJ _ fun a=>AJ _ fun b=>AJ _ fun c=>Agt_ _ _ _, ?_⟩
 intro call round w0 w r U rho tm a s v s' hs hu hr h hf
 obtain⟨x',e1,h⟩:=BE h
 obtain⟨y',e2,h⟩:=BE h
 obtain⟨z',e3,h⟩:=BE h
 obtain⟨rfl,t,k1,k2⟩:=Rw_ h (h2 _ _ _ _ _ _ hs (fun t q=>hu t (by simp[ho,Op.operands]at q ⊢;simp[q])) e1) (h4 _ _ _ _ _ _ hs (fun t q=>hu t (by simp[ho,Op.operands]at q ⊢;simp[q])) e2) (h6 _ _ _ _ _ _ hs (fun t q=>hu t (by simp[ho,Op.operands]at q ⊢;simp[q])) e3)
 refine⟨_,w,r, .inl ?_, .of_rel rfl hr,k2,rfl,rfl⟩
 simp only[execOp,ho,k1]
 cases t<;>simp[asBool]
theorem UI_ {t:Nat}{x:Operand}{lo hi mx:Option Operand}(ho:o.op= .slice t x lo hi mx)(he:EnvTy E):OpV E o (IL E ds t x lo hi mx) ds:=by
 cases mx with
 |some m=>
  exact⟨_,rfl,fun _ _ _ _=>AH,fun call round w0 w r U rho tm a s v s' hs hu hr h hf=>by cases h⟩
 |none=>
  obtain⟨g,h1,h2⟩:=BA ds x
  obtain⟨g',h3,h4⟩:=NI ds lo
  obtain⟨g2,h5,h6⟩:=NI ds hi
  refine⟨fun _ _ rho tm=>M.on (g rho tm) fun a=>M.on (g' rho tm) fun b=>M.on (g2 rho tm) fun c=>B5 E t a b c,by unfold IL OY;simp only[h1,h3,h5],fun _ _ rho tm=>AJ _ fun a=>AJ _ fun b=>AJ _ fun c=>XG_ _ _ _ _ _, ?_⟩
  intro call round w0 w r U rho tm a s v s' hs hu hr h hf
  obtain⟨x',e1,h⟩:=BE h
  obtain⟨y',e2,h⟩:=BE h
  obtain⟨z',e3,h⟩:=BE h
  exact(Qk_ he h hr (h2 _ _ _ _ _ _ hs (fun t q=>hu t (by simp[ho,Op.operands]at q ⊢;simp[q])) e1) (h4 _ _ _ _ _ _ hs (fun t q=>hu t (by simp[ho,Op.operands]at q ⊢;simp[q])) e2) (h6 _ _ _ _ _ _ hs (fun t q=>hu t (by simp[ho,Op.operands]at q ⊢;simp[q])) e3)).val (by simp only[execOp,ho];rfl)
theorem KB_ {t:Nat}(ho:o.op= .makeMap t none):OpV E o (.mk fun _ _ _ _=>Dw) ds:=by
 refine⟨_,rfl,fun _ _ _ _=>ED_, ?_⟩
 intro call round w0 w r U rho tm a s v s' hs hu hr h hf
 exact(Gn_ h hr hf).val (by simp only[execOp,ho];rfl)
theorem TE_ {t:Nat}{x:Operand}(ho:o.op= .makeMap t (some x))(he:EnvTy E):OpV E o (Bw ds x (Fi E t)) ds:=
 CS (m:=fun x=>Instr.makeMap t (some x)) (by simp[ho,Op.operands]) (fun a=>by simp only[execOp,ho];rfl) (AbJ_ _ _) fun h hr hf hx=>UB_ he h hr hf hx
theorem NT_ {t:Nat}{c:Bool}{x y:Operand}(ho:o.op= .lookup t x y c)(he:EnvTy E):OpV E o (Ca ds x y (Cy E t c)) ds:=
 F7 (m:=fun x y=>Instr.lookup t x y c) (by simp[ho,Op.operands]) (fun a=>by simp only[execOp,ho];rfl) (Adh_ _ _ _) fun h hr hf hx hy=>SK_ he h hr hx hy
theorem Qt_ {t:Nat}{x y:Operand}(ho:o.op= .mapEntry t x y)(he:EnvTy E):OpV E o (Ca ds x y (Ib E t)) ds:=
 F7 (m:=Instr.mapEntry t) (by simp[ho,Op.operands]) (fun a=>by simp only[execOp,ho];rfl) (AdB_ _ _) fun h hr hf hx hy=>KX_ he h hr hx hy
theorem R7 {x y z:Operand}{k:Value→Value→Value→M Value}{m:Value→Value→Value→Sem Unit}(hx:o.op.operands.toList=[x,y,z])(ho: ∀a:Act,execOp a.eval o=(do m (a.eval x) (a.eval y) (a.eval z);pure .skip))(np: ∀x y z,NoPan (k x y z))
  (hk: ∀{w0 w:World} {r:Inj} {x x' y y' z z':Value} {s v s'},k x y z s= .some v s'→Rel w0 r s.mem w→VR r x x'→VR r y y'→VR r z z'→v=undef∧ ∃w',(m x' y' z').run E.P w= .ok () w'∧Goes w0 r s s' r w'∧s'.lim=s.lim∧s'.cx=s.cx):OpV E o (CG ds x y z k) ds:=by
 obtain⟨g,h1,h2⟩:=BA ds x
 obtain⟨g',h3,h4⟩:=BA ds y
 obtain⟨g2,h5,h6⟩:=BA ds z
 refine⟨_,by unfold CG;rw[h1,h3,h5],fun _ _ rho tm=>AJ _ fun a=>AJ _ fun b=>AJ _ fun c=>np _ _ _, ?_⟩
 intro call round w0 w r U rho tm a s v s' hs hu hr h hf
 obtain⟨x',e1,h⟩:=BE h
 obtain⟨y',e2,h⟩:=BE h
 obtain⟨z',e3,h⟩:=BE h
 obtain⟨rfl,w',k1,k2,k3,k4⟩:=hk h hr (h2 _ _ _ _ _ _ hs (fun t q=>hu t (by rw[hx];simp at q ⊢;simp[q])) e1) (h4 _ _ _ _ _ _ hs (fun t q=>hu t (by rw[hx];simp at q ⊢;simp[q])) e2) (h6 _ _ _ _ _ _ hs (fun t q=>hu t (by rw[hx];simp at q ⊢;simp[q])) e3)
 refine⟨undef,w',r, .inr ⟨?_,rfl⟩,k2, .undef,k3,k4⟩
 rw[ho]
 simp[k1]
theorem YL_ {t:Nat}{x y z:Operand}(ho:o.op= .mapUpdate t x y z)(he:EnvTy E):OpV E o (CG ds x y z (DU E t)) ds:=
 R7 (m:=Instr.mapUpdate t) (by simp[ho,Op.operands]) (fun a=>by simp only[execOp,ho]) (Bu_ _ _) fun h hr hx hy hz=>Dq_ he h hr hx hy hz
theorem Hq_ {t:Nat}{x y z:Operand}(ho:o.op= .insert t x y z)(he:EnvTy E):OpV E o (CG ds x y z (DU E t)) ds:=
 R7 (m:=Instr.mapUpdate t) (by simp[ho,Op.operands]) (fun a=>by simp only[execOp,ho]) (Bu_ _ _) fun h hr hx hy hz=>Dq_ he h hr hx hy hz
theorem Zn_ {t:Nat}{x y z:Operand}(ho:o.op= .entryStore t x y z):OpV E o (CG ds x y z Ek) ds:=
 R7 (m:=Instr.entryStore t) (by simp[ho,Op.operands]) (fun a=>by simp only[execOp,ho]) RF_ fun h hr hx hy hz=>Rt_ h hr hx hy hz
theorem Acr_ {t:Nat}{x:Operand}(ho:o.op= .range t x)(he:EnvTy E):OpV E o (Bw ds x (EX E t)) ds:=
 CS (m:=Instr.range t) (by simp[ho,Op.operands]) (fun a=>by simp only[execOp,ho];rfl) (Xl_ _ _) fun h hr hf hx=>AcH_ he h hr hf hx
theorem Wk_ {x:Operand}(ho:o.op= .next x true):OpV E o (Bw ds x ER) ds:=
 CS (m:=fun x=>Instr.next x true o.type) (by simp[ho,Op.operands]) (fun a=>by simp only[execOp,ho];rfl) KV_ fun h hr hf hx=>Aam_ h hr hx
theorem Z8 {α β:Type}(f:α→β)(a:Array α):a.map f=(a.toList.map f).toArray:=by rw[←List.map_toArray]
theorem VRs.func {r:Inj}{f:Nat}{a a' c c':List Value}(h:VRs r a a')(k:VRs r c c'):VR r (.func (.func f) a.toArray c.toArray) (.func (.func f) a'.toArray c'.toArray):=
 .func rfl (by simpa using h.1) (fun i v v' e e'=>h.2 i v v' (by simpa using e) (by simpa using e')) (by simpa using k.1) (fun i v v' e e'=>k.2 i v v' (by simpa using e) (by simpa using e'))
theorem Ol_ {f:Nat}{first cap:Array Operand}(ho:o.op= .makeFunc (.func f) first cap):OpV E o (I4 ds first.toList cap.toList fun x c=>M.pure (.func (.func f) x.toArray c.toArray)) ds:=by
 obtain⟨g,h1,h2⟩:=DB ds first.toList
 obtain⟨g',h3,h4⟩:=DB ds cap.toList
 refine⟨_,by unfold I4;rw[h1,h3],fun _ _ rho tm=>Dy (g:=g rho tm) (f:=fun(a:List Value) s=>Option.rec (motive:=fun _=>R Value) .none (fun(b:List Value)=>M.pure (Value.func (.func f) a.toArray b.toArray) s) (g' rho tm)) fun a=>Dy (f:=fun(b:List Value)=>M.pure (Value.func (.func f) a.toArray b.toArray)) fun b=>AE _, ?_⟩
 intro call round w0 w r U rho tm a s v s' hs hu hr h hf
 obtain⟨x',e1,h⟩:=Dh (f:=fun(a:List Value) s=>Option.rec (motive:=fun _=>R Value) .none (fun(b:List Value)=>M.pure (Value.func (.func f) a.toArray b.toArray) s) (g' rho tm)) h
 obtain⟨y',e2,h⟩:=Dh (f:=fun(b:List Value)=>M.pure (Value.func (.func f) x'.toArray b.toArray)) h
 obtain⟨rfl,rfl⟩:=AD h
 refine⟨_,w,r, .inl ?_, .of_rel rfl hr,(h2 _ _ _ _ _ _ hs (fun t q=>hu t (by simp[ho,Op.operands]at q ⊢;simp[q])) e1).func (h4 _ _ _ _ _ _ hs (fun t q=>hu t (by simp[ho,Op.operands]at q ⊢;simp[q])) e2),rfl,rfl⟩
 simp[execOp,ho,Instr.makeFunc]
 exact⟨Z8 _ _,Z8 _ _⟩
theorem Agm_ {b:Builtin}{c:Call}(ho:o.op= .call c)(hb:c.callee= .builtin b)(hn:b≠ .recover)(he:EnvTy E):OpV E o (GP ds c.args.toList (Ba E b c.argTypes.toList)) ds:=by
 obtain⟨g,h1,h2⟩:=DB ds c.args.toList
 refine⟨_,by unfold GP;rw[h1],fun _ _ rho tm=>Dy (g:=g rho tm) (AaQ_ _ _ _), ?_⟩
 intro call round w0 w r U rho tm a s v s' hs hu hr h hf
 obtain⟨l,e1,h⟩:=Dh h
 have hl:VRs r l (c.args.toList.map a.eval):=h2 _ _ _ _ _ _ hs (fun t q=>hu t (by simp[ho,Op.operands,Call.operands]at q ⊢;simp[q])) e1
 have key: ∀{m:Sem Value},Yields E w0 r s s' v w m→(∀(cs:Array Bool) w,(builtin b c.argTypes o.type cs (c.args.map a.eval)).run E.P w=(Cr m).run E.P w)→
   ∃v' w' r',((execOp a.eval o).run E.P w= .ok (.value v') w'∨((execOp a.eval o).run E.P w= .ok .skip w'∧v'=undef))∧Goes w0 r s s' r' w'∧VR r' v v'∧s'.lim=s.lim∧s'.cx=s.cx:=by
  intro m hy hm
  obtain⟨v',w',r',k1,k2,k3,k4,k5⟩:=hy
  refine⟨v',w',r', .inl ?_,k2,k3,k4,k5⟩
  simp only[execOp,ho,resolve,hb,invoke,Sem.run_bind,Sem.run_pure,Result.andThen_ok,hm,Cr,k1]
 generalize hts:c.argTypes.toList=ts at h
 have hmap:c.args.map a.eval=(c.args.toList.map a.eval).toArray:=by rw[←List.map_toArray]
 have ht0: ∀{t:Nat} {l:List Nat},c.argTypes.toList=t::l→c.argTypes[0]?=some t:=by
  intro t l e;rw[←Array.getElem?_toList,e];rfl
 have ht1: ∀{t t2:Nat} {l:List Nat},c.argTypes.toList=t::t2::l→c.argTypes[1]?=some t2:=by
  intro t t2 l e;rw[←Array.getElem?_toList,e];rfl
 unfold Ba at h
 split at h
 ·rename_i t ts' x
  obtain⟨x',l',q1,q2,q3⟩:=hl.inv
  have:=q3.inv_nil
  subst this
  refine key (Xt_ (ty:=o.type) (ht0 hts) he h hr q2) fun cs w=> ?_
  rw[hmap,q1];simp[builtin,Cr]
 ·rename_i t ts' x
  obtain⟨x',l',q1,q2,q3⟩:=hl.inv
  have:=q3.inv_nil
  subst this
  refine key (Un_ (ty:=o.type) (ht0 hts) he h hr q2) fun cs w=> ?_
  rw[hmap,q1];simp[builtin,Cr]
 ·obtain⟨y',l1,q1,q2,q3⟩:=hl.inv
  obtain⟨x',l',q4,q5,q6⟩:=q3.inv
  have:=q6.inv_nil
  subst this
  subst q4
  refine key (Nl_ (ty:=o.type) (ht0 hts) (ht1 hts) he h hr hf q2 q5) fun cs w=> ?_
  rw[hmap,q1];simp[builtin,Cr]
 ·obtain⟨y',l1,q1,q2,q3⟩:=hl.inv
  obtain⟨x',l',q4,q5,q6⟩:=q3.inv
  have:=q6.inv_nil
  subst this
  subst q4
  refine key (UO_ (ty:=o.type) (ht0 hts) he h hr q2 q5) fun cs w=> ?_
  rw[hmap,q1];simp[builtin,Cr]
 ·obtain⟨y',l1,q1,q2,q3⟩:=hl.inv
  obtain⟨x',l',q4,q5,q6⟩:=q3.inv
  have:=q6.inv_nil
  subst this
  subst q4
  refine key (Abu_ (ty:=o.type) (ht0 hts) he h hr q2 q5) fun cs w=> ?_
  rw[hmap,q1];simp[builtin,Cr]
 ·obtain⟨x',l',q1,q2,q3⟩:=hl.inv
  have:=q3.inv_nil
  subst this
  refine key (Hw_ (ty:=o.type) (ht0 hts) he h hr q2) fun cs w=> ?_
  rw[hmap,q1];simp[builtin,Cr]
 ·refine key (SC_ (ts:=c.argTypes) (ty:=o.type) h hr hl) fun cs w=> ?_
  rw[hmap];simp[builtin,Cr]
 ·refine key (AeR_ (ts:=c.argTypes) (ty:=o.type) h hr hl) fun cs w=> ?_
  rw[hmap];simp[builtin,Cr]
 ·cases h
end
abbrev Out (α:Type):Type:=Sum α (List PanicEntry)
def rOf {α:Type}(o:Out α)(s:St):R α:=
 match o with
 | .inl a=> .some a s
 | .inr c=> .pan c s
def Bnd (s:St):Prop:=s.lim≤s.next
structure LocG {α:Type}(m:M α)(s:St)(o:Out α)(s':St)(Rd Wr:Nat→Prop)(dr dw:List Nat):Prop where
 rd:s'.rd=dr++s.rd
 wr:s'.wr=dw++s.wr
 nxt:s.next≤s'.next
 lim:s'.lim=s.lim
 bnd:Bnd s'
 rlt: ∀l,Rd l→l<s'.next
 wlt: ∀l,Wr l→l<s'.next
 old: ∀l,¬Wr l→T.get s'.mem l=T.get s.mem l
 any: ∀t:St,t.next=s.next→t.lim=s.lim→t.cx=s.cx→(∀l,Rd l∨Wr l→T.get t.mem l=T.get s.mem l)→
  ∃t',m t=rOf o t'∧t'.next=s'.next∧t'.lim=s'.lim∧t'.cx=s'.cx∧t'.rd=dr++t.rd∧t'.wr=dw++t.wr∧
   (∀l,Wr l→T.get t'.mem l=T.get s'.mem l)∧(∀l,¬Wr l→T.get t'.mem l=T.get t.mem l)
def CT {α:Type}(m:M α)(s:St)(o:Out α)(s':St):Prop:=
 ∃Rd Wr dr dw,LocG m s o s' Rd Wr dr dw∧(∀l,Rd l→l<s.lim→l∈dr)∧(∀l,Wr l→l<s.lim→l∈dw)
structure Loc {α:Type}(m:M α):Prop where
 at': ∀s o s',m s=rOf o s'→Bnd s→CT m s o s'
theorem LocG.seq {α β:Type}{m:M α}{n C:M β}{s s1 s':St}{o1:Out α}{o:Out β}{R1 W1 R2 W2:Nat→Prop}{r1 w1 r2 w2:List Nat}
  (h:LocG m s o1 s1 R1 W1 r1 w1) (k:LocG n s1 o s' R2 W2 r2 w2) (hC: ∀t t1,m t=rOf o1 t1→C t=n t1):LocG C s o s' (fun l=>R1 l∨R2 l) (fun l=>W1 l∨W2 l) (r2++r1) (w2++w1) where
 rd:=by rw[k.rd,h.rd,List.append_assoc]
 wr:=by rw[k.wr,h.wr,List.append_assoc]
 nxt:=Nat.le_trans h.nxt k.nxt
 lim:=k.lim.trans h.lim
 bnd:=k.bnd
 rlt:=fun l e=>e.elim (fun e=>Nat.lt_of_lt_of_le (h.rlt l e) k.nxt) (k.rlt l)
 wlt:=fun l e=>e.elim (fun e=>Nat.lt_of_lt_of_le (h.wlt l e) k.nxt) (k.wlt l)
 old:=fun l e=>(k.old l fun x=>e (.inr x)).trans (h.old l fun x=>e (.inl x))
 any:=fun t e1 e2 e3 e4=>by
  obtain⟨t1,q1,q2,q3,q4,q5,q6,q7,q8⟩:=h.any t e1 e2 e3 fun l e=>e4 l (e.elim (fun e=> .inl (.inl e)) (fun e=> .inr (.inl e)))
  obtain⟨t2,p1,p2,p3,p4,p5,p6,p7,p8⟩:=k.any t1 q2 q3 q4 (fun l e=>by
   by_cases hw:W1 l
   ·exact q7 l hw
   ·rw[q8 l hw,h.old l hw]
    exact e4 l (e.elim (fun e=> .inl (.inr e)) (fun e=> .inr (.inr e))))
  refine⟨t2,(hC t t1 q1).trans p1,p2,p3,p4,by rw[p5,q5,List.append_assoc],by rw[p6,q6,List.append_assoc],fun l e=> ?_,fun l e=>(p8 l fun x=>e (.inr x)).trans (q8 l fun x=>e (.inl x))⟩
  by_cases hw:W2 l
  ·exact p7 l hw
  ·rw[p8 l hw,k.old l hw]
   exact e.elim (q7 l) (fun x=>absurd x hw)
theorem CT.bnd {α:Type}{m:M α}{s s':St}{o:Out α}(h:CT m s o s'):Bnd s':=let ⟨_,_,_,_,e,_⟩:=h;e.bnd
theorem CT.lim {α:Type}{m:M α}{s s':St}{o:Out α}(h:CT m s o s'):s'.lim=s.lim:=let ⟨_,_,_,_,e,_⟩:=h;e.lim
theorem CT.next {α:Type}{m:M α}{s s':St}{o:Out α}(h:CT m s o s'):s.next≤s'.next:=let ⟨_,_,_,_,e,_⟩:=h;e.nxt
theorem CT.seq {α β:Type}{m:M α}{n C:M β}{s s1 s':St}{o1:Out α}{o:Out β}(h:CT m s o1 s1)(k:CT n s1 o s')(hC: ∀t t1,m t=rOf o1 t1→C t=n t1):CT C s o s':=by
 obtain⟨R1,W1,r1,w1,h1,h2,h3⟩:=h
 obtain⟨R2,W2,r2,w2,k1,k2,k3⟩:=k
 refine⟨_,_,_,_,h1.seq k1 hC,fun l e x=> ?_,fun l e x=> ?_⟩
 ·exact e.elim (fun e=>List.mem_append_right _ (h2 l e x)) (fun e=>List.mem_append_left _ (k2 l e (by rw[h1.lim];exact x)))
 ·exact e.elim (fun e=>List.mem_append_right _ (h3 l e x)) (fun e=>List.mem_append_left _ (k3 l e (by rw[h1.lim];exact x)))
theorem Bl {α:Type}{o:Out α}{a:α}{s s':St}(h:R.some a s=rOf o s'):o= .inl a∧s'=s:=by cases o<;>cases h;exact⟨rfl,rfl⟩
theorem I3 {α:Type}{o:Out α}{c:List PanicEntry}{s s':St}(h:R.pan c s=rOf o s'):o= .inr c∧s'=s:=by cases o<;>cases h;exact⟨rfl,rfl⟩
theorem A5 {α:Type}{o:Out α}{s':St}(h:R.none=rOf o s'):False:=by cases o<;>cases h
theorem CT.quiet {α:Type}{m:M α}{s:St}{o:Out α}(hb:Bnd s)(h: ∀t:St,t.cx=s.cx→m t=rOf o t):CT m s o s:=
 ⟨fun _=>False,fun _=>False,[],[],⟨rfl,rfl,Nat.le_refl _,rfl,hb,fun _ e=>e.elim,fun _ e=>e.elim,fun _ _=>rfl,
  fun t e1 e2 e3 _=>⟨t,h t e3,e1,e2,e3,rfl,rfl,fun _ e=>e.elim,fun _ _=>rfl⟩⟩,fun _ e=>e.elim,fun _ e=>e.elim⟩
theorem AA {α:Type}(a:α):Loc (M.pure a):=⟨fun s o s' h hb=>by
 obtain⟨rfl,rfl⟩:=Bl h
 exact .quiet hb fun t _=>rfl⟩
theorem Az {α:Type}:Loc (M.fail:M α):=⟨fun s o s' h hb=>(A5 h).elim⟩
theorem AP {α:Type}(x:Option α):Loc (M.ofOpt x):=by
 cases x with
 |none=>exact Az
 |some a=>exact AA a
theorem I5 {α β:Type}{m:M α}{f:α→M β}{g:List PanicEntry→M β}(h:Loc m)(kf: ∀a,Loc (f a))(kg: ∀c,Loc (g c)):
  Loc (fun s=>R.rec (motive:=fun _=>R β) .none (fun a s=>f a s) (fun c s=>g c s) (m s)):=⟨fun s o s' e hb=>by
 cases e1:m s with
 |none=>rw[e1]at e;exact(A5 e).elim
 |some a s1=>
  rw[e1]at e
  have h1:=h.at' s (.inl a) s1 e1 hb
  exact h1.seq ((kf a).at' s1 o s' e h1.bnd) fun t t1 q=>by rw[q];rfl
 |pan c s1=>
  rw[e1]at e
  have h1:=h.at' s (.inr c) s1 e1 hb
  exact h1.seq ((kg c).at' s1 o s' e h1.bnd) fun t t1 q=>by rw[q];rfl⟩
theorem Rx {α:Type}(c:List PanicEntry):Loc (fun s=>R.pan c s:M α):=⟨fun s o s' h hb=>by
 obtain⟨rfl,rfl⟩:=I3 h
 exact .quiet hb fun t _=>rfl⟩
theorem W6 {α:Type}:Loc (fun _=>R.none:M α):=⟨fun s o s' h hb=>(A5 h).elim⟩
theorem Ax {α β:Type}{m:M α}{f:α→M β}(h:Loc m)(k: ∀a,Loc (f a)):Loc (M.bind m f):=I5 h k fun c=>Rx c
theorem Fo {α:Type}{m:M α}(h:Loc m):Loc (noP m):=I5 h (fun a=>AA a) fun _=>W6
theorem AI {α:Type}(b:Bool){m:M α}(h:Loc m):Loc (M.chk b m):=by
 cases b with
 |false=>exact Az
 |true=>exact h
theorem AT {α:Type}(b:Bool){m n:M α}(h:Loc m)(k:Loc n):Loc (M.if b m n):=by cases b<;>assumption
theorem AG {α β:Type}(x:Option α){f:α→M β}(k: ∀a,Loc (f a)):Loc (M.on x f):=by
 cases x with
 |none=>exact Az
 |some a=>exact k a
theorem AO {α:Type}(n:Nat){f:Nat→M α}(k: ∀a,Loc (f a)):Loc (fN n f):=by rw[A6];exact k _
theorem AN {α:Type}(n:Int){f:Int→M α}(k: ∀a,Loc (f a)):Loc (fI n f):=by rw[Ch];exact k _
theorem AS {α:Type}(n:Addr){f:Addr→M α}(k: ∀a,Loc (f a)):Loc (fA n f):=by rw[CK];exact k _
theorem AX {α:Type}(v:Value){f:IntKind→Int→M α}{d:M α}(h: ∀k n,Loc (f k n))(k:Loc d):Loc (Ci v f d):=by
 cases v<;>first|exact h _ _|exact k
theorem AV {α:Type}(b:Bool){m n:M α}(h:Loc m)(k:Loc n):Loc (Bool.rec (motive:=fun _=>M α) m n b):=by cases b<;>assumption
theorem AM {α β:Type}(x:Option α){m:M β}{f:α→M β}(h:Loc m)(k: ∀a,Loc (f a)):Loc (Option.rec (motive:=fun _=>M β) m (fun a=>f a) x):=by
 cases x with
 |none=>exact h
 |some a=>exact k a
theorem KR (loc lim:Nat)(l:List Nat):notes loc lim l=if loc<lim then loc::l else l:=by
 unfold notes
 cases h:Nat.blt loc lim with
 |true=>rw[if_pos (BF h)]
 |false=>rw[if_neg];intro h2;rw[show Nat.blt loc lim=true from Nat.ble_eq_true_of_le h2]at h;cases h
theorem ED (loc lim:Nat)(l:List Nat):notes loc lim l=notes loc lim []++l:=by
 rw[KR,KR]
 split<;>rfl
theorem PZ {loc lim:Nat}(h:loc<lim):loc∈notes loc lim []:=by rw[KR,if_pos h];exact List.mem_cons_self
theorem CD_ (loc:Nat)(s:St):rdC loc s=if loc<s.next then match T.get s.mem loc with|none=> .none|some c=> .some c ⟨s.mem,s.next,s.lim,notes loc s.lim s.rd,s.wr,s.cx⟩else .none:=by
 obtain⟨mem,next,lim,rd,wr,cx⟩:=s
 unfold rdC
 simp only
 cases hb:Nat.blt loc next with
 |false=>rw[if_neg];intro h2;rw[show Nat.blt loc next=true from Nat.ble_eq_true_of_le h2]at hb;cases hb
 |true=>
  rw[if_pos (BF hb)]
  cases T.get mem loc<;>rfl
theorem CB_ (loc:Nat)(c:Cell)(s:St):wrC loc c s=if loc<s.next then .some () ⟨T.set s.mem loc c,s.next,s.lim,s.rd,notes loc s.lim s.wr,s.cx⟩else .none:=by
 obtain⟨mem,next,lim,rd,wr,cx⟩:=s
 unfold wrC
 obtain⟨v,l,r,e⟩:=T.set_N mem loc c
 simp only[e]
 cases hb:Nat.blt loc next with
 |false=>rw[if_neg];intro h2;rw[show Nat.blt loc next=true from Nat.ble_eq_true_of_le h2]at hb;cases hb
 |true=>rw[if_pos (BF hb)]
theorem Ve (loc:Nat)(s:St):delC loc s=if loc<s.next then .some () ⟨T.del s.mem loc,s.next,s.lim,s.rd,notes loc s.lim s.wr,s.cx⟩else .none:=by
 obtain⟨mem,next,lim,rd,wr,cx⟩:=s
 unfold delC
 simp only
 cases hb:Nat.blt loc next with
 |false=>rw[if_neg];intro h2;rw[show Nat.blt loc next=true from Nat.ble_eq_true_of_le h2]at hb;cases hb
 |true=>rw[if_pos (BF hb)]
theorem Vs (vs:List Value)(s:St):newL vs s= .some s.next ⟨layL s.next vs s.next s.mem,s.next+vs.length+1,s.lim,s.rd,s.wr,s.cx⟩:=by
 obtain⟨mem,next,lim,rd,wr,cx⟩:=s
 have h0:newL vs ⟨mem,next,lim,rd,wr,cx⟩=fN next fun b=>fN (Nat.succ (Nat.add b vs.length)) fun n=>R.some b (St.mk (layL b vs b mem) n lim rd wr cx):=rfl
 rw[h0,A6,A6]
 rfl
theorem UC (o:AObj)(s:St):newO o s= .some s.next ⟨T.set s.mem s.next (.O o),s.next+1,s.lim,s.rd,s.wr,s.cx⟩:=by
 obtain⟨mem,next,lim,rd,wr,cx⟩:=s
 have h0:newO o ⟨mem,next,lim,rd,wr,cx⟩=fN next fun b=>fN (Nat.succ b) fun n=>R.some b (St.mk (T.set mem b (.O o)) n lim rd wr cx):=rfl
 rw[h0,A6,A6]
theorem CY (loc:Nat):Loc (rdC loc):=⟨fun s o s' h hb=>by
 rw[CD_]at h
 split at h
 case isFalse=>exact(A5 h).elim
 case isTrue hl=>
  cases e:T.get s.mem loc with
  |none=>rw[e]at h;exact(A5 h).elim
  |some c=>
   rw[e]at h
   obtain⟨rfl,rfl⟩:=Bl h
   refine⟨fun l=>l=loc,fun _=>False,notes loc s.lim [],[],⟨ED _ _ _,rfl,Nat.le_refl _,rfl,hb,fun l e1=>by rw[e1];exact hl,fun _ e=>e.elim,fun _ _=>rfl,fun t e1 e2 e3 e4=> ?_⟩,fun l e1 e2=> ?_,fun _ e=>e.elim⟩
   ·refine⟨⟨t.mem,t.next,t.lim,notes loc t.lim t.rd,t.wr,t.cx⟩, ?_,e1,e2,e3, ?_,rfl,fun _ e=>e.elim,fun _ _=>rfl⟩
    ·rw[CD_,if_pos (by rw[e1];exact hl),e4 loc (.inl rfl),e];rfl
    ·rw[←e2];exact ED _ _ _
   ·rw[e1];exact PZ (by rw[←e1];exact e2)⟩
theorem Cq (loc:Nat)(c:Cell):Loc (wrC loc c):=⟨fun s o s' h hb=>by
 rw[CB_]at h
 split at h
 case isFalse=>exact(A5 h).elim
 case isTrue hl=>
  obtain⟨rfl,rfl⟩:=Bl h
  refine⟨fun _=>False,fun l=>l=loc,[],notes loc s.lim [],⟨rfl,ED _ _ _,Nat.le_refl _,rfl,hb,fun _ e=>e.elim,fun l e1=>by rw[e1];exact hl,fun l e=> ?_,fun t e1 e2 e3 e4=> ?_⟩,fun _ e=>e.elim,fun l e1 e2=> ?_⟩
  ·simp only[T.get_set,if_neg e]
  ·refine⟨⟨T.set t.mem loc c,t.next,t.lim,t.rd,notes loc t.lim t.wr,t.cx⟩, ?_,e1,e2,e3,rfl, ?_,fun l e=> ?_,fun l e=> ?_⟩
   ·rw[CB_,if_pos (by rw[e1];exact hl)];rfl
   ·rw[←e2];exact ED _ _ _
   ·simp only[T.get_set,if_pos e]
   ·simp only[T.get_set,if_neg e]
  ·rw[e1];exact PZ (by rw[←e1];exact e2)⟩
theorem QM_ (loc:Nat):Loc (delC loc):=⟨fun s o s' h hb=>by
 rw[Ve]at h
 split at h
 case isFalse=>exact(A5 h).elim
 case isTrue hl=>
  obtain⟨rfl,rfl⟩:=Bl h
  refine⟨fun _=>False,fun l=>l=loc,[],notes loc s.lim [],⟨rfl,ED _ _ _,Nat.le_refl _,rfl,hb,fun _ e=>e.elim,fun l e1=>by rw[e1];exact hl,fun l e=> ?_,fun t e1 e2 e3 e4=> ?_⟩,fun _ e=>e.elim,fun l e1 e2=> ?_⟩
  ·simp only[T.get_del,if_neg e]
  ·refine⟨⟨T.del t.mem loc,t.next,t.lim,t.rd,notes loc t.lim t.wr,t.cx⟩, ?_,e1,e2,e3,rfl, ?_,fun l e=> ?_,fun l e=> ?_⟩
   ·rw[Ve,if_pos (by rw[e1];exact hl)];rfl
   ·rw[←e2];exact ED _ _ _
   ·simp only[T.get_del,if_pos e]
   ·simp only[T.get_del,if_neg e]
  ·rw[e1];exact PZ (by rw[←e1];exact e2)⟩
theorem NA (b:Nat): ∀(vs:List Value) (loc:Nat) (t:T Cell) (k:Nat),T.get (layL b vs loc t) k=if loc≤k∧k<loc+vs.length then(vs[k-loc]?).map (.C b)else T.get t k
 |[],loc,t,k=>by rw[if_neg (fun e=>by have:=e.2;simp at this;omega)];rfl
 |v::vs,loc,t,k=>by
  have h0:layL b (v::vs) loc t=fN loc fun loc=>layL b vs (Nat.succ loc) (T.set t loc (.C b v)):=rfl
  rw[h0,A6,NA b vs]
  by_cases h1:loc=k
  ·subst h1
   rw[if_neg (by omega),if_pos (by simp),T.get_set,if_pos rfl]
   simp
  ·by_cases h2:loc≤k∧k<loc+(v::vs).length
   ·have h3:k-loc=(k-Nat.succ loc)+1:=by omega
    rw[if_pos h2,if_pos (by simp at h2 ⊢;omega),h3,List.getElem?_cons_succ]
   ·rw[if_neg h2,if_neg (by simp at h2 ⊢;omega),T.get_set,if_neg (fun e=>h1 e.symm)]
theorem ES (vs:List Value):Loc (newL vs):=⟨fun s o s' h hb=>by
 rw[Vs]at h
 obtain⟨rfl,rfl⟩:=Bl h
 refine⟨fun _=>False,fun l=>s.next≤l∧l<s.next+vs.length,[],[],⟨rfl,rfl,by show s.next≤s.next+vs.length+1;omega,rfl, ?_,fun _ e=>e.elim,fun l e=> ?_,fun l e=> ?_,fun t e1 e2 e3 e4=> ?_⟩,fun _ e=>e.elim,fun l e1 e2=> ?_⟩
 ·show s.lim≤s.next+vs.length+1
  unfold Bnd at hb;omega
 ·show l<s.next+vs.length+1
  omega
 ·simp only[NA,if_neg e]
 ·refine⟨⟨layL t.next vs t.next t.mem,t.next+vs.length+1,t.lim,t.rd,t.wr,t.cx⟩, ?_,by rw[e1],e2,e3,rfl,rfl,fun l e=> ?_,fun l e=> ?_⟩
  ·rw[Vs,e1];rfl
  ·simp only[NA,e1,if_pos e]
  ·simp only[NA,e1,if_neg e]
 ·unfold Bnd at hb;omega⟩
theorem Hq (x:AObj):Loc (newO x):=⟨fun s o s' h hb=>by
 rw[UC]at h
 obtain⟨rfl,rfl⟩:=Bl h
 refine⟨fun _=>False,fun l=>l=s.next,[],[],⟨rfl,rfl,by show s.next≤s.next+1;omega,rfl, ?_,fun _ e=>e.elim,fun l e=> ?_,fun l e=> ?_,fun t e1 e2 e3 e4=> ?_⟩,fun _ e=>e.elim,fun l e1 e2=> ?_⟩
 ·show s.lim≤s.next+1
  unfold Bnd at hb;omega
 ·show l<s.next+1
  omega
 ·simp only[T.get_set,if_neg e]
 ·refine⟨⟨T.set t.mem t.next (.O x),t.next+1,t.lim,t.rd,t.wr,t.cx⟩, ?_,by rw[e1],e2,e3,rfl,rfl,fun l e=> ?_,fun l e=> ?_⟩
  ·rw[UC,e1];rfl
  ·simp only[T.get_set,e1,if_pos e]
  ·simp only[T.get_set,e1,if_neg e]
 ·unfold Bnd at hb;omega⟩
theorem I2:Loc getCx:=⟨fun s o s' h hb=>by
 obtain⟨rfl,rfl⟩:=Bl (show R.some s.cx s=rOf o s' from h)
 exact .quiet hb fun t e=>by rw[←e];rfl⟩
theorem KS (x:Ctx):Loc (putCx x):=⟨fun s o s' h hb=>by
 obtain⟨rfl,rfl⟩:=Bl (show R.some () (St.mk s.mem s.next s.lim s.rd s.wr x)=rOf o s' from h)
 exact⟨fun _=>False,fun _=>False,[],[],⟨rfl,rfl,Nat.le_refl _,rfl,hb,fun _ e=>e.elim,fun _ e=>e.elim,fun _ _=>rfl,
  fun t e1 e2 e3 _=>⟨St.mk t.mem t.next t.lim t.rd t.wr x,rfl,e1,e2,rfl,rfl,rfl,fun _ e=>e.elim,fun _ _=>rfl⟩⟩,fun _ e=>e.elim,fun _ e=>e.elim⟩⟩
theorem EE (a:Addr):Loc (rdV a):=by
 obtain⟨b,o,s⟩:=a
 cases s with
 |some x=>exact Az
 |none=>exact Ax (CY _) fun c=>AP _
theorem UX (a:Addr)(v:Value):Loc (wrV a v):=by
 obtain⟨b,o,s⟩:=a
 cases s with
 |some x=>exact Az
 |none=>exact Ax (CY _) fun c=>AI _ (Cq _ _)
theorem Fl: ∀(n:Nat) (a:Addr),Loc (rdL n a)
 |0,_=>AA _
 |n+1,a=>by
  have h0:rdL (n+1) a=fA a fun a=>M.bind (rdV a) fun v=>M.bind (rdL n ⟨a.block,Nat.succ a.off,a.spot⟩) fun l=>M.pure (v::l):=rfl
  rw[h0]
  exact AS _ fun a=>Ax (EE a) fun v=>Ax (Fl n _) fun l=>AA _
theorem IV: ∀(vs:List Value) (a:Addr),Loc (wrL vs a)
 |[],_=>AA _
 |v::vs,a=>by
  have h0:wrL (v::vs) a=fA a fun a=>M.bind (wrV a v) fun _=>wrL vs ⟨a.block,Nat.succ a.off,a.spot⟩:=rfl
  rw[h0]
  exact AS _ fun a=>Ax (UX a v) fun v=>IV vs _
theorem Xu: ∀(n l:Nat),Loc (CF n l)
 |0,_=>AA _
 |n+1,l=>by
  have h0:CF (n+1) l=M.bind (delC l) fun _=>CF n (l+1):=rfl
  rw[h0]
  exact Ax (QM_ l) fun _=>Xu n _
theorem Bx (x0:_)(x1:_):Loc (ti x0 x1):=by
 unfold ti
 repeat' (first|exact AA _|exact Az|exact AP _|apply Ax|apply AI|apply AT|apply AG|apply AO|apply AN|apply AS|apply AX|apply AV|apply AM|intro _|split)
theorem Ja (x0:_):Loc (pV x0):=by
 unfold pV
 repeat' (first|exact AA _|exact Az|exact AP _|apply Ax|apply AI|apply AT|apply AG|apply AO|apply AN|apply AS|apply AX|apply AV|apply AM|intro _|split)
theorem NF_ (x0:_)(x1:_)(x2:_)(x3:_)(x4:_):Loc (Da x0 x1 x2 x3 x4):=by
 unfold Da
 repeat' (first|exact AA _|exact Az|exact AP _|exact Bx _ _|apply Ax|apply AI|apply AT|apply AG|apply AO|apply AN|apply AS|apply AX|apply AV|apply AM|intro _|split)
theorem Xf_ (x0:_)(x1:_):Loc (Gs x0 x1):=by
 unfold Gs
 repeat' (first|exact AA _|exact Az|exact AP _|apply Ax|apply AI|apply AT|apply AG|apply AO|apply AN|apply AS|apply AX|apply AV|apply AM|intro _|split)
theorem Agj_ (x0:_)(x1:_)(x2:_):Loc (Hv x0 x1 x2):=by
 unfold Hv
 repeat' (first|exact AA _|exact Az|exact AP _|exact Xf_ _ _|apply Ax|apply AI|apply AT|apply AG|apply AO|apply AN|apply AS|apply AX|apply AV|apply AM|intro _|split)
theorem Qq_ (x0:_)(x1:_)(x2:_)(x3:_)(x4:_)(x5:_)(x6:_):Loc (Bu x0 x1 x2 x3 x4 x5 x6):=by
 unfold Bu
 repeat' (first|exact AA _|exact Az|exact AP _|exact Agj_ _ _ _|exact NF_ _ _ _ _ _|exact Ja _|apply Ax|apply AI|apply AT|apply AG|apply AO|apply AN|apply AS|apply AX|apply AV|apply AM|intro _|split)
theorem MD_ (x0:_):Loc (lenOf x0):=by
 unfold lenOf
 repeat' (first|exact AA _|exact Az|exact AP _|apply Ax|apply AI|apply AT|apply AG|apply AO|apply AN|apply AS|apply AX|apply AV|apply AM|intro _|split)
theorem Fl_ (x0:_)(x1:_)(x2:_):Loc (Fr x0 x1 x2):=by
 unfold Fr
 repeat' (first|exact AA _|exact Az|exact AP _|exact Bx _ _|exact Fl _ _|exact EE _|apply Ax|apply AI|apply AT|apply AG|apply AO|apply AN|apply AS|apply AX|apply AV|apply AM|intro _|split)
theorem Ku_ (x0:_)(x1:_)(x2:_)(x3:_):Loc (Hu x0 x1 x2 x3):=by
 unfold Hu
 repeat' (first|exact AA _|exact Az|exact AP _|exact Bx _ _|exact IV _ _|apply Ax|apply AI|apply AT|apply AG|apply AO|apply AN|apply AS|apply AX|apply AV|apply AM|intro _|split)
theorem Hs (x0:_):Loc (asA x0):=by
 unfold asA
 repeat' (first|exact AA _|exact Az|exact AP _|apply Ax|apply AI|apply AT|apply AG|apply AO|apply AN|apply AS|apply AX|apply AV|apply AM|intro _|split)
theorem Kv (x0:_)(x1:_)(x2:_):Loc (bnd x0 x1 x2):=by
 unfold bnd
 repeat' (first|exact AA _|exact Az|exact AP _|apply Ax|apply AI|apply AT|apply AG|apply AO|apply AN|apply AS|apply AX|apply AV|apply AM|intro _|split)
theorem SX (x0:_):Loc (ptrA x0):=by
 unfold ptrA
 repeat' (first|exact AA _|exact Az|exact AP _|apply Ax|apply AI|apply AT|apply AG|apply AO|apply AN|apply AS|apply AX|apply AV|apply AM|intro _|split)
theorem H4 (x0:_)(x1:_)(x2:_):Loc (pSl x0 x1 x2):=by
 unfold pSl
 repeat' (first|exact AA _|exact Az|exact AP _|apply Ax|apply AI|apply AT|apply AG|apply AO|apply AN|apply AS|apply AX|apply AV|apply AM|intro _|split)
theorem LN (x0:_):Loc (pN x0):=by
 unfold pN
 repeat' (first|exact AA _|exact Az|exact AP _|apply Ax|apply AI|apply AT|apply AG|apply AO|apply AN|apply AS|apply AX|apply AV|apply AM|intro _|split)
theorem Acb_ (x0:_)(x1:_)(x2:_)(x3:_)(x4:_):Loc (FV x0 x1 x2 x3 x4):=by
 unfold FV
 repeat' (first|exact AA _|exact Az|exact AP _|exact H4 _ _ _|exact Kv _ _ _|apply Ax|apply AI|apply AT|apply AG|apply AO|apply AN|apply AS|apply AX|apply AV|apply AM|intro _|split)
theorem Sq_ (x0:_)(x1:_)(x2:_)(x3:_)(x4:_)(x5:_):Loc (slSl x0 x1 x2 x3 x4 x5):=by
 unfold slSl
 repeat' (first|exact AA _|exact Az|exact AP _|exact H4 _ _ _|exact Kv _ _ _|apply Ax|apply AI|apply AT|apply AG|apply AO|apply AN|apply AS|apply AX|apply AV|apply AM|intro _|split)
theorem Ui_ (x0:_)(x1:_)(x2:_):Loc (Gb x0 x1 x2):=by
 unfold Gb
 repeat' (first|exact AA _|exact Az|exact AP _|exact Kv _ _ _|apply Ax|apply AI|apply AT|apply AG|apply AO|apply AN|apply AS|apply AX|apply AV|apply AM|intro _|split)
theorem Wi_ (x0:_)(x1:_)(x2:_)(x3:_)(x4:_):Loc (B5 x0 x1 x2 x3 x4):=by
 unfold B5
 repeat' (first|exact AA _|exact Az|exact AP _|exact Ui_ _ _ _|exact Sq_ _ _ _ _ _ _|exact Acb_ _ _ _ _ _|exact Kv _ _ _|exact Bx _ _|apply Ax|apply AI|apply AT|apply AG|apply AO|apply AN|apply AS|apply AX|apply AV|apply AM|intro _|split)
theorem Wu (x0:_)(x1:_)(x2:_):Loc (srcL x0 x1 x2):=by
 unfold srcL
 repeat' (first|exact AA _|exact Az|exact AP _|exact Fl _ _|apply Ax|apply AI|apply AT|apply AG|apply AO|apply AN|apply AS|apply AX|apply AV|apply AM|intro _|split)
theorem JT_ (x0:_)(x1:_)(x2:_):Loc (appN x0 x1 x2):=by
 unfold appN
 repeat' (first|exact AA _|exact Az|exact AP _|apply Ax|apply AI|apply AT|apply AG|apply AO|apply AN|apply AS|apply AX|apply AV|apply AM|intro _|split)
theorem YN_ (x0:_)(x1:_)(x2:_)(x3:_):Loc (appL x0 x1 x2 x3):=by
 unfold appL
 repeat' (first|exact AA _|exact Az|exact AP _|exact Wu _ _ _|apply Ax|apply AI|apply AT|apply AG|apply AO|apply AN|apply AS|apply AX|apply AV|apply AM|intro _|split)
theorem XB_ (x0:_)(x1:_)(x2:_):Loc (oldL x0 x1 x2):=by
 unfold oldL
 repeat' (first|exact AA _|exact Az|exact AP _|exact Fl _ _|apply Ax|apply AI|apply AT|apply AG|apply AO|apply AN|apply AS|apply AX|apply AV|apply AM|intro _|split)
theorem Agr_ (x0:_)(x1:_)(x2:_):Loc (E7 x0 x1 x2):=by
 unfold E7
 repeat' (first|exact AA _|exact Az|exact AP _|exact Xu _ _|apply Ax|apply AI|apply AT|apply AG|apply AO|apply AN|apply AS|apply AX|apply AV|apply AM|intro _|split)
theorem Afv_ (x0:_)(x1:_)(x2:_)(x3:_):Loc (Df x0 x1 x2 x3):=by
 unfold Df
 repeat' (first|exact AA _|exact Az|exact AP _|exact Agr_ _ _ _|exact Cq _ _|exact CY _|apply Ax|apply AI|apply AT|apply AG|apply AO|apply AN|apply AS|apply AX|apply AV|apply AM|intro _|split)
theorem Adq_ (x0:_)(x1:_)(x2:_)(x3:_)(x4:_)(x5:_)(x6:_)(x7:_):Loc (grow x0 x1 x2 x3 x4 x5 x6 x7):=by
 unfold grow
 repeat' (first|exact AA _|exact Az|exact AP _|exact Afv_ _ _ _ _|exact XB_ _ _ _|exact H4 _ _ _|exact ES _|exact Cq _ _|apply Ax|apply AI|apply AT|apply AG|apply AO|apply AN|apply AS|apply AX|apply AV|apply AM|intro _|split)
theorem Lc_ (x0:_)(x1:_)(x2:_)(x3:_)(x4:_)(x5:_):Loc (EK x0 x1 x2 x3 x4 x5):=by
 unfold EK
 repeat' (first|exact AA _|exact Az|exact AP _|exact H4 _ _ _|exact IV _ _|apply Ax|apply AI|apply AT|apply AG|apply AO|apply AN|apply AS|apply AX|apply AV|apply AM|intro _|split)
theorem We_ (x0:_)(x1:_)(x2:_)(x3:_)(x4:_):Loc (Cj x0 x1 x2 x3 x4):=by
 unfold Cj
 repeat' (first|exact AA _|exact Az|exact AP _|exact Lc_ _ _ _ _ _ _|exact Adq_ _ _ _ _ _ _ _ _|exact YN_ _ _ _ _|exact JT_ _ _ _|exact Bx _ _|apply Ax|apply AI|apply AT|apply AG|apply AO|apply AN|apply AS|apply AX|apply AV|apply AM|intro _|split)
theorem IN_ (x0:_)(x1:_)(x2:_):Loc (Cm x0 x1 x2):=by
 unfold Cm
 repeat' (first|exact AA _|exact Az|exact AP _|exact Bx _ _|apply Ax|apply AI|apply AT|apply AG|apply AO|apply AN|apply AS|apply AX|apply AV|apply AM|intro _|split)
theorem Rd_ (x0:_)(x1:_)(x2:_)(x3:_):Loc (Cu x0 x1 x2 x3):=by
 unfold Cu
 repeat' (first|exact AA _|exact Az|exact AP _|exact Bx _ _|exact ES _|exact Cq _ _|apply Ax|apply AI|apply AT|apply AG|apply AO|apply AN|apply AS|apply AX|apply AV|apply AM|intro _|split)
theorem SA (x0:_)(x1:_)(x2:_)(x3:_):Loc (EI x0 x1 x2 x3):=by
 unfold EI
 repeat' (first|exact AA _|exact Az|exact AP _|exact Bx _ _|apply Ax|apply AI|apply AT|apply AG|apply AO|apply AN|apply AS|apply AX|apply AV|apply AM|intro _|split)
theorem XZ_ (x0:_)(x1:_)(x2:_)(x3:_)(x4:_):Loc (EW x0 x1 x2 x3 x4):=by
 unfold EW
 repeat' (first|exact AA _|exact Az|exact AP _|exact Wu _ _ _|exact LN _|exact MD_ _|exact Bx _ _|exact IV _ _|apply Ax|apply AI|apply AT|apply AG|apply AO|apply AN|apply AS|apply AX|apply AV|apply AM|intro _|split)
theorem EG (x0:_):Loc (mapAt x0):=by
 unfold mapAt
 repeat' (first|exact AA _|exact Az|exact AP _|exact CY _|apply Ax|apply AI|apply AT|apply AG|apply AO|apply AN|apply AS|apply AX|apply AV|apply AM|intro _|split)
theorem Acs_ (x0:_):Loc (El x0):=by
 unfold El
 repeat' (first|exact AA _|exact Az|exact AP _|exact EG _|exact LN _|apply Ax|apply AI|apply AT|apply AG|apply AO|apply AN|apply AS|apply AX|apply AV|apply AM|intro _|split)
theorem Agi_ (x0:_)(x1:_)(x2:_):Loc (aLen x0 x1 x2):=by
 unfold aLen
 repeat' (first|exact AA _|exact Az|exact AP _|exact Acs_ _|exact LN _|exact Bx _ _|apply Ax|apply AI|apply AT|apply AG|apply AO|apply AN|apply AS|apply AX|apply AV|apply AM|intro _|split)
theorem Agv_ (x0:_)(x1:_)(x2:_):Loc (aCap x0 x1 x2):=by
 unfold aCap
 repeat' (first|exact AA _|exact Az|exact AP _|exact LN _|exact Bx _ _|apply Ax|apply AI|apply AT|apply AG|apply AO|apply AN|apply AS|apply AX|apply AV|apply AM|intro _|split)
theorem QF_ (x0:_)(x1:_)(x2:_):Loc (Gt x0 x1 x2):=by
 unfold Gt
 repeat' (first|exact AA _|exact Az|exact AP _|exact Bx _ _|exact IV _ _|apply Ax|apply AI|apply AT|apply AG|apply AO|apply AN|apply AS|apply AX|apply AV|apply AM|intro _|split)
theorem Xa (x0:_):Loc (zeroV x0):=by
 unfold zeroV
 repeat' (first|exact AA _|exact Az|exact AP _|apply Ax|apply AI|apply AT|apply AG|apply AO|apply AN|apply AS|apply AX|apply AV|apply AM|intro _|split)
theorem G4 (E:_)(e:_)(t:_)(k:_)(es:_):Loc (Cv E e t k es):=AI _ (AG _ fun _=>AA _)
theorem Qu (x0:_)(x1:_)(x2:_):Loc (DM x0 x1 x2):=by
 unfold DM
 repeat' (first|exact AA _|exact Az|exact AP _|apply Ax|apply AI|apply AT|apply AG|apply AO|apply AN|apply AS|apply AX|apply AV|apply AM|intro _|split)
theorem Sc (x0:_)(x1:_):Loc (zeroOf x0 x1):=by
 unfold zeroOf
 repeat' (first|exact AA _|exact Az|exact AP _|exact Xa _|exact Bx _ _|apply Ax|apply AI|apply AT|apply AG|apply AO|apply AN|apply AS|apply AX|apply AV|apply AM|intro _|split)
theorem Aeh_ (E:_)(a:_)(b:_)(k:_)(c:_):Loc (PH E a b k c):=Ax (G4 _ _ _ _ _) fun r=>by
 cases r with
 |none=>exact Ax (Sc _ _) fun _=>Qu _ _ _
 |some j=>exact Az
theorem Ma_ (E:_)(a:_)(b:_)(k:_)(c:_)(es:_):Loc (DL E a b k c es):=Ax (G4 _ _ _ _ _) fun r=>by
 cases r with
 |none=>exact Ax (Sc _ _) fun _=>Qu _ _ _
 |some j=>exact AG _ fun _=>Qu _ _ _
theorem IB (x0:_)(x1:_):Loc (mapT x0 x1):=by
 unfold mapT
 repeat' (first|exact AA _|exact Az|exact AP _|exact Bx _ _|apply Ax|apply AI|apply AT|apply AG|apply AO|apply AN|apply AS|apply AX|apply AV|apply AM|intro _|split)
theorem VR_ (E:_)(t:_)(c:_)(x:_)(k:_):Loc (Cy E t c x k):=Ax (IB _ _) fun ke=>by
 cases x with
 |map m=>
  cases m with
  |none=>exact Aeh_ _ _ _ _ _
  |some l=>exact Ax (EG _) fun p=>Ma_ _ _ _ _ _ _
 |_=>exact Az
theorem Wn_ (E:_)(t:_)(k:_)(x:_)(l:_)(p:_):Loc (putE E t k x l p):=Ax (G4 _ _ _ _ _) fun r=>by
 cases r with
 |none=>exact Cq _ _
 |some j=>exact AG _ fun _=>AI _ (Cq _ _)
theorem Wa (E:_)(t:_)(m:_)(k:_)(x:_):Loc (DU E t m k x):=Ax (IB _ _) fun ke=>by
 cases m with
 |map m=>
  cases m with
  |none=>exact Az
  |some l=>exact Ax (EG _) fun p=>Ax (Wn_ _ _ _ _ _ _) fun _=>AA _
 |_=>exact Az
theorem AeQ_ (E:_)(a:_)(b:_)(k:_)(l:_)(p:_):Loc (entE E a b k l p):=Ax (G4 _ _ _ _ _) fun r=>by
 cases r with
 |none=>exact Ax (Sc _ _) fun _=>Ax (Cq _ _) fun _=>AA _
 |some j=>exact AG _ fun _=>AI _ (Ax (Cq _ _) fun _=>AA _)
theorem RQ_ (E:_)(t:_)(m:_)(k:_):Loc (Ib E t m k):=Ax (IB _ _) fun ke=>by
 cases m with
 |map m=>
  cases m with
  |none=>exact Az
  |some l=>exact Ax (EG _) fun p=>AeQ_ _ _ _ _ _ _
 |_=>exact Az
theorem UT_ (x0:_)(x1:_)(x2:_):Loc (Ek x0 x1 x2):=by
 unfold Ek
 repeat' (first|exact AA _|exact Az|exact AP _|exact EG _|exact Cq _ _|apply Ax|apply AI|apply AT|apply AG|apply AO|apply AN|apply AS|apply AX|apply AV|apply AM|intro _|split)
theorem Ap_:Loc (Dw):=by
 unfold Dw
 repeat' (first|exact AA _|exact Az|exact AP _|exact Hq _|apply Ax|apply AI|apply AT|apply AG|apply AO|apply AN|apply AS|apply AX|apply AV|apply AM|intro _|split)
theorem HC_ (x0:_)(x1:_)(x2:_):Loc (Fi x0 x1 x2):=by
 unfold Fi
 repeat' (first|exact AA _|exact Az|exact AP _|exact Ap_|exact IB _ _|apply Ax|apply AI|apply AT|apply AG|apply AO|apply AN|apply AS|apply AX|apply AV|apply AM|intro _|split)
theorem Tl_ (E:_)(t:_)(m:_)(k:_):Loc (kDel E t m k):=Ax (IB _ _) fun ke=>by
 cases m with
 |map m=>
  cases m with
  |none=>exact Ax (G4 _ _ _ _ _) fun _=>AA _
  |some l=>exact Ax (EG _) fun p=>Ax (G4 _ _ _ _ _) fun r=>by cases r<;>exact Ax (Cq _ _) fun _=>AA _
 |_=>exact Az
theorem LU_ (x0:_)(x1:_)(x2:_)(x3:_):Loc (Ba x0 x1 x2 x3):=by
 unfold Ba
 repeat' (first|exact AA _|exact Az|exact AP _|exact Tl_ _ _ _ _|exact QF_ _ _ _|exact Agv_ _ _ _|exact Agi_ _ _ _|exact XZ_ _ _ _ _ _|exact We_ _ _ _ _ _|exact Ja _|apply Ax|apply AI|apply AT|apply AG|apply AO|apply AN|apply AS|apply AX|apply AV|apply AM|intro _|split)
theorem KF_ (x0:_)(x1:_)(x2:_)(x3:_):Loc (idxN x0 x1 x2 x3):=by
 unfold idxN
 repeat' (first|exact AA _|exact Az|exact AP _|exact SX _|exact Bx _ _|apply Ax|apply AI|apply AT|apply AG|apply AO|apply AN|apply AS|apply AX|apply AV|apply AM|intro _|split)
theorem Pa (x0:_):Loc (asN x0):=by
 unfold asN
 repeat' (first|exact AA _|exact Az|exact AP _|apply Ax|apply AI|apply AT|apply AG|apply AO|apply AN|apply AS|apply AX|apply AV|apply AM|intro _|split)
theorem SH_ (x0:_)(x1:_)(x2:_):Loc (Bj x0 x1 x2):=by
 unfold Bj
 repeat' (first|exact AA _|exact Az|exact AP _|apply Ax|apply AI|apply AT|apply AG|apply AO|apply AN|apply AS|apply AX|apply AV|apply AM|intro _|split)
theorem Yr (x0:_):Loc (ptrN x0):=by
 unfold ptrN
 repeat' (first|exact AA _|exact Az|exact AP _|apply Ax|apply AI|apply AT|apply AG|apply AO|apply AN|apply AS|apply AX|apply AV|apply AM|intro _|split)
theorem Aep_ (x0:_)(x1:_):Loc (CP x0 x1):=by
 unfold CP
 repeat' (first|exact AA _|exact Az|exact AP _|exact Yr _|exact Bx _ _|exact ES _|apply Ax|apply AI|apply AT|apply AG|apply AO|apply AN|apply AS|apply AX|apply AV|apply AM|intro _|split)
theorem Abr_ (x0:_):Loc (kBox x0):=by
 unfold kBox
 repeat' (first|exact AA _|exact Az|exact AP _|exact Yr _|exact ES _|apply Ax|apply AI|apply AT|apply AG|apply AO|apply AN|apply AS|apply AX|apply AV|apply AM|intro _|split)
theorem Kl_ (x0:_)(x1:_)(x2:_):Loc (AC x0 x1 x2):=by
 unfold AC
 repeat' (first|exact AA _|exact Az|exact AP _|exact Hs _|exact Fl_ _ _ _|apply Ax|apply AI|apply AT|apply AG|apply AO|apply AN|apply AS|apply AX|apply AV|apply AM|intro _|split)
theorem Kb_ (x0:_)(x1:_)(x2:_)(x3:_):Loc (BM x0 x1 x2 x3):=by
 unfold BM
 repeat' (first|exact AA _|exact Az|exact AP _|exact Hs _|exact Ku_ _ _ _ _|apply Ax|apply AI|apply AT|apply AG|apply AO|apply AN|apply AS|apply AX|apply AV|apply AM|intro _|split)
theorem VH_ (x0:_):Loc (kNil x0):=by
 unfold kNil
 repeat' (first|exact AA _|exact Az|exact AP _|apply Ax|apply AI|apply AT|apply AG|apply AO|apply AN|apply AS|apply AX|apply AV|apply AM|intro _|split)
theorem AeC_ (b:Bool):Loc (pB b):=by cases b<;>exact AA _
theorem Mj (x0:_)(x1:_)(x2:_):Loc (C4 x0 x1 x2):=by
 unfold C4
 repeat' (first|exact AA _|exact Az|exact AP _|exact Ja _|apply Ax|apply AI|apply AT|apply AG|apply AO|apply AN|apply AS|apply AX|apply AV|apply AM|intro _|split)
theorem Xy_ (P:Program)(v:Value):Loc (xorU P v):=by
 have h:=Mj P .xor v
 cases v with
 |int k n=>
  cases n with
  |negSucc m=>exact Mj P .xor (.int k (.negSucc m))
  |ofNat m=>
   show Loc (Option.rec (motive:=fun _=>M Value) (C4 P .xor (.int k (.ofNat m))) (fun x=>M.pure x) (notK k m))
   exact AM _ (Mj _ _ _) fun _=>AA _
 |_=>exact h
theorem NM_ (x0:_)(x1:_)(x2:_):Loc (kUn x0 x1 x2):=by
 unfold kUn
 repeat' (first|exact AA _|exact Az|exact AP _|exact Xy_ _ _|exact Mj _ _ _|exact AeC_ _|apply Ax|apply AI|apply AT|apply AG|apply AO|apply AN|apply AS|apply AX|apply AV|apply AM|intro _|split)
theorem Iz_ (x0:_)(x1:_):Loc (strOf x0 x1):=by
 unfold strOf
 repeat' (first|exact AA _|exact Az|exact AP _|exact Fl _ _|apply Ax|apply AI|apply AT|apply AG|apply AO|apply AN|apply AS|apply AX|apply AV|apply AM|intro _|split)
theorem Oc_ (x0:_)(x1:_)(x2:_)(x3:_)(x4:_):Loc (HK x0 x1 x2 x3 x4):=by
 unfold HK
 repeat' (first|exact AA _|exact Az|exact AP _|exact Iz_ _ _|exact Bx _ _|apply Ax|apply AI|apply AT|apply AG|apply AO|apply AN|apply AS|apply AX|apply AV|apply AM|intro _|split)
theorem AbX_ (x0:_)(x1:_)(x2:_)(x3:_)(x4:_):Loc (EZ x0 x1 x2 x3 x4):=by
 unfold EZ
 repeat' (first|exact AA _|exact Az|exact AP _|exact Ja _|exact Bx _ _|apply Ax|apply AI|apply AT|apply AG|apply AO|apply AN|apply AS|apply AX|apply AV|apply AM|intro _|split)
theorem RS (x0:_)(x1:_)(x2:_)(x3:_):Loc (D2 x0 x1 x2 x3):=by
 unfold D2
 repeat' (first|exact AA _|exact Az|exact AP _|exact AbX_ _ _ _ _ _|exact Oc_ _ _ _ _ _|exact Ja _|apply Ax|apply AI|apply AT|apply AG|apply AO|apply AN|apply AS|apply AX|apply AV|apply AM|intro _|split)
theorem DA_ (x0:_)(x1:_):Loc (rowN x0 x1):=by
 unfold rowN
 repeat' (first|exact AA _|exact Az|exact AP _|exact H4 _ _ _|exact ES _|exact Cq _ _|apply Ax|apply AI|apply AT|apply AG|apply AO|apply AN|apply AS|apply AX|apply AV|apply AM|intro _|split)
theorem ZQ_ (l:List UInt8):Loc (E6 l):=by
 unfold E6
 rw[LU]
 exact AO _ fun n=>DA_ _ _
theorem NJ_ (x0:_)(x1:_)(x2:_)(x3:_):Loc (FO x0 x1 x2 x3):=by
 unfold FO
 repeat' (first|exact AA _|exact Az|exact AP _|exact ZQ_ _|exact RS _ _ _ _|exact Bx _ _|apply Ax|apply AI|apply AT|apply AG|apply AO|apply AN|apply AS|apply AX|apply AV|apply AM|intro _|split)
theorem Jo_ (x0:_)(x1:_)(x2:_)(x3:_)(x4:_)(x5:_):Loc (Fe x0 x1 x2 x3 x4 x5):=by
 unfold Fe
 repeat' (first|exact AA _|exact Az|exact AP _|exact RS _ _ _ _|exact Bx _ _|exact Fl _ _|exact CY _|apply Ax|apply AI|apply AT|apply AG|apply AO|apply AN|apply AS|apply AX|apply AV|apply AM|intro _|split)
theorem JO_ (x0:_)(x1:_)(x2:_)(x3:_):Loc (BP x0 x1 x2 x3):=by
 unfold BP
 repeat' (first|exact AA _|exact Az|exact AP _|exact Jo_ _ _ _ _ _ _|exact NJ_ _ _ _ _|exact RS _ _ _ _|apply Ax|apply AI|apply AT|apply AG|apply AO|apply AN|apply AS|apply AX|apply AV|apply AM|intro _|split)
theorem ZU_ (x0:_)(x1:_):Loc (GC x0 x1):=by
 unfold GC
 repeat' (first|exact AA _|exact Az|exact AP _|apply Ax|apply AI|apply AT|apply AG|apply AO|apply AN|apply AS|apply AX|apply AV|apply AM|intro _|split)
theorem Ly_ (x0:_)(x1:_)(x2:_):Loc (Fd x0 x1 x2):=by
 unfold Fd
 repeat' (first|exact AA _|exact Az|exact AP _|exact ZU_ _ _|exact Bx _ _|apply Ax|apply AI|apply AT|apply AG|apply AO|apply AN|apply AS|apply AX|apply AV|apply AM|intro _|split)
theorem XW_ (x0:_)(x1:_)(x2:_):Loc (FE x0 x1 x2):=by
 unfold FE
 repeat' (first|exact AA _|exact Az|exact AP _|exact Bx _ _|apply Ax|apply AI|apply AT|apply AG|apply AO|apply AN|apply AS|apply AX|apply AV|apply AM|intro _|split)
theorem JQ_ (x0:_)(x1:_)(x2:_)(x3:_):Loc (mkSl x0 x1 x2 x3):=by
 unfold mkSl
 repeat' (first|exact AA _|exact Az|exact AP _|exact Bx _ _|exact ES _|apply Ax|apply AI|apply AT|apply AG|apply AO|apply AN|apply AS|apply AX|apply AV|apply AM|intro _|split)
theorem AgD_ (x0:_)(x1:_)(x2:_)(x3:_):Loc (EQ x0 x1 x2 x3):=by
 unfold EQ
 repeat' (first|exact AA _|exact Az|exact AP _|exact JQ_ _ _ _ _|exact Pa _|exact Bx _ _|apply Ax|apply AI|apply AT|apply AG|apply AO|apply AN|apply AS|apply AX|apply AV|apply AM|intro _|split)
theorem NR (x0:_)(x1:_)(x2:_):Loc (C3 x0 x1 x2):=by
 unfold C3
 repeat' (first|exact AA _|exact Az|exact AP _|exact Bx _ _|apply Ax|apply AI|apply AT|apply AG|apply AO|apply AN|apply AS|apply AX|apply AV|apply AM|intro _|split)
theorem Ade_ (x0:_)(x1:_)(x2:_)(x3:_):Loc (kFld x0 x1 x2 x3):=by
 unfold kFld
 repeat' (first|exact AA _|exact Az|exact AP _|exact NR _ _ _|exact SX _|exact Hs _|exact Bx _ _|apply Ax|apply AI|apply AT|apply AG|apply AO|apply AN|apply AS|apply AX|apply AV|apply AM|intro _|split)
theorem Hi_ (x0:_):Loc (asCs x0):=by
 unfold asCs
 repeat' (first|exact AA _|exact Az|exact AP _|apply Ax|apply AI|apply AT|apply AG|apply AO|apply AN|apply AS|apply AX|apply AV|apply AM|intro _|split)
theorem KL_ (x0:_)(x1:_)(x2:_)(x3:_):Loc (EU x0 x1 x2 x3):=by
 unfold EU
 repeat' (first|exact AA _|exact Az|exact AP _|exact Hi_ _|exact NR _ _ _|exact SA _ _ _ _|exact Bx _ _|apply Ax|apply AI|apply AT|apply AG|apply AO|apply AN|apply AS|apply AX|apply AV|apply AM|intro _|split)
theorem AaH_ (x0:_)(x1:_)(x2:_)(x3:_):Loc (BD x0 x1 x2 x3):=by
 unfold BD
 repeat' (first|exact AA _|exact Az|exact AP _|exact Pa _|exact KF_ _ _ _ _|exact Bx _ _|apply Ax|apply AI|apply AT|apply AG|apply AO|apply AN|apply AS|apply AX|apply AV|apply AM|intro _|split)
theorem Rb_ (x0:_)(x1:_)(x2:_)(x3:_):Loc (idxV x0 x1 x2 x3):=by
 unfold idxV
 repeat' (first|exact AA _|exact Az|exact AP _|exact SA _ _ _ _|exact Bx _ _|apply Ax|apply AI|apply AT|apply AG|apply AO|apply AN|apply AS|apply AX|apply AV|apply AM|intro _|split)
theorem SW_ (x0:_)(x1:_)(x2:_)(x3:_):Loc (kIdx x0 x1 x2 x3):=by
 unfold kIdx
 repeat' (first|exact AA _|exact Az|exact AP _|exact Rb_ _ _ _ _|exact Pa _|exact Bx _ _|apply Ax|apply AI|apply AT|apply AG|apply AO|apply AN|apply AS|apply AX|apply AV|apply AM|intro _|split)
theorem OI_ (x0:_)(x1:_):Loc (kExt x0 x1):=by
 unfold kExt
 repeat' (first|exact AA _|exact Az|exact AP _|apply Ax|apply AI|apply AT|apply AG|apply AO|apply AN|apply AS|apply AX|apply AV|apply AM|intro _|split)
theorem Rn_ (x0:_)(x1:_)(x2:_):Loc (okV x0 x1 x2):=by
 unfold okV
 repeat' (first|exact AA _|exact Az|exact AP _|apply Ax|apply AI|apply AT|apply AG|apply AO|apply AN|apply AS|apply AX|apply AV|apply AM|intro _|split)
theorem Abq_ (x0:_)(x1:_)(x2:_):Loc (EX x0 x1 x2):=by
 unfold EX
 repeat' (first|exact AA _|exact Az|exact AP _|exact Bx _ _|exact Hq _|apply Ax|apply AI|apply AT|apply AG|apply AO|apply AN|apply AS|apply AX|apply AV|apply AM|intro _|split)
theorem IR_ (x0:_)(x1:_)(x2:_):Loc (sitN x0 x1 x2):=by
 unfold sitN
 repeat' (first|exact AA _|exact Az|exact AP _|exact Cq _ _|apply Ax|apply AI|apply AT|apply AG|apply AO|apply AN|apply AS|apply AX|apply AV|apply AM|intro _|split)
theorem VC_ (x0:_):Loc (ER x0):=by
 unfold ER
 repeat' (first|exact AA _|exact Az|exact AP _|exact IR_ _ _ _|exact CY _|apply Ax|apply AI|apply AT|apply AG|apply AO|apply AN|apply AS|apply AX|apply AV|apply AM|intro _|split)
theorem Adp_ (x0:_)(x1:_)(x2:_)(x3:_):Loc (Fg x0 x1 x2 x3):=by
 unfold Fg
 repeat' (first|exact AA _|exact Az|exact AP _|exact Rn_ _ _ _|exact Xa _|exact Bx _ _|apply Ax|apply AI|apply AT|apply AG|apply AO|apply AN|apply AS|apply AX|apply AV|apply AM|intro _|split)
theorem AcM_:Loc (G7):=by
 unfold G7
 repeat' (first|exact AA _|exact Az|exact AP _|exact KS _|exact I2|apply Ax|apply AI|apply AT|apply AG|apply AO|apply AN|apply AS|apply AX|apply AV|apply AM|intro _|split)
theorem AbN_ (x0:_)(x1:_):Loc (GF x0 x1):=by
 unfold GF
 repeat' (first|exact AA _|exact Az|exact AP _|exact KS _|exact I2|apply Ax|apply AI|apply AT|apply AG|apply AO|apply AN|apply AS|apply AX|apply AV|apply AM|intro _|split)
end Go.Proofs.YtndednnianphoaaGreatDoor.Am
