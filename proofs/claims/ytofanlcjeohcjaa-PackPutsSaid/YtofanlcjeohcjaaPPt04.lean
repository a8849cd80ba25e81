import Derived.Test.YtofanlcjeohcjaaPPt03
namespace Go.Proofs.Ytofanlcjeohcjaa.Am
structure NoPan {α:Type}(m:M α):Prop where
 no: ∀s c s',m s= .pan c s'→False
theorem AG {α:Type}(a:α):NoPan (M.pure a):=⟨fun s c s' h=>by cases h⟩
theorem AI {α:Type}:NoPan (M.fail:M α):=⟨fun s c s' h=>by cases h⟩
theorem AW {α:Type}(x:Option α):NoPan (M.ofOpt x):=⟨fun s c s' h=>by cases x<;>cases h⟩
theorem AB {α β:Type}{m:M α}{f:α→M β}(h:NoPan m)(k: ∀a,NoPan (f a)):NoPan (M.bind m f):=⟨fun s c s' e=>by
 rcases Q8 e with e|⟨a,s1,_,e⟩
 ·exact h.no _ _ _ e
 ·exact(k a).no _ _ _ e⟩
theorem AM {α:Type}(b:Bool){m:M α}(h:NoPan m):NoPan (M.chk b m):=⟨fun s c s' e=>by
 cases b with
 |false=>cases e
 |true=>exact h.no _ _ _ e⟩
theorem A3 {α:Type}(b:Bool){m n:M α}(h:NoPan m)(k:NoPan n):NoPan (M.if b m n):=by cases b<;>assumption
theorem AK {α β:Type}(x:Option α){f:α→M β}(k: ∀a,NoPan (f a)):NoPan (M.on x f):=by
 cases x with
 |none=>exact AI
 |some a=>exact k a
theorem AS {α:Type}(n:Nat){f:Nat→M α}(k: ∀a,NoPan (f a)):NoPan (fN n f):=by rw[AY];exact k _
theorem A4 {α:Type}(n:Int){f:Int→M α}(k: ∀a,NoPan (f a)):NoPan (fI n f):=by rw[Ea];exact k _
theorem AU {α:Type}(n:Addr){f:Addr→M α}(k: ∀a,NoPan (f a)):NoPan (fA n f):=by rw[CU];exact k _
theorem A1 {α:Type}(v:Value){f:IntKind→Int→M α}{d:M α}(h: ∀k n,NoPan (f k n))(k:NoPan d):NoPan (CI v f d):=by
 cases v<;>first|exact h _ _|exact k
theorem A2 {α:Type}(b:Bool){m n:M α}(h:NoPan m)(k:NoPan n):NoPan (Bool.rec (motive:=fun _=>M α) m n b):=by cases b<;>assumption
theorem A0 {α β:Type}(x:Option α){m:M β}{f:α→M β}(h:NoPan m)(k: ∀a,NoPan (f a)):NoPan (Option.rec (motive:=fun _=>M β) m (fun a=>f a) x):=by
 cases x with
 |none=>exact h
 |some a=>exact k a
theorem Dn (loc:Nat):NoPan (rdC loc):= .mk fun s c s' h=>by
 obtain⟨mem,next,lim,rd,wr,cx⟩:=s
 unfold rdC at h
 simp only at h
 cases hb:Nat.blt loc next<;>rw[hb]at h
 ·cases h
 ·cases e:T.get mem loc<;>rw[e]at h<;>cases h
theorem CL (loc:Nat)(x:Cell):NoPan (wrC loc x):= .mk fun s c s' h=>by
 obtain⟨mem,next,lim,rd,wr,cx⟩:=s
 unfold wrC at h
 obtain⟨v,l,r,e⟩:=T.set_N mem loc x
 simp only[e]at h
 cases hb:Nat.blt loc next<;>rw[hb]at h<;>cases h
theorem Do_ (loc:Nat):NoPan (delC loc):= .mk fun s c s' h=>by
 obtain⟨mem,next,lim,rd,wr,cx⟩:=s
 unfold delC at h
 simp only at h
 cases hb:Nat.blt loc next<;>rw[hb]at h<;>cases h
theorem Hv (vs:List Value):NoPan (newL vs):= .mk fun s c s' h=>by
 obtain⟨mem,next,lim,rd,wr,cx⟩:=s
 have h0:newL vs ⟨mem,next,lim,rd,wr,cx⟩=fN next fun b=>fN (Nat.succ (Nat.add b vs.length)) fun n=>R.some b (St.mk (layL b vs b mem) n lim rd wr cx):=rfl
 rw[h0,AY,AY]at h
 cases h
theorem Lk (o:AObj):NoPan (newO o):= .mk fun s c s' h=>by
 obtain⟨mem,next,lim,rd,wr,cx⟩:=s
 have h0:newO o ⟨mem,next,lim,rd,wr,cx⟩=fN next fun b=>fN (Nat.succ b) fun n=>R.some b (St.mk (T.set mem b (.O o)) n lim rd wr cx):=rfl
 rw[h0,AY,AY]at h
 cases h
theorem No_:NoPan getCx:= .mk fun s c s' h=>by
 obtain⟨mem,next,lim,rd,wr,cx⟩:=s
 cases h
theorem JX_ (x:Ctx):NoPan (putCx x):= .mk fun s c s' h=>by
 obtain⟨mem,next,lim,rd,wr,cx⟩:=s
 cases h
theorem XC (a:Addr):NoPan (rdV a):=by
 obtain⟨b,o,s⟩:=a
 cases s with
 |some x=>exact AI
 |none=>exact AB (Dn _) fun c=>AW _
theorem GX_ (a:Addr)(v:Value):NoPan (wrV a v):=by
 obtain⟨b,o,s⟩:=a
 cases s with
 |some x=>exact AI
 |none=>exact AB (Dn _) fun c=>AM _ (CL _ _)
theorem Ep: ∀(n:Nat) (a:Addr),NoPan (rdL n a)
 |0,_=>AG _
 |n+1,a=>by
  have h0:rdL (n+1) a=fA a fun a=>M.bind (rdV a) fun v=>M.bind (rdL n ⟨a.block,Nat.succ a.off,a.spot⟩) fun l=>M.pure (v::l):=rfl
  rw[h0]
  exact AU _ fun a=>AB (XC a) fun v=>AB (Ep n _) fun l=>AG _
theorem Ix: ∀(vs:List Value) (a:Addr),NoPan (wrL vs a)
 |[],_=>AG _
 |v::vs,a=>by
  have h0:wrL (v::vs) a=fA a fun a=>M.bind (wrV a v) fun _=>wrL vs ⟨a.block,Nat.succ a.off,a.spot⟩:=rfl
  rw[h0]
  exact AU _ fun a=>AB (GX_ a v) fun v=>Ix vs _
theorem NR: ∀(n l:Nat),NoPan (CO n l)
 |0,_=>AG _
 |n+1,l=>by
  have h0:CO (n+1) l=M.bind (delC l) fun _=>CO n (l+1):=rfl
  rw[h0]
  exact AB (Do_ l) fun _=>NR n _
theorem BJ (x0:_)(x1:_):NoPan (ti x0 x1):=by
 unfold ti
 repeat' (first|exact AG _|exact AI|exact AW _|apply AB|apply AM|apply A3|apply AK|apply AS|apply A4|apply AU|apply A1|apply A2|apply A0|intro _|split)
theorem I9 (x0:_):NoPan (pV x0):=by
 unfold pV
 repeat' (first|exact AG _|exact AI|exact AW _|apply AB|apply AM|apply A3|apply AK|apply AS|apply A4|apply AU|apply A1|apply A2|apply A0|intro _|split)
theorem GO_ (x0:_)(x1:_)(x2:_)(x3:_)(x4:_):NoPan (FA x0 x1 x2 x3 x4):=by
 unfold FA
 repeat' (first|exact AG _|exact AI|exact AW _|exact BJ _ _|apply AB|apply AM|apply A3|apply AK|apply AS|apply A4|apply AU|apply A1|apply A2|apply A0|intro _|split)
theorem PP_ (x0:_)(x1:_):NoPan (GE x0 x1):=by
 unfold GE
 repeat' (first|exact AG _|exact AI|exact AW _|apply AB|apply AM|apply A3|apply AK|apply AS|apply A4|apply AU|apply A1|apply A2|apply A0|intro _|split)
theorem EU_ (x0:_)(x1:_)(x2:_):NoPan (GT x0 x1 x2):=by
 unfold GT
 repeat' (first|exact AG _|exact AI|exact AW _|exact PP_ _ _|apply AB|apply AM|apply A3|apply AK|apply AS|apply A4|apply AU|apply A1|apply A2|apply A0|intro _|split)
theorem Bu_ (x0:_)(x1:_)(x2:_)(x3:_)(x4:_)(x5:_)(x6:_):NoPan (Bx x0 x1 x2 x3 x4 x5 x6):=by
 unfold Bx
 repeat' (first|exact AG _|exact AI|exact AW _|exact EU_ _ _ _|exact GO_ _ _ _ _ _|exact I9 _|apply AB|apply AM|apply A3|apply AK|apply AS|apply A4|apply AU|apply A1|apply A2|apply A0|intro _|split)
theorem ST_ (x0:_):NoPan (lenOf x0):=by
 unfold lenOf
 repeat' (first|exact AG _|exact AI|exact AW _|apply AB|apply AM|apply A3|apply AK|apply AS|apply A4|apply AU|apply A1|apply A2|apply A0|intro _|split)
theorem TU (x0:_)(x1:_)(x2:_):NoPan (D2 x0 x1 x2):=by
 unfold D2
 repeat' (first|exact AG _|exact AI|exact AW _|exact BJ _ _|exact Ep _ _|exact XC _|apply AB|apply AM|apply A3|apply AK|apply AS|apply A4|apply AU|apply A1|apply A2|apply A0|intro _|split)
theorem Pf_ (x0:_)(x1:_)(x2:_)(x3:_):NoPan (Ht x0 x1 x2 x3):=by
 unfold Ht
 repeat' (first|exact AG _|exact AI|exact AW _|exact BJ _ _|exact Ix _ _|apply AB|apply AM|apply A3|apply AK|apply AS|apply A4|apply AU|apply A1|apply A2|apply A0|intro _|split)
theorem He (x0:_):NoPan (asA x0):=by
 unfold asA
 repeat' (first|exact AG _|exact AI|exact AW _|apply AB|apply AM|apply A3|apply AK|apply AS|apply A4|apply AU|apply A1|apply A2|apply A0|intro _|split)
theorem K1 (x0:_)(x1:_)(x2:_):NoPan (bnd x0 x1 x2):=by
 unfold bnd
 repeat' (first|exact AG _|exact AI|exact AW _|apply AB|apply AM|apply A3|apply AK|apply AS|apply A4|apply AU|apply A1|apply A2|apply A0|intro _|split)
theorem O9 (x0:_):NoPan (ptrA x0):=by
 unfold ptrA
 repeat' (first|exact AG _|exact AI|exact AW _|apply AB|apply AM|apply A3|apply AK|apply AS|apply A4|apply AU|apply A1|apply A2|apply A0|intro _|split)
theorem H8 (x0:_)(x1:_)(x2:_):NoPan (pSl x0 x1 x2):=by
 unfold pSl
 repeat' (first|exact AG _|exact AI|exact AW _|apply AB|apply AM|apply A3|apply AK|apply AS|apply A4|apply AU|apply A1|apply A2|apply A0|intro _|split)
theorem LP (x0:_):NoPan (pN x0):=by
 unfold pN
 repeat' (first|exact AG _|exact AI|exact AW _|apply AB|apply AM|apply A3|apply AK|apply AS|apply A4|apply AU|apply A1|apply A2|apply A0|intro _|split)
theorem KK_ (x0:_)(x1:_)(x2:_)(x3:_)(x4:_):NoPan (FE x0 x1 x2 x3 x4):=by
 unfold FE
 repeat' (first|exact AG _|exact AI|exact AW _|exact H8 _ _ _|exact K1 _ _ _|apply AB|apply AM|apply A3|apply AK|apply AS|apply A4|apply AU|apply A1|apply A2|apply A0|intro _|split)
theorem IA_ (x0:_)(x1:_)(x2:_)(x3:_)(x4:_)(x5:_):NoPan (slSl x0 x1 x2 x3 x4 x5):=by
 unfold slSl
 repeat' (first|exact AG _|exact AI|exact AW _|exact H8 _ _ _|exact K1 _ _ _|apply AB|apply AM|apply A3|apply AK|apply AS|apply A4|apply AU|apply A1|apply A2|apply A0|intro _|split)
theorem Nz_ (x0:_)(x1:_)(x2:_):NoPan (GR x0 x1 x2):=by
 unfold GR
 repeat' (first|exact AG _|exact AI|exact AW _|exact K1 _ _ _|apply AB|apply AM|apply A3|apply AK|apply AS|apply A4|apply AU|apply A1|apply A2|apply A0|intro _|split)
theorem UV_ (x0:_)(x1:_)(x2:_)(x3:_)(x4:_):NoPan (BW x0 x1 x2 x3 x4):=by
 unfold BW
 repeat' (first|exact AG _|exact AI|exact AW _|exact Nz_ _ _ _|exact IA_ _ _ _ _ _ _|exact KK_ _ _ _ _ _|exact K1 _ _ _|exact BJ _ _|apply AB|apply AM|apply A3|apply AK|apply AS|apply A4|apply AU|apply A1|apply A2|apply A0|intro _|split)
theorem SF (x0:_)(x1:_)(x2:_):NoPan (srcL x0 x1 x2):=by
 unfold srcL
 repeat' (first|exact AG _|exact AI|exact AW _|exact Ep _ _|apply AB|apply AM|apply A3|apply AK|apply AS|apply A4|apply AU|apply A1|apply A2|apply A0|intro _|split)
theorem Fz_ (x0:_)(x1:_)(x2:_):NoPan (appN x0 x1 x2):=by
 unfold appN
 repeat' (first|exact AG _|exact AI|exact AW _|apply AB|apply AM|apply A3|apply AK|apply AS|apply A4|apply AU|apply A1|apply A2|apply A0|intro _|split)
theorem KD_ (x0:_)(x1:_)(x2:_)(x3:_):NoPan (appL x0 x1 x2 x3):=by
 unfold appL
 repeat' (first|exact AG _|exact AI|exact AW _|exact SF _ _ _|apply AB|apply AM|apply A3|apply AK|apply AS|apply A4|apply AU|apply A1|apply A2|apply A0|intro _|split)
theorem Ct_ (x0:_)(x1:_)(x2:_):NoPan (oldL x0 x1 x2):=by
 unfold oldL
 repeat' (first|exact AG _|exact AI|exact AW _|exact Ep _ _|apply AB|apply AM|apply A3|apply AK|apply AS|apply A4|apply AU|apply A1|apply A2|apply A0|intro _|split)
theorem RZ_ (x0:_)(x1:_)(x2:_):NoPan (E6 x0 x1 x2):=by
 unfold E6
 repeat' (first|exact AG _|exact AI|exact AW _|exact NR _ _|apply AB|apply AM|apply A3|apply AK|apply AS|apply A4|apply AU|apply A1|apply A2|apply A0|intro _|split)
theorem FL_ (x0:_)(x1:_)(x2:_)(x3:_):NoPan (Df x0 x1 x2 x3):=by
 unfold Df
 repeat' (first|exact AG _|exact AI|exact AW _|exact RZ_ _ _ _|exact CL _ _|exact Dn _|apply AB|apply AM|apply A3|apply AK|apply AS|apply A4|apply AU|apply A1|apply A2|apply A0|intro _|split)
theorem HY_ (x0:_)(x1:_)(x2:_)(x3:_)(x4:_)(x5:_)(x6:_)(x7:_):NoPan (grow x0 x1 x2 x3 x4 x5 x6 x7):=by
 unfold grow
 repeat' (first|exact AG _|exact AI|exact AW _|exact FL_ _ _ _ _|exact Ct_ _ _ _|exact H8 _ _ _|exact Hv _|exact CL _ _|apply AB|apply AM|apply A3|apply AK|apply AS|apply A4|apply AU|apply A1|apply A2|apply A0|intro _|split)
theorem Sj_ (x0:_)(x1:_)(x2:_)(x3:_)(x4:_)(x5:_):NoPan (Fu x0 x1 x2 x3 x4 x5):=by
 unfold Fu
 repeat' (first|exact AG _|exact AI|exact AW _|exact H8 _ _ _|exact Ix _ _|apply AB|apply AM|apply A3|apply AK|apply AS|apply A4|apply AU|apply A1|apply A2|apply A0|intro _|split)
theorem IE_ (x0:_)(x1:_)(x2:_)(x3:_)(x4:_):NoPan (CS x0 x1 x2 x3 x4):=by
 unfold CS
 repeat' (first|exact AG _|exact AI|exact AW _|exact Sj_ _ _ _ _ _ _|exact HY_ _ _ _ _ _ _ _ _|exact KD_ _ _ _ _|exact Fz_ _ _ _|exact BJ _ _|apply AB|apply AM|apply A3|apply AK|apply AS|apply A4|apply AU|apply A1|apply A2|apply A0|intro _|split)
theorem Gv_ (x0:_)(x1:_)(x2:_):NoPan (Cn x0 x1 x2):=by
 unfold Cn
 repeat' (first|exact AG _|exact AI|exact AW _|exact BJ _ _|apply AB|apply AM|apply A3|apply AK|apply AS|apply A4|apply AU|apply A1|apply A2|apply A0|intro _|split)
theorem Bl_ (x0:_)(x1:_)(x2:_)(x3:_):NoPan (BX x0 x1 x2 x3):=by
 unfold BX
 repeat' (first|exact AG _|exact AI|exact AW _|exact BJ _ _|exact Hv _|exact CL _ _|apply AB|apply AM|apply A3|apply AK|apply AS|apply A4|apply AU|apply A1|apply A2|apply A0|intro _|split)
theorem NK (x0:_)(x1:_)(x2:_)(x3:_):NoPan (DC x0 x1 x2 x3):=by
 unfold DC
 repeat' (first|exact AG _|exact AI|exact AW _|exact BJ _ _|apply AB|apply AM|apply A3|apply AK|apply AS|apply A4|apply AU|apply A1|apply A2|apply A0|intro _|split)
theorem UA_ (x0:_)(x1:_)(x2:_)(x3:_)(x4:_):NoPan (Fk x0 x1 x2 x3 x4):=by
 unfold Fk
 repeat' (first|exact AG _|exact AI|exact AW _|exact SF _ _ _|exact LP _|exact ST_ _|exact BJ _ _|exact Ix _ _|apply AB|apply AM|apply A3|apply AK|apply AS|apply A4|apply AU|apply A1|apply A2|apply A0|intro _|split)
theorem GW (x0:_):NoPan (CM x0):=by
 unfold CM
 repeat' (first|exact AG _|exact AI|exact AW _|exact Dn _|apply AB|apply AM|apply A3|apply AK|apply AS|apply A4|apply AU|apply A1|apply A2|apply A0|intro _|split)
theorem Cf_ (x0:_):NoPan (Hw x0):=by
 unfold Hw
 repeat' (first|exact AG _|exact AI|exact AW _|exact GW _|exact LP _|apply AB|apply AM|apply A3|apply AK|apply AS|apply A4|apply AU|apply A1|apply A2|apply A0|intro _|split)
theorem QD_ (x0:_)(x1:_)(x2:_):NoPan (aLen x0 x1 x2):=by
 unfold aLen
 repeat' (first|exact AG _|exact AI|exact AW _|exact Cf_ _|exact LP _|exact BJ _ _|apply AB|apply AM|apply A3|apply AK|apply AS|apply A4|apply AU|apply A1|apply A2|apply A0|intro _|split)
theorem GW_ (x0:_)(x1:_)(x2:_):NoPan (aCap x0 x1 x2):=by
 unfold aCap
 repeat' (first|exact AG _|exact AI|exact AW _|exact LP _|exact BJ _ _|apply AB|apply AM|apply A3|apply AK|apply AS|apply A4|apply AU|apply A1|apply A2|apply A0|intro _|split)
theorem Ch_ (x0:_)(x1:_)(x2:_):NoPan (FU x0 x1 x2):=by
 unfold FU
 repeat' (first|exact AG _|exact AI|exact AW _|exact BJ _ _|exact Ix _ _|apply AB|apply AM|apply A3|apply AK|apply AS|apply A4|apply AU|apply A1|apply A2|apply A0|intro _|split)
theorem V7 (x0:_):NoPan (zeroV x0):=by
 unfold zeroV
 repeat' (first|exact AG _|exact AI|exact AW _|apply AB|apply AM|apply A3|apply AK|apply AS|apply A4|apply AU|apply A1|apply A2|apply A0|intro _|split)
theorem Hy (E:_)(e:_)(t:_)(k:_)(es:_):NoPan (Dh E e t k es):=AM _ (AK _ fun _=>AG _)
theorem NA (x0:_)(x1:_)(x2:_):NoPan (Er x0 x1 x2):=by
 unfold Er
 repeat' (first|exact AG _|exact AI|exact AW _|apply AB|apply AM|apply A3|apply AK|apply AS|apply A4|apply AU|apply A1|apply A2|apply A0|intro _|split)
theorem Pc (x0:_)(x1:_):NoPan (zeroOf x0 x1):=by
 unfold zeroOf
 repeat' (first|exact AG _|exact AI|exact AW _|exact V7 _|exact BJ _ _|apply AB|apply AM|apply A3|apply AK|apply AS|apply A4|apply AU|apply A1|apply A2|apply A0|intro _|split)
theorem FA_ (E:_)(a:_)(b:_)(k:_)(c:_):NoPan (Ra E a b k c):=AB (Hy _ _ _ _ _) fun r=>by
 cases r with
 |none=>exact AB (Pc _ _) fun _=>NA _ _ _
 |some j=>exact AI
theorem MQ_ (E:_)(a:_)(b:_)(k:_)(c:_)(es:_):NoPan (M5 E a b k c es):=AB (Hy _ _ _ _ _) fun r=>by
 cases r with
 |none=>exact AB (Pc _ _) fun _=>NA _ _ _
 |some j=>exact AK _ fun _=>NA _ _ _
theorem HP (x0:_)(x1:_):NoPan (mapT x0 x1):=by
 unfold mapT
 repeat' (first|exact AG _|exact AI|exact AW _|exact BJ _ _|apply AB|apply AM|apply A3|apply AK|apply AS|apply A4|apply AU|apply A1|apply A2|apply A0|intro _|split)
theorem ES_ (E:_)(t:_)(c:_)(x:_)(k:_):NoPan (Ib E t c x k):=AB (HP _ _) fun ke=>by
 cases x with
 |map m=>
  cases m with
  |none=>exact FA_ _ _ _ _ _
  |some l=>exact AB (GW _) fun p=>MQ_ _ _ _ _ _ _
 |_=>exact AI
theorem AR_ (E:_)(t:_)(k:_)(x:_)(l:_)(p:_):NoPan (putE E t k x l p):=AB (Hy _ _ _ _ _) fun r=>by
 cases r with
 |none=>exact CL _ _
 |some j=>exact AK _ fun _=>AM _ (CL _ _)
theorem Xq (E:_)(t:_)(m:_)(k:_)(x:_):NoPan (Fp E t m k x):=AB (HP _ _) fun ke=>by
 cases m with
 |map m=>
  cases m with
  |none=>exact AI
  |some l=>exact AB (GW _) fun p=>AB (AR_ _ _ _ _ _ _) fun _=>AG _
 |_=>exact AI
theorem CB_ (E:_)(a:_)(b:_)(k:_)(l:_)(p:_):NoPan (entE E a b k l p):=AB (Hy _ _ _ _ _) fun r=>by
 cases r with
 |none=>exact AB (Pc _ _) fun _=>AB (CL _ _) fun _=>AG _
 |some j=>exact AK _ fun _=>AM _ (AB (CL _ _) fun _=>AG _)
theorem EG_ (E:_)(t:_)(m:_)(k:_):NoPan (IS E t m k):=AB (HP _ _) fun ke=>by
 cases m with
 |map m=>
  cases m with
  |none=>exact AI
  |some l=>exact AB (GW _) fun p=>CB_ _ _ _ _ _ _
 |_=>exact AI
theorem Sz_ (x0:_)(x1:_)(x2:_):NoPan (ER x0 x1 x2):=by
 unfold ER
 repeat' (first|exact AG _|exact AI|exact AW _|exact GW _|exact CL _ _|apply AB|apply AM|apply A3|apply AK|apply AS|apply A4|apply AU|apply A1|apply A2|apply A0|intro _|split)
theorem Ye:NoPan (D1):=by
 unfold D1
 repeat' (first|exact AG _|exact AI|exact AW _|exact Lk _|apply AB|apply AM|apply A3|apply AK|apply AS|apply A4|apply AU|apply A1|apply A2|apply A0|intro _|split)
theorem Cx_ (x0:_)(x1:_)(x2:_):NoPan (E8 x0 x1 x2):=by
 unfold E8
 repeat' (first|exact AG _|exact AI|exact AW _|exact Ye|exact HP _ _|apply AB|apply AM|apply A3|apply AK|apply AS|apply A4|apply AU|apply A1|apply A2|apply A0|intro _|split)
theorem Qv_ (E:_)(t:_)(m:_)(k:_):NoPan (kDel E t m k):=AB (HP _ _) fun ke=>by
 cases m with
 |map m=>
  cases m with
  |none=>exact AB (Hy _ _ _ _ _) fun _=>AG _
  |some l=>exact AB (GW _) fun p=>AB (Hy _ _ _ _ _) fun r=>by cases r<;>exact AB (CL _ _) fun _=>AG _
 |_=>exact AI
theorem IZ_ (x0:_)(x1:_)(x2:_)(x3:_):NoPan (A6 x0 x1 x2 x3):=by
 unfold A6
 repeat' (first|exact AG _|exact AI|exact AW _|exact Qv_ _ _ _ _|exact Ch_ _ _ _|exact GW_ _ _ _|exact QD_ _ _ _|exact UA_ _ _ _ _ _|exact IE_ _ _ _ _ _|exact I9 _|apply AB|apply AM|apply A3|apply AK|apply AS|apply A4|apply AU|apply A1|apply A2|apply A0|intro _|split)
theorem IR_ (x0:_)(x1:_)(x2:_)(x3:_):NoPan (idxN x0 x1 x2 x3):=by
 unfold idxN
 repeat' (first|exact AG _|exact AI|exact AW _|exact O9 _|exact BJ _ _|apply AB|apply AM|apply A3|apply AK|apply AS|apply A4|apply AU|apply A1|apply A2|apply A0|intro _|split)
theorem N2 (x0:_):NoPan (asN x0):=by
 unfold asN
 repeat' (first|exact AG _|exact AI|exact AW _|apply AB|apply AM|apply A3|apply AK|apply AS|apply A4|apply AU|apply A1|apply A2|apply A0|intro _|split)
theorem HQ_ (x0:_)(x1:_)(x2:_):NoPan (Cw x0 x1 x2):=by
 unfold Cw
 repeat' (first|exact AG _|exact AI|exact AW _|apply AB|apply AM|apply A3|apply AK|apply AS|apply A4|apply AU|apply A1|apply A2|apply A0|intro _|split)
theorem To (x0:_):NoPan (ptrN x0):=by
 unfold ptrN
 repeat' (first|exact AG _|exact AI|exact AW _|apply AB|apply AM|apply A3|apply AK|apply AS|apply A4|apply AU|apply A1|apply A2|apply A0|intro _|split)
theorem MG_ (x0:_)(x1:_):NoPan (BH x0 x1):=by
 unfold BH
 repeat' (first|exact AG _|exact AI|exact AW _|exact To _|exact BJ _ _|exact Hv _|apply AB|apply AM|apply A3|apply AK|apply AS|apply A4|apply AU|apply A1|apply A2|apply A0|intro _|split)
theorem KV_ (x0:_):NoPan (kBox x0):=by
 unfold kBox
 repeat' (first|exact AG _|exact AI|exact AW _|exact To _|exact Hv _|apply AB|apply AM|apply A3|apply AK|apply AS|apply A4|apply AU|apply A1|apply A2|apply A0|intro _|split)
theorem VC_ (x0:_)(x1:_)(x2:_):NoPan (A5 x0 x1 x2):=by
 unfold A5
 repeat' (first|exact AG _|exact AI|exact AW _|exact He _|exact TU _ _ _|apply AB|apply AM|apply A3|apply AK|apply AS|apply A4|apply AU|apply A1|apply A2|apply A0|intro _|split)
theorem HO_ (x0:_)(x1:_)(x2:_)(x3:_):NoPan (Bo x0 x1 x2 x3):=by
 unfold Bo
 repeat' (first|exact AG _|exact AI|exact AW _|exact He _|exact Pf_ _ _ _ _|apply AB|apply AM|apply A3|apply AK|apply AS|apply A4|apply AU|apply A1|apply A2|apply A0|intro _|split)
theorem Vf_ (x0:_):NoPan (kNil x0):=by
 unfold kNil
 repeat' (first|exact AG _|exact AI|exact AW _|apply AB|apply AM|apply A3|apply AK|apply AS|apply A4|apply AU|apply A1|apply A2|apply A0|intro _|split)
theorem Sg_ (b:Bool):NoPan (pB b):=⟨fun s c s' h=>by cases b<;>cases h⟩
theorem Lh (x0:_)(x1:_)(x2:_):NoPan (CP x0 x1 x2):=by
 unfold CP
 repeat' (first|exact AG _|exact AI|exact AW _|exact I9 _|apply AB|apply AM|apply A3|apply AK|apply AS|apply A4|apply AU|apply A1|apply A2|apply A0|intro _|split)
theorem RS_ (P:Program)(v:Value):NoPan (xorU P v):=by
 have h:=Lh P .xor v
 cases v with
 |int k n=>
  cases n with
  |negSucc m=>exact Lh P .xor (.int k (.negSucc m))
  |ofNat m=>
   show NoPan (Option.rec (motive:=fun _=>M Value) (CP P .xor (.int k (.ofNat m))) (fun x=>M.pure x) (notK k m))
   exact A0 _ (Lh _ _ _) fun _=>AG _
 |_=>exact h
theorem BS_ (x0:_)(x1:_)(x2:_):NoPan (kUn x0 x1 x2):=by
 unfold kUn
 repeat' (first|exact AG _|exact AI|exact AW _|exact RS_ _ _|exact Lh _ _ _|exact Sg_ _|apply AB|apply AM|apply A3|apply AK|apply AS|apply A4|apply AU|apply A1|apply A2|apply A0|intro _|split)
theorem Ub_ (x0:_)(x1:_):NoPan (strOf x0 x1):=by
 unfold strOf
 repeat' (first|exact AG _|exact AI|exact AW _|exact Ep _ _|apply AB|apply AM|apply A3|apply AK|apply AS|apply A4|apply AU|apply A1|apply A2|apply A0|intro _|split)
theorem Et_ (x0:_)(x1:_)(x2:_)(x3:_)(x4:_):NoPan (EX x0 x1 x2 x3 x4):=by
 unfold EX
 repeat' (first|exact AG _|exact AI|exact AW _|exact Ub_ _ _|exact BJ _ _|apply AB|apply AM|apply A3|apply AK|apply AS|apply A4|apply AU|apply A1|apply A2|apply A0|intro _|split)
theorem HF_ (x0:_)(x1:_)(x2:_)(x3:_)(x4:_):NoPan (Fb x0 x1 x2 x3 x4):=by
 unfold Fb
 repeat' (first|exact AG _|exact AI|exact AW _|exact I9 _|exact BJ _ _|apply AB|apply AM|apply A3|apply AK|apply AS|apply A4|apply AU|apply A1|apply A2|apply A0|intro _|split)
theorem NX (x0:_)(x1:_)(x2:_)(x3:_):NoPan (D0 x0 x1 x2 x3):=by
 unfold D0
 repeat' (first|exact AG _|exact AI|exact AW _|exact HF_ _ _ _ _ _|exact Et_ _ _ _ _ _|exact I9 _|apply AB|apply AM|apply A3|apply AK|apply AS|apply A4|apply AU|apply A1|apply A2|apply A0|intro _|split)
theorem MR_ (x0:_)(x1:_):NoPan (rowN x0 x1):=by
 unfold rowN
 repeat' (first|exact AG _|exact AI|exact AW _|exact H8 _ _ _|exact Hv _|exact CL _ _|apply AB|apply AM|apply A3|apply AK|apply AS|apply A4|apply AU|apply A1|apply A2|apply A0|intro _|split)
theorem CT_ (l:List UInt8):NoPan (EW l):=by
 unfold EW
 rw[JP]
 exact AS _ fun n=>MR_ _ _
theorem QT_ (x0:_)(x1:_)(x2:_)(x3:_):NoPan (Ha x0 x1 x2 x3):=by
 unfold Ha
 repeat' (first|exact AG _|exact AI|exact AW _|exact CT_ _|exact NX _ _ _ _|exact BJ _ _|apply AB|apply AM|apply A3|apply AK|apply AS|apply A4|apply AU|apply A1|apply A2|apply A0|intro _|split)
theorem GF_ (x0:_)(x1:_)(x2:_)(x3:_)(x4:_)(x5:_):NoPan (D6 x0 x1 x2 x3 x4 x5):=by
 unfold D6
 repeat' (first|exact AG _|exact AI|exact AW _|exact NX _ _ _ _|exact BJ _ _|exact Ep _ _|exact Dn _|apply AB|apply AM|apply A3|apply AK|apply AS|apply A4|apply AU|apply A1|apply A2|apply A0|intro _|split)
theorem AO_ (x0:_)(x1:_)(x2:_)(x3:_):NoPan (Bu x0 x1 x2 x3):=by
 unfold Bu
 repeat' (first|exact AG _|exact AI|exact AW _|exact GF_ _ _ _ _ _ _|exact QT_ _ _ _ _|exact NX _ _ _ _|apply AB|apply AM|apply A3|apply AK|apply AS|apply A4|apply AU|apply A1|apply A2|apply A0|intro _|split)
theorem Qp_ (x0:_)(x1:_):NoPan (G0 x0 x1):=by
 unfold G0
 repeat' (first|exact AG _|exact AI|exact AW _|apply AB|apply AM|apply A3|apply AK|apply AS|apply A4|apply AU|apply A1|apply A2|apply A0|intro _|split)
theorem JG_ (x0:_)(x1:_)(x2:_):NoPan (DY x0 x1 x2):=by
 unfold DY
 repeat' (first|exact AG _|exact AI|exact AW _|exact Qp_ _ _|exact BJ _ _|apply AB|apply AM|apply A3|apply AK|apply AS|apply A4|apply AU|apply A1|apply A2|apply A0|intro _|split)
theorem BN_ (x0:_)(x1:_)(x2:_):NoPan (E7 x0 x1 x2):=by
 unfold E7
 repeat' (first|exact AG _|exact AI|exact AW _|exact BJ _ _|apply AB|apply AM|apply A3|apply AK|apply AS|apply A4|apply AU|apply A1|apply A2|apply A0|intro _|split)
theorem Vh_ (x0:_)(x1:_)(x2:_)(x3:_):NoPan (mkSl x0 x1 x2 x3):=by
 unfold mkSl
 repeat' (first|exact AG _|exact AI|exact AW _|exact BJ _ _|exact Hv _|apply AB|apply AM|apply A3|apply AK|apply AS|apply A4|apply AU|apply A1|apply A2|apply A0|intro _|split)
theorem QW_ (x0:_)(x1:_)(x2:_)(x3:_):NoPan (DX x0 x1 x2 x3):=by
 unfold DX
 repeat' (first|exact AG _|exact AI|exact AW _|exact Vh_ _ _ _ _|exact N2 _|exact BJ _ _|apply AB|apply AM|apply A3|apply AK|apply AS|apply A4|apply AU|apply A1|apply A2|apply A0|intro _|split)
theorem MJ (x0:_)(x1:_)(x2:_):NoPan (Dk x0 x1 x2):=by
 unfold Dk
 repeat' (first|exact AG _|exact AI|exact AW _|exact BJ _ _|apply AB|apply AM|apply A3|apply AK|apply AS|apply A4|apply AU|apply A1|apply A2|apply A0|intro _|split)
theorem Pc_ (x0:_)(x1:_)(x2:_)(x3:_):NoPan (kFld x0 x1 x2 x3):=by
 unfold kFld
 repeat' (first|exact AG _|exact AI|exact AW _|exact MJ _ _ _|exact O9 _|exact He _|exact BJ _ _|apply AB|apply AM|apply A3|apply AK|apply AS|apply A4|apply AU|apply A1|apply A2|apply A0|intro _|split)
theorem WR (x0:_):NoPan (asCs x0):=by
 unfold asCs
 repeat' (first|exact AG _|exact AI|exact AW _|apply AB|apply AM|apply A3|apply AK|apply AS|apply A4|apply AU|apply A1|apply A2|apply A0|intro _|split)
theorem LV_ (x0:_)(x1:_)(x2:_)(x3:_):NoPan (Fh x0 x1 x2 x3):=by
 unfold Fh
 repeat' (first|exact AG _|exact AI|exact AW _|exact WR _|exact MJ _ _ _|exact NK _ _ _ _|exact BJ _ _|apply AB|apply AM|apply A3|apply AK|apply AS|apply A4|apply AU|apply A1|apply A2|apply A0|intro _|split)
theorem Nf_ (x0:_)(x1:_)(x2:_)(x3:_):NoPan (A9 x0 x1 x2 x3):=by
 unfold A9
 repeat' (first|exact AG _|exact AI|exact AW _|exact N2 _|exact IR_ _ _ _ _|exact BJ _ _|apply AB|apply AM|apply A3|apply AK|apply AS|apply A4|apply AU|apply A1|apply A2|apply A0|intro _|split)
theorem MB_ (x0:_)(x1:_)(x2:_)(x3:_):NoPan (idxV x0 x1 x2 x3):=by
 unfold idxV
 repeat' (first|exact AG _|exact AI|exact AW _|exact NK _ _ _ _|exact BJ _ _|apply AB|apply AM|apply A3|apply AK|apply AS|apply A4|apply AU|apply A1|apply A2|apply A0|intro _|split)
theorem EA_ (x0:_)(x1:_)(x2:_)(x3:_):NoPan (kIdx x0 x1 x2 x3):=by
 unfold kIdx
 repeat' (first|exact AG _|exact AI|exact AW _|exact MB_ _ _ _ _|exact N2 _|exact BJ _ _|apply AB|apply AM|apply A3|apply AK|apply AS|apply A4|apply AU|apply A1|apply A2|apply A0|intro _|split)
theorem MA_ (x0:_)(x1:_):NoPan (kExt x0 x1):=by
 unfold kExt
 repeat' (first|exact AG _|exact AI|exact AW _|apply AB|apply AM|apply A3|apply AK|apply AS|apply A4|apply AU|apply A1|apply A2|apply A0|intro _|split)
theorem LG_ (x0:_)(x1:_)(x2:_):NoPan (okV x0 x1 x2):=by
 unfold okV
 repeat' (first|exact AG _|exact AI|exact AW _|apply AB|apply AM|apply A3|apply AK|apply AS|apply A4|apply AU|apply A1|apply A2|apply A0|intro _|split)
theorem TO_ (x0:_)(x1:_)(x2:_):NoPan (E9 x0 x1 x2):=by
 unfold E9
 repeat' (first|exact AG _|exact AI|exact AW _|exact BJ _ _|exact Lk _|apply AB|apply AM|apply A3|apply AK|apply AS|apply A4|apply AU|apply A1|apply A2|apply A0|intro _|split)
theorem TZ_ (x0:_)(x1:_)(x2:_):NoPan (sitN x0 x1 x2):=by
 unfold sitN
 repeat' (first|exact AG _|exact AI|exact AW _|exact CL _ _|apply AB|apply AM|apply A3|apply AK|apply AS|apply A4|apply AU|apply A1|apply A2|apply A0|intro _|split)
theorem Iw_ (x0:_):NoPan (Ex x0):=by
 unfold Ex
 repeat' (first|exact AG _|exact AI|exact AW _|exact TZ_ _ _ _|exact Dn _|apply AB|apply AM|apply A3|apply AK|apply AS|apply A4|apply AU|apply A1|apply A2|apply A0|intro _|split)
theorem Pv_ (x0:_)(x1:_)(x2:_)(x3:_):NoPan (Fg x0 x1 x2 x3):=by
 unfold Fg
 repeat' (first|exact AG _|exact AI|exact AW _|exact LG_ _ _ _|exact V7 _|exact BJ _ _|apply AB|apply AM|apply A3|apply AK|apply AS|apply A4|apply AU|apply A1|apply A2|apply A0|intro _|split)
open Go.RowKit
def OpV (E:Env)(o:Oper)(c:Cl OpT)(ds:List Nat):Prop:=
 ∃f,c= .mk f∧(∀call round rho tm,NoPan (f call round rho tm))∧
  ∀call round (w0 w:World) (r:Inj) (U:Nat→Prop) rho tm (a:Act) s v s',SlR r U ds rho tm a.tmps→(∀t,Operand.tmp t∈o.op.operands.toList→U t)→Rel w0 r s.mem w→f call round rho tm s= .some v s'→Br r s.next s'.next→
   ∃v' w' r',((execOp a.eval o).run E.P w= .ok (.value v') w'∨((execOp a.eval o).run E.P w= .ok .skip w'∧v'=undef))∧Goes w0 r s s' r' w'∧VR r' v v'∧s'.lim=s.lim∧s'.cx=s.cx
section
variable {E:Env}{ds:List Nat}{o:Oper}
def CQ (m:Sem Value):Sem Next:=do pure (.value (←m))
theorem Yields.val {w0 w:World}{r:Inj}{s s':St}{v:Value}{m:Sem Value}(h:Yields E w0 r s s' v w m){n:Sem Next}(hn:n=CQ m):
  ∃v' w' r',(n.run E.P w= .ok (.value v') w'∨(n.run E.P w= .ok .skip w'∧v'=undef))∧Goes w0 r s s' r' w'∧VR r' v v'∧s'.lim=s.lim∧s'.cx=s.cx:=by
 obtain⟨v',w',r',h1,h2,h3,h4,h5⟩:=h
 exact⟨v',w',r', .inl (by rw[hn];simp[CQ,h1]),h2,h3,h4,h5⟩
theorem Dy {α:Type}{x:Option α}{f:α→St→R Value}{s s':St}{v:Value}(h:Option.rec (motive:=fun _=>R Value) .none (fun a=>f a s) x= .some v s'): ∃a,x=some a∧f a s= .some v s':=by
 cases x with
 |none=>cases h
 |some a=>exact⟨a,rfl,h⟩
theorem DI {α:Type}{g:Option α}{f:α→M Value}(h: ∀a,NoPan (f a)):NoPan (fun s=>Option.rec (motive:=fun _=>R Value) .none (fun a=>f a s) g):=⟨fun s c s' e=>by
 cases g with
 |none=>cases e
 |some a=>exact(h a).no _ _ _ e⟩
theorem S8 {x:Operand}(hx:o.op.operands.toList=[x])(ho: ∀a:Act,execOp a.eval o=pure (.value (a.eval x))):OpV E o (EH ds x) ds:=by
 obtain⟨g,h1,h2⟩:=BN ds x
 refine⟨_,by unfold EH;rw[h1],fun _ _ rho tm=>DI (f:=fun a s=> .some a s) (g:=g rho tm) fun a=>AG a, ?_⟩
 intro call round w0 w r U rho tm a s v s' hs hu hr h hf
 obtain⟨y,e1,e2⟩:=Dy (f:=fun a s=> .some a s) h
 cases e2
 exact⟨_,w,r, .inl (by rw[ho];rfl), .of_rel rfl hr,h2 _ _ _ _ _ _ hs (fun t q=>hu t (by first|(rw[hx];simp at q ⊢;simp[q])|exact hx _ q)) e1,rfl,rfl⟩
theorem C4 {x:Operand}{k:Value→M Value}{m:Value→Sem Value}(hx:o.op.operands.toList=[x])(ho: ∀a:Act,execOp a.eval o=CQ (m (a.eval x)))(np: ∀y,NoPan (k y))
  (hk: ∀{w0 w:World} {r:Inj} {y y':Value} {s v s'},k y s= .some v s'→Rel w0 r s.mem w→Br r s.next s'.next→VR r y y'→Yields E w0 r s s' v w (m y')):OpV E o (BF ds x k) ds:=by
 obtain⟨g,h1,h2⟩:=BN ds x
 refine⟨_,by unfold BF;rw[h1],fun _ _ rho tm=>DI (g:=g rho tm) np, ?_⟩
 intro call round w0 w r U rho tm a s v s' hs hu hr h hf
 obtain⟨y,e1,e2⟩:=Dy h
 exact(hk e2 hr hf (h2 _ _ _ _ _ _ hs (fun t q=>hu t (by first|(rw[hx];simp at q ⊢;simp[q])|exact hx _ q)) e1)).val (ho a)
theorem G7 {x y:Operand}{k:Value→Value→M Value}{m:Value→Value→Sem Value}(hx:o.op.operands.toList=[x,y])(ho: ∀a:Act,execOp a.eval o=CQ (m (a.eval x) (a.eval y)))(np: ∀y z,NoPan (k y z))
  (hk: ∀{w0 w:World} {r:Inj} {y y' z z':Value} {s v s'},k y z s= .some v s'→Rel w0 r s.mem w→Br r s.next s'.next→VR r y y'→VR r z z'→Yields E w0 r s s' v w (m y' z')):OpV E o (Cv ds x y k) ds:=by
 obtain⟨g,h1,h2⟩:=BN ds x
 obtain⟨g',h3,h4⟩:=BN ds y
 refine⟨_,by unfold Cv;rw[h1,h3],fun _ _ rho tm=>DI (g:=g rho tm) (f:=fun a s=>Option.rec (motive:=fun _=>R Value) .none (fun b=>k a b s) (g' rho tm)) fun a=>DI (np a), ?_⟩
 intro call round w0 w r U rho tm a s v s' hs hu hr h hf
 obtain⟨y,e1,e2⟩:=Dy (f:=fun a s=>Option.rec (motive:=fun _=>R Value) .none (fun b=>k a b s) (g' rho tm)) h
 obtain⟨z,e3,e4⟩:=Dy e2
 exact(hk e4 hr hf (h2 _ _ _ _ _ _ hs (fun t q=>hu t (by first|(rw[hx];simp at q ⊢;simp[q])|exact hx _ q)) e1) (h4 _ _ _ _ _ _ hs (fun t q=>hu t (by rw[hx];simp at q ⊢;simp[q])) e3)).val (ho a)
theorem Ah_ {l:List (Nat×Operand)}{k:List (Nat×Value)→M Value}{m:List (Nat×Value)→Sem Value}(hx:o.op.operands.toList=l.map (·.2))(ho: ∀a:Act,execOp a.eval o=CQ (m (l.map fun p=>(p.1,a.eval p.2))))(np: ∀y,NoPan (k y))
  (hk: ∀{w0 w:World} {r:Inj} {y y':List (Nat×Value)} {s v s'},k y s= .some v s'→Rel w0 r s.mem w→Br r s.next s'.next→PRs r y y'→Yields E w0 r s s' v w (m y')):OpV E o (ES ds l k) ds:=by
 obtain⟨g,h1,h2⟩:=Rs ds l
 refine⟨_,by unfold ES;rw[h1],fun _ _ rho tm=>DI (g:=g rho tm) np, ?_⟩
 intro call round w0 w r U rho tm a s v s' hs hu hr h hf
 obtain⟨y,e1,e2⟩:=Dy h
 exact(hk e2 hr hf (h2 _ _ _ _ _ _ hs (fun t q=>hu t (by first|(rw[hx];simp at q ⊢;simp[q])|exact hx _ q)) e1)).val (ho a)
end
section
variable {E:Env}{ds:List Nat}{o:Oper}
theorem Vi_ {x:Operand}(ho:o.op= .move x):OpV E o (EH ds x) ds:=S8 (by simp[ho,Op.operands]) fun a=>by simp only[execOp,ho]
theorem Bf_ {x:Operand}(ho:o.op= .assign x):OpV E o (EH ds x) ds:=S8 (by simp[ho,Op.operands]) fun a=>by simp only[execOp,ho]
theorem Fy_ {e:Nat}(ho:o.op= .alloc e)(he:EnvTy E):OpV E o (.mk fun _ _ _ _=>BH E e) ds:=by
 refine⟨_,rfl,fun _ _ _ _=>MG_ _ _, ?_⟩
 intro call round w0 w r U rho tm a s v s' hs hu hr h hf
 exact(DT_ he h hr hf).val (by simp only[execOp,ho];rfl)
theorem FT_ {e:Nat}{x:Operand}(ho:o.op= .box e x):OpV E o (BF ds x kBox) ds:=
 C4 (m:=Instr.box e) (by simp[ho,Op.operands]) (fun a=>by simp only[execOp,ho];rfl) KV_ fun h hr hf hx=>Iy_ h hr hf hx
theorem DF_ {t:Nat}{ps:Array (Nat×Operand)}(ho:o.op= .build t ps)(he:EnvTy E):OpV E o (ES ds ps.toList (Cn E t)) ds:=
 Ah_ (m:=fun l=>Instr.build t l.toArray) (by simp[ho,Op.operands]) (fun a=>by simp only[execOp,ho];rw[←List.map_toArray];rfl) (Gv_ _ _) fun h hr hf hx=>RN_ he h hr (by simpa using hx)
theorem SZ_ {t n:Nat}{ps:Array (Nat×Operand)}(ho:o.op= .buildSlice t n ps)(he:EnvTy E):OpV E o (ES ds ps.toList (BX E t n)) ds:=
 Ah_ (m:=fun l=>Instr.buildSlice t n l.toArray) (by simp[ho,Op.operands]) (fun a=>by simp only[execOp,ho];rw[←List.map_toArray];rfl) (Bl_ _ _ _) fun h hr hf hx=>Fx_ he h hr hf (by simpa using hx)
theorem QH_ {t:Nat}{x:Operand}(ho:o.op= .load t x)(he:EnvTy E):OpV E o (BF ds x (A5 E t)) ds:=
 C4 (m:=Instr.loadAt t) (by simp[ho,Op.operands]) (fun a=>by simp only[execOp,ho];rfl) (VC_ _ _) fun h hr hf hx=>Mh_ he h hr hx
theorem Kc_ {t:Nat}{x y:Operand}(ho:o.op= .store t x y)(he:EnvTy E):OpV E o (Cv ds x y (Bo E t)) ds:=by
 obtain⟨g,h1,h2⟩:=BN ds x
 obtain⟨g',h3,h4⟩:=BN ds y
 refine⟨_,by unfold Cv;rw[h1,h3],fun _ _ rho tm=>DI (g:=g rho tm) (f:=fun a s=>Option.rec (motive:=fun _=>R Value) .none (fun b=>Bo E t a b s) (g' rho tm)) fun a=>DI (HO_ _ _ a), ?_⟩
 intro call round w0 w r U rho tm a s v s' hs hu hr h hf
 obtain⟨y,e1,e2⟩:=Dy (f:=fun a s=>Option.rec (motive:=fun _=>R Value) .none (fun b=>Bo E t a b s) (g' rho tm)) h
 obtain⟨z,e3,e4⟩:=Dy e2
 obtain⟨rfl,w',k1,k2,k3,k4,k5⟩:=OJ_ he e4 hr (h2 _ _ _ _ _ _ hs (fun t q=>hu t (by simp[ho,Op.operands]at q ⊢;simp[q])) e1) (h4 _ _ _ _ _ _ hs (fun t q=>hu t (by simp[ho,Op.operands]at q ⊢;simp[q])) e3)
 refine⟨undef,w',r, .inr ⟨?_,rfl⟩, .of_rel k3 k2, .tuple rfl (fun i v v' e=>by simp at e),k4,k5⟩
 simp[execOp,ho,k1]
theorem Rx_ {x:Operand}(ho:o.op= .nilCheck x):OpV E o (BF ds x kNil) ds:=by
 obtain⟨g,h1,h2⟩:=BN ds x
 refine⟨_,by unfold BF;rw[h1],fun _ _ rho tm=>DI (g:=g rho tm) Vf_, ?_⟩
 intro call round w0 w r U rho tm a s v s' hs hu hr h hf
 obtain⟨y,e1,e2⟩:=Dy h
 have hx:=h2 _ _ _ _ _ _ hs (fun t q=>hu t (by simp[ho,Op.operands]at q ⊢;simp[q])) e1
 obtain⟨rfl,rfl,e3⟩:=CO_ (P:=E.P) (w:=w) (a:=a) ho rfl e2 hx
 exact⟨_,w,r, .inl e3, .of_rel rfl hr,hx,rfl,rfl⟩
theorem BO_ {op:BinOp}{t yt:Nat}{x y:Operand}(ho:o.op= .binOp op t x y yt)(he:EnvTy E):OpV E o (Cl.rec (motive:=fun _=>Cl OpT) (fun f=>Cv ds x y f) (aBin E op t x y)) ds:=by
 generalize hc:aBin E op t x y=c
 obtain⟨f⟩:=c
 refine G7 (m:=fun y' z'=>do eqGuard op t x y y' z';binOp op t y' z') (by simp[ho,Op.operands]) (fun a=>by simp only[execOp,ho];rfl) (fun y' z'=> ?_) fun h hr hf hx hy=>Ha_ hc he h hr hx hy
 have slow: ∀op,NoPan (Bx E op t x y y' z'):=fun op=>Bu_ _ _ _ _ _ _ _
 have fast3: ∀(k:CE) op,NoPan (int3 k (Bx E op t x y) y' z'):=fun k op=>⟨fun s c s' e=>by
  unfold int3 CI at e
  cases y'<;>simp only at e
  case int k1 a=>
   cases z'<;>simp only at e
   case int k2 b=>
    cases a with
    |negSucc m=>exact(slow op).no _ _ _ e
    |ofNat m=>
     cases b with
     |negSucc m=>exact(slow op).no _ _ _ e
     |ofNat n=>
      simp only at e
      cases e1:k k1 k2 m n with
      |none=>rw[e1]at e;exact(slow op).no _ _ _ e
      |some u=>rw[e1]at e;cases e
   all_goals exact(slow op).no _ _ _ e
  all_goals exact(slow op).no _ _ _ e⟩
 have fast2: ∀(k:Int→Int→St→R Value) (k3:CE) op,(∀a b,NoPan (k a b))→NoPan (int2 k (int3 k3 (Bx E op t x y)) y' z'):=fun k k3 op hk=>⟨fun s c s' e=>by
  have f3:=fast3 k3 op
  unfold int2 CI at e
  cases y'<;>simp only at e
  case int k1 a=>
   cases z'<;>simp only at e
   case int k2 b=>
    cases e1:DR k1 with
    |false=>rw[e1]at e;exact f3.no _ _ _ e
    |true=>
     cases e2:DR k2 with
     |false=>rw[e1,e2]at e;exact f3.no _ _ _ e
     |true=>rw[e1,e2]at e;exact(hk a b).no _ _ _ e
   all_goals exact f3.no _ _ _ e
  all_goals exact f3.no _ _ _ e⟩
 have rI': ∀n,NoPan (rI n):=fun n=>⟨fun s c s' e=>by unfold rI at e;rw[Ea]at e;cases e⟩
 have rB': ∀b,NoPan (rB b):=fun b=>⟨fun s c s' e=>by cases b<;>cases e⟩
 cases op<;>cases hc<;>first|exact slow _|exact fast3 _ _|exact fast2 _ _ _ fun a b=>rI' _|exact fast2 _ _ _ fun a b=>rB' _
theorem Sv_ {op:UnOp}{t:Nat}{x:Operand}(ho:o.op= .unOp op t x):OpV E o (BF ds x (kUn E.P op)) ds:=
 C4 (m:=Op.unary op) (by simp[ho,Op.operands]) (fun a=>by simp only[execOp,ho];rfl) (BS_ _ _) fun h hr hf hx=>Wx_ h hr hx
theorem SD_ {s d:Nat}{x:Operand}(ho:o.op= .convert s d x)(he:EnvTy E):OpV E o (BF ds x (Bu E s d)) ds:=
 C4 (m:=convert s d) (by simp[ho,Op.operands]) (fun a=>by simp only[execOp,ho];rfl) (AO_ _ _ _) fun h hr hf hx=>PW_ he h hr hf hx
theorem Mz_ {t:Nat}{x:Operand}(ho:o.op= .sliceToArrayPointer t x)(he:EnvTy E):OpV E o (BF ds x (DY E t)) ds:=
 C4 (m:=Instr.arrayAt t) (by simp[ho,Op.operands]) (fun a=>by simp only[execOp,ho];rfl) (JG_ _ _) fun h hr hf hx=>Nu_ he h hr hx
theorem SJ_ {t:Nat}{x:Operand}(ho:o.op= .makeInterface t x)(he:EnvTy E):OpV E o (BF ds x (E7 E t)) ds:=
 C4 (m:=Instr.makeInterface t) (by simp[ho,Op.operands]) (fun a=>by simp only[execOp,ho];rfl) (BN_ _ _) fun h hr hf hx=>US_ he h hr hx
theorem UD_ {t:Nat}{x y:Operand}(ho:o.op= .makeSlice t x y)(he:EnvTy E):OpV E o (Cv ds x y (DX E t)) ds:=
 G7 (m:=Instr.makeSlice t) (by simp[ho,Op.operands]) (fun a=>by simp only[execOp,ho];rfl) (QW_ _ _) fun h hr hf hx hy=>QA_ he h hr hf hx hy
theorem NT_ {t f:Nat}{x:Operand}(ho:o.op= .fieldAddr t x f)(he:EnvTy E):OpV E o (BF ds x fun a=>kFld E t a f) ds:=
 C4 (m:=fun x=>Instr.fieldAt t x f) (by simp[ho,Op.operands]) (fun a=>by simp only[execOp,ho];rfl) (fun y=>Pc_ _ _ y _) fun h hr hf hx=>Hy_ he h hr hx
theorem Dc_ {t f:Nat}{x:Operand}(ho:o.op= .field t x f)(he:EnvTy E):OpV E o (BF ds x fun a=>Fh E t a f) ds:=
 C4 (m:=fun x=>Instr.field t x f) (by simp[ho,Op.operands]) (fun a=>by simp only[execOp,ho];rfl) (fun y=>LV_ _ _ y _) fun h hr hf hx=>Og_ he h hr hx
theorem Ce_ {t:Nat}{x y:Operand}(ho:o.op= .indexAddr t x y)(he:EnvTy E):OpV E o (Cv ds x y (A9 E t)) ds:=
 G7 (m:=Instr.indexAt t) (by simp[ho,Op.operands]) (fun a=>by simp only[execOp,ho];rfl) (Nf_ _ _) fun h hr hf hx hy=>RR_ he h hr hx hy
theorem GC_ {t:Nat}{x y:Operand}(ho:o.op= .index t x y)(he:EnvTy E):OpV E o (Cv ds x y (kIdx E t)) ds:=
 G7 (m:=Instr.index t) (by simp[ho,Op.operands]) (fun a=>by simp only[execOp,ho];rfl) (EA_ _ _) fun h hr hf hx hy=>CV_ he h hr hx hy
theorem MN_ {k:Nat}{x:Operand}(ho:o.op= .extract x k):OpV E o (BF ds x (kExt k)) ds:=
 C4 (m:=fun x=>Instr.extract x k) (by simp[ho,Op.operands]) (fun a=>by simp only[execOp,ho];rfl) (MA_ _) fun h hr hf hx=>Mg_ h hr hx
theorem Qn_ {xt t:Nat}{c:Bool}{x:Operand}(ho:o.op= .typeAssert x xt t c)(he:EnvTy E):OpV E o (BF ds x (Fg E t c)) ds:=
 C4 (m:=fun x=>Instr.typeAssert x xt t c) (by simp[ho,Op.operands]) (fun a=>by simp only[execOp,ho];rfl) (Pv_ _ _ _) fun h hr hf hx=>Fb_ he h hr hx
end
section
variable {E:Env}{ds:List Nat}{o:Oper}
theorem Wp_ {x y z:Operand}(ho:o.op= .pick x y z):OpV E o (C8 ds x y z Cw) ds:=by
 obtain⟨g,h1,h2⟩:=BN ds x
 obtain⟨g',h3,h4⟩:=BN ds y
 obtain⟨g2,h5,h6⟩:=BN ds z
 refine⟨_,by unfold C8;rw[h1,h3,h5],fun _ _ rho tm=>AK _ fun a=>AK _ fun b=>AK _ fun c=>HQ_ _ _ _, ?_⟩
 intro call round w0 w r U rho tm a s v s' hs hu hr h hf
 obtain⟨x',e1,h⟩:=BQ h
 obtain⟨y',e2,h⟩:=BQ h
 obtain⟨z',e3,h⟩:=BQ h
 obtain⟨rfl,t,k1,k2⟩:=SB_ h (h2 _ _ _ _ _ _ hs (fun t q=>hu t (by simp[ho,Op.operands]at q ⊢;simp[q])) e1) (h4 _ _ _ _ _ _ hs (fun t q=>hu t (by simp[ho,Op.operands]at q ⊢;simp[q])) e2) (h6 _ _ _ _ _ _ hs (fun t q=>hu t (by simp[ho,Op.operands]at q ⊢;simp[q])) e3)
 refine⟨_,w,r, .inl ?_, .of_rel rfl hr,k2,rfl,rfl⟩
 simp only[execOp,ho,k1]
 cases t<;>simp[asBool]
theorem Kn_ {t:Nat}{x:Operand}{lo hi mx:Option Operand}(ho:o.op= .slice t x lo hi mx)(he:EnvTy E):OpV E o (Jo E ds t x lo hi mx) ds:=by
 cases mx with
 |some m=>
  exact⟨_,rfl,fun _ _ _ _=>AI,fun call round w0 w r U rho tm a s v s' hs hu hr h hf=>by cases h⟩
 |none=>
  obtain⟨g,h1,h2⟩:=BN ds x
  obtain⟨g',h3,h4⟩:=Kz ds lo
  obtain⟨g2,h5,h6⟩:=Kz ds hi
  refine⟨fun _ _ rho tm=>M.on (g rho tm) fun a=>M.on (g' rho tm) fun b=>M.on (g2 rho tm) fun c=>BW E t a b c,by unfold Jo Py;simp only[h1,h3,h5],fun _ _ rho tm=>AK _ fun a=>AK _ fun b=>AK _ fun c=>UV_ _ _ _ _ _, ?_⟩
  intro call round w0 w r U rho tm a s v s' hs hu hr h hf
  obtain⟨x',e1,h⟩:=BQ h
  obtain⟨y',e2,h⟩:=BQ h
  obtain⟨z',e3,h⟩:=BQ h
  exact(Ge_ he h hr (h2 _ _ _ _ _ _ hs (fun t q=>hu t (by simp[ho,Op.operands]at q ⊢;simp[q])) e1) (h4 _ _ _ _ _ _ hs (fun t q=>hu t (by simp[ho,Op.operands]at q ⊢;simp[q])) e2) (h6 _ _ _ _ _ _ hs (fun t q=>hu t (by simp[ho,Op.operands]at q ⊢;simp[q])) e3)).val (by simp only[execOp,ho];rfl)
theorem RB_ {t:Nat}(ho:o.op= .makeMap t none):OpV E o (.mk fun _ _ _ _=>D1) ds:=by
 refine⟨_,rfl,fun _ _ _ _=>Ye, ?_⟩
 intro call round w0 w r U rho tm a s v s' hs hu hr h hf
 exact(Yl h hr hf).val (by simp only[execOp,ho];rfl)
theorem CN_ {t:Nat}{x:Operand}(ho:o.op= .makeMap t (some x))(he:EnvTy E):OpV E o (BF ds x (E8 E t)) ds:=
 C4 (m:=fun x=>Instr.makeMap t (some x)) (by simp[ho,Op.operands]) (fun a=>by simp only[execOp,ho];rfl) (Cx_ _ _) fun h hr hf hx=>Vz_ he h hr hf hx
theorem HG_ {t:Nat}{c:Bool}{x y:Operand}(ho:o.op= .lookup t x y c)(he:EnvTy E):OpV E o (Cv ds x y (Ib E t c)) ds:=
 G7 (m:=fun x y=>Instr.lookup t x y c) (by simp[ho,Op.operands]) (fun a=>by simp only[execOp,ho];rfl) (ES_ _ _ _) fun h hr hf hx hy=>KZ_ he h hr hx hy
theorem Rb_ {t:Nat}{x y:Operand}(ho:o.op= .mapEntry t x y)(he:EnvTy E):OpV E o (Cv ds x y (IS E t)) ds:=
 G7 (m:=Instr.mapEntry t) (by simp[ho,Op.operands]) (fun a=>by simp only[execOp,ho];rfl) (EG_ _ _) fun h hr hf hx hy=>VL_ he h hr hx hy
theorem Qw {x y z:Operand}{k:Value→Value→Value→M Value}{m:Value→Value→Value→Sem Unit}(hx:o.op.operands.toList=[x,y,z])(ho: ∀a:Act,execOp a.eval o=(do m (a.eval x) (a.eval y) (a.eval z);pure .skip))(np: ∀x y z,NoPan (k x y z))
  (hk: ∀{w0 w:World} {r:Inj} {x x' y y' z z':Value} {s v s'},k x y z s= .some v s'→Rel w0 r s.mem w→VR r x x'→VR r y y'→VR r z z'→v=undef∧ ∃w',(m x' y' z').run E.P w= .ok () w'∧Goes w0 r s s' r w'∧s'.lim=s.lim∧s'.cx=s.cx):OpV E o (C8 ds x y z k) ds:=by
 obtain⟨g,h1,h2⟩:=BN ds x
 obtain⟨g',h3,h4⟩:=BN ds y
 obtain⟨g2,h5,h6⟩:=BN ds z
 refine⟨_,by unfold C8;rw[h1,h3,h5],fun _ _ rho tm=>AK _ fun a=>AK _ fun b=>AK _ fun c=>np _ _ _, ?_⟩
 intro call round w0 w r U rho tm a s v s' hs hu hr h hf
 obtain⟨x',e1,h⟩:=BQ h
 obtain⟨y',e2,h⟩:=BQ h
 obtain⟨z',e3,h⟩:=BQ h
 obtain⟨rfl,w',k1,k2,k3,k4⟩:=hk h hr (h2 _ _ _ _ _ _ hs (fun t q=>hu t (by rw[hx];simp at q ⊢;simp[q])) e1) (h4 _ _ _ _ _ _ hs (fun t q=>hu t (by rw[hx];simp at q ⊢;simp[q])) e2) (h6 _ _ _ _ _ _ hs (fun t q=>hu t (by rw[hx];simp at q ⊢;simp[q])) e3)
 refine⟨undef,w',r, .inr ⟨?_,rfl⟩,k2, .undef,k3,k4⟩
 rw[ho]
 simp[k1]
theorem Jc_ {t:Nat}{x y z:Operand}(ho:o.op= .mapUpdate t x y z)(he:EnvTy E):OpV E o (C8 ds x y z (Fp E t)) ds:=
 Qw (m:=Instr.mapUpdate t) (by simp[ho,Op.operands]) (fun a=>by simp only[execOp,ho]) (Xq _ _) fun h hr hx hy hz=>Vn he h hr hx hy hz
theorem BT_ {t:Nat}{x y z:Operand}(ho:o.op= .insert t x y z)(he:EnvTy E):OpV E o (C8 ds x y z (Fp E t)) ds:=
 Qw (m:=Instr.mapUpdate t) (by simp[ho,Op.operands]) (fun a=>by simp only[execOp,ho]) (Xq _ _) fun h hr hx hy hz=>Vn he h hr hx hy hz
theorem Bo_ {t:Nat}{x y z:Operand}(ho:o.op= .entryStore t x y z):OpV E o (C8 ds x y z ER) ds:=
 Qw (m:=Instr.entryStore t) (by simp[ho,Op.operands]) (fun a=>by simp only[execOp,ho]) Sz_ fun h hr hx hy hz=>JI_ h hr hx hy hz
theorem Ll_ {t:Nat}{x:Operand}(ho:o.op= .range t x)(he:EnvTy E):OpV E o (BF ds x (E9 E t)) ds:=
 C4 (m:=Instr.range t) (by simp[ho,Op.operands]) (fun a=>by simp only[execOp,ho];rfl) (TO_ _ _) fun h hr hf hx=>Pu_ he h hr hf hx
theorem JQ_ {x:Operand}(ho:o.op= .next x true):OpV E o (BF ds x Ex) ds:=
 C4 (m:=fun x=>Instr.next x true o.type) (by simp[ho,Op.operands]) (fun a=>by simp only[execOp,ho];rfl) Iw_ fun h hr hf hx=>Hv_ h hr hx
theorem UQ {α β:Type}(f:α→β)(a:Array α):a.map f=(a.toList.map f).toArray:=by rw[←List.map_toArray]
theorem VRs.func {r:Inj}{f:Nat}{a a' c c':List Value}(h:VRs r a a')(k:VRs r c c'):VR r (.func (.func f) a.toArray c.toArray) (.func (.func f) a'.toArray c'.toArray):=
 .func rfl (by simpa using h.1) (fun i v v' e e'=>h.2 i v v' (by simpa using e) (by simpa using e')) (by simpa using k.1) (fun i v v' e e'=>k.2 i v v' (by simpa using e) (by simpa using e'))
theorem DK_ {f:Nat}{first cap:Array Operand}(ho:o.op= .makeFunc (.func f) first cap):OpV E o (IF ds first.toList cap.toList fun x c=>M.pure (.func (.func f) x.toArray c.toArray)) ds:=by
 obtain⟨g,h1,h2⟩:=DW ds first.toList
 obtain⟨g',h3,h4⟩:=DW ds cap.toList
 refine⟨_,by unfold IF;rw[h1,h3],fun _ _ rho tm=>DI (g:=g rho tm) (f:=fun(a:List Value) s=>Option.rec (motive:=fun _=>R Value) .none (fun(b:List Value)=>M.pure (Value.func (.func f) a.toArray b.toArray) s) (g' rho tm)) fun a=>DI (f:=fun(b:List Value)=>M.pure (Value.func (.func f) a.toArray b.toArray)) fun b=>AG _, ?_⟩
 intro call round w0 w r U rho tm a s v s' hs hu hr h hf
 obtain⟨x',e1,h⟩:=Dy (f:=fun(a:List Value) s=>Option.rec (motive:=fun _=>R Value) .none (fun(b:List Value)=>M.pure (Value.func (.func f) a.toArray b.toArray) s) (g' rho tm)) h
 obtain⟨y',e2,h⟩:=Dy (f:=fun(b:List Value)=>M.pure (Value.func (.func f) x'.toArray b.toArray)) h
 obtain⟨rfl,rfl⟩:=AE h
 refine⟨_,w,r, .inl ?_, .of_rel rfl hr,(h2 _ _ _ _ _ _ hs (fun t q=>hu t (by simp[ho,Op.operands]at q ⊢;simp[q])) e1).func (h4 _ _ _ _ _ _ hs (fun t q=>hu t (by simp[ho,Op.operands]at q ⊢;simp[q])) e2),rfl,rfl⟩
 simp[execOp,ho,Instr.makeFunc]
 exact⟨UQ _ _,UQ _ _⟩
theorem TQ_ {b:Builtin}{c:Call}(ho:o.op= .call c)(hb:c.callee= .builtin b)(hn:b≠ .recover)(he:EnvTy E):OpV E o (Gx ds c.args.toList (A6 E b c.argTypes.toList)) ds:=by
 obtain⟨g,h1,h2⟩:=DW ds c.args.toList
 refine⟨_,by unfold Gx;rw[h1],fun _ _ rho tm=>DI (g:=g rho tm) (IZ_ _ _ _), ?_⟩
 intro call round w0 w r U rho tm a s v s' hs hu hr h hf
 obtain⟨l,e1,h⟩:=Dy h
 have hl:VRs r l (c.args.toList.map a.eval):=h2 _ _ _ _ _ _ hs (fun t q=>hu t (by simp[ho,Op.operands,Call.operands]at q ⊢;simp[q])) e1
 have key: ∀{m:Sem Value},Yields E w0 r s s' v w m→(∀(cs:Array Bool) w,(builtin b c.argTypes o.type cs (c.args.map a.eval)).run E.P w=(CQ m).run E.P w)→
   ∃v' w' r',((execOp a.eval o).run E.P w= .ok (.value v') w'∨((execOp a.eval o).run E.P w= .ok .skip w'∧v'=undef))∧Goes w0 r s s' r' w'∧VR r' v v'∧s'.lim=s.lim∧s'.cx=s.cx:=by
  intro m hy hm
  obtain⟨v',w',r',k1,k2,k3,k4,k5⟩:=hy
  refine⟨v',w',r', .inl ?_,k2,k3,k4,k5⟩
  simp only[execOp,ho,resolve,hb,invoke,Sem.run_bind,Sem.run_pure,Result.andThen_ok,hm,CQ,k1]
 generalize hts:c.argTypes.toList=ts at h
 have hmap:c.args.map a.eval=(c.args.toList.map a.eval).toArray:=by rw[←List.map_toArray]
 have ht0: ∀{t:Nat} {l:List Nat},c.argTypes.toList=t::l→c.argTypes[0]?=some t:=by
  intro t l e;rw[←Array.getElem?_toList,e];rfl
 have ht1: ∀{t t2:Nat} {l:List Nat},c.argTypes.toList=t::t2::l→c.argTypes[1]?=some t2:=by
  intro t t2 l e;rw[←Array.getElem?_toList,e];rfl
 unfold A6 at h
 split at h
 ·rename_i t ts' x
  obtain⟨x',l',q1,q2,q3⟩:=hl.inv
  have:=q3.inv_nil
  subst this
  refine key (VV_ (ty:=o.type) (ht0 hts) he h hr q2) fun cs w=> ?_
  rw[hmap,q1];simp[builtin,CQ]
 ·rename_i t ts' x
  obtain⟨x',l',q1,q2,q3⟩:=hl.inv
  have:=q3.inv_nil
  subst this
  refine key (Pp_ (ty:=o.type) (ht0 hts) he h hr q2) fun cs w=> ?_
  rw[hmap,q1];simp[builtin,CQ]
 ·obtain⟨y',l1,q1,q2,q3⟩:=hl.inv
  obtain⟨x',l',q4,q5,q6⟩:=q3.inv
  have:=q6.inv_nil
  subst this
  subst q4
  refine key (OH_ (ty:=o.type) (ht0 hts) (ht1 hts) he h hr hf q2 q5) fun cs w=> ?_
  rw[hmap,q1];simp[builtin,CQ]
 ·obtain⟨y',l1,q1,q2,q3⟩:=hl.inv
  obtain⟨x',l',q4,q5,q6⟩:=q3.inv
  have:=q6.inv_nil
  subst this
  subst q4
  refine key (IW_ (ty:=o.type) (ht0 hts) he h hr q2 q5) fun cs w=> ?_
  rw[hmap,q1];simp[builtin,CQ]
 ·obtain⟨y',l1,q1,q2,q3⟩:=hl.inv
  obtain⟨x',l',q4,q5,q6⟩:=q3.inv
  have:=q6.inv_nil
  subst this
  subst q4
  refine key (TV_ (ty:=o.type) (ht0 hts) he h hr q2 q5) fun cs w=> ?_
  rw[hmap,q1];simp[builtin,CQ]
 ·obtain⟨x',l',q1,q2,q3⟩:=hl.inv
  have:=q3.inv_nil
  subst this
  refine key (CG_ (ty:=o.type) (ht0 hts) he h hr q2) fun cs w=> ?_
  rw[hmap,q1];simp[builtin,CQ]
 ·refine key (Sl_ (ts:=c.argTypes) (ty:=o.type) h hr hl) fun cs w=> ?_
  rw[hmap];simp[builtin,CQ]
 ·refine key (Du_ (ts:=c.argTypes) (ty:=o.type) h hr hl) fun cs w=> ?_
  rw[hmap];simp[builtin,CQ]
 ·cases h
end
abbrev Out (α:Type):Type:=Sum α (List PanicEntry)
def rOf {α:Type}(o:Out α)(s:St):R α:=
 match o with
 | .inl a=> .some a s
 | .inr c=> .pan c s
def Bnd (s:St):Prop:=s.lim≤s.next
structure LocG {α:Type}(m:M α)(s:St)(o:Out α)(s':St)(Rd Wr:Nat→Prop)(dr dw:List Nat):Prop where
 rd:s'.rd=dr++s.rd
 wr:s'.wr=dw++s.wr
 nxt:s.next≤s'.next
 lim:s'.lim=s.lim
 bnd:Bnd s'
 rlt: ∀l,Rd l→l<s'.next
 wlt: ∀l,Wr l→l<s'.next
 old: ∀l,¬Wr l→T.get s'.mem l=T.get s.mem l
 any: ∀t:St,t.next=s.next→t.lim=s.lim→t.cx=s.cx→(∀l,Rd l∨Wr l→T.get t.mem l=T.get s.mem l)→
  ∃t',m t=rOf o t'∧t'.next=s'.next∧t'.lim=s'.lim∧t'.cx=s'.cx∧t'.rd=dr++t.rd∧t'.wr=dw++t.wr∧
   (∀l,Wr l→T.get t'.mem l=T.get s'.mem l)∧(∀l,¬Wr l→T.get t'.mem l=T.get t.mem l)
def C0 {α:Type}(m:M α)(s:St)(o:Out α)(s':St):Prop:=
 ∃Rd Wr dr dw,LocG m s o s' Rd Wr dr dw∧(∀l,Rd l→l<s.lim→l∈dr)∧(∀l,Wr l→l<s.lim→l∈dw)
structure Loc {α:Type}(m:M α):Prop where
 at': ∀s o s',m s=rOf o s'→Bnd s→C0 m s o s'
theorem LocG.seq {α β:Type}{m:M α}{n C:M β}{s s1 s':St}{o1:Out α}{o:Out β}{R1 W1 R2 W2:Nat→Prop}{r1 w1 r2 w2:List Nat}
  (h:LocG m s o1 s1 R1 W1 r1 w1) (k:LocG n s1 o s' R2 W2 r2 w2) (hC: ∀t t1,m t=rOf o1 t1→C t=n t1):LocG C s o s' (fun l=>R1 l∨R2 l) (fun l=>W1 l∨W2 l) (r2++r1) (w2++w1) where
 rd:=by rw[k.rd,h.rd,List.append_assoc]
 wr:=by rw[k.wr,h.wr,List.append_assoc]
 nxt:=Nat.le_trans h.nxt k.nxt
 lim:=k.lim.trans h.lim
 bnd:=k.bnd
 rlt:=fun l e=>e.elim (fun e=>Nat.lt_of_lt_of_le (h.rlt l e) k.nxt) (k.rlt l)
 wlt:=fun l e=>e.elim (fun e=>Nat.lt_of_lt_of_le (h.wlt l e) k.nxt) (k.wlt l)
 old:=fun l e=>(k.old l fun x=>e (.inr x)).trans (h.old l fun x=>e (.inl x))
 any:=fun t e1 e2 e3 e4=>by
  obtain⟨t1,q1,q2,q3,q4,q5,q6,q7,q8⟩:=h.any t e1 e2 e3 fun l e=>e4 l (e.elim (fun e=> .inl (.inl e)) (fun e=> .inr (.inl e)))
  obtain⟨t2,p1,p2,p3,p4,p5,p6,p7,p8⟩:=k.any t1 q2 q3 q4 (fun l e=>by
   by_cases hw:W1 l
   ·exact q7 l hw
   ·rw[q8 l hw,h.old l hw]
    exact e4 l (e.elim (fun e=> .inl (.inr e)) (fun e=> .inr (.inr e))))
  refine⟨t2,(hC t t1 q1).trans p1,p2,p3,p4,by rw[p5,q5,List.append_assoc],by rw[p6,q6,List.append_assoc],fun l e=> ?_,fun l e=>(p8 l fun x=>e (.inr x)).trans (q8 l fun x=>e (.inl x))⟩
  by_cases hw:W2 l
  ·exact p7 l hw
  ·rw[p8 l hw,k.old l hw]
   exact e.elim (q7 l) (fun x=>absurd x hw)
theorem C0.bnd {α:Type}{m:M α}{s s':St}{o:Out α}(h:C0 m s o s'):Bnd s':=let ⟨_,_,_,_,e,_⟩:=h;e.bnd
theorem C0.lim {α:Type}{m:M α}{s s':St}{o:Out α}(h:C0 m s o s'):s'.lim=s.lim:=let ⟨_,_,_,_,e,_⟩:=h;e.lim
theorem C0.next {α:Type}{m:M α}{s s':St}{o:Out α}(h:C0 m s o s'):s.next≤s'.next:=let ⟨_,_,_,_,e,_⟩:=h;e.nxt
theorem C0.seq {α β:Type}{m:M α}{n C:M β}{s s1 s':St}{o1:Out α}{o:Out β}(h:C0 m s o1 s1)(k:C0 n s1 o s')(hC: ∀t t1,m t=rOf o1 t1→C t=n t1):C0 C s o s':=by
 obtain⟨R1,W1,r1,w1,h1,h2,h3⟩:=h
 obtain⟨R2,W2,r2,w2,k1,k2,k3⟩:=k
 refine⟨_,_,_,_,h1.seq k1 hC,fun l e x=> ?_,fun l e x=> ?_⟩
 ·exact e.elim (fun e=>List.mem_append_right _ (h2 l e x)) (fun e=>List.mem_append_left _ (k2 l e (by rw[h1.lim];exact x)))
 ·exact e.elim (fun e=>List.mem_append_right _ (h3 l e x)) (fun e=>List.mem_append_left _ (k3 l e (by rw[h1.lim];exact x)))
theorem BD {α:Type}{o:Out α}{a:α}{s s':St}(h:R.some a s=rOf o s'):o= .inl a∧s'=s:=by cases o<;>cases h;exact⟨rfl,rfl⟩
theorem H0 {α:Type}{o:Out α}{c:List PanicEntry}{s s':St}(h:R.pan c s=rOf o s'):o= .inr c∧s'=s:=by cases o<;>cases h;exact⟨rfl,rfl⟩
theorem Ba {α:Type}{o:Out α}{s':St}(h:R.none=rOf o s'):False:=by cases o<;>cases h
theorem C0.quiet {α:Type}{m:M α}{s:St}{o:Out α}(hb:Bnd s)(h: ∀t:St,t.cx=s.cx→m t=rOf o t):C0 m s o s:=
 ⟨fun _=>False,fun _=>False,[],[],⟨rfl,rfl,Nat.le_refl _,rfl,hb,fun _ e=>e.elim,fun _ e=>e.elim,fun _ _=>rfl,
  fun t e1 e2 e3 _=>⟨t,h t e3,e1,e2,e3,rfl,rfl,fun _ e=>e.elim,fun _ _=>rfl⟩⟩,fun _ e=>e.elim,fun _ e=>e.elim⟩
theorem AC {α:Type}(a:α):Loc (M.pure a):=⟨fun s o s' h hb=>by
 obtain⟨rfl,rfl⟩:=BD h
 exact .quiet hb fun t _=>rfl⟩
theorem AD {α:Type}:Loc (M.fail:M α):=⟨fun s o s' h hb=>(Ba h).elim⟩
theorem AQ {α:Type}(x:Option α):Loc (M.ofOpt x):=by
 cases x with
 |none=>exact AD
 |some a=>exact AC a
theorem IU {α β:Type}{m:M α}{f:α→M β}{g:List PanicEntry→M β}(h:Loc m)(kf: ∀a,Loc (f a))(kg: ∀c,Loc (g c)):
  Loc (fun s=>R.rec (motive:=fun _=>R β) .none (fun a s=>f a s) (fun c s=>g c s) (m s)):=⟨fun s o s' e hb=>by
 cases e1:m s with
 |none=>rw[e1]at e;exact(Ba e).elim
 |some a s1=>
  rw[e1]at e
  have h1:=h.at' s (.inl a) s1 e1 hb
  exact h1.seq ((kf a).at' s1 o s' e h1.bnd) fun t t1 q=>by rw[q];rfl
 |pan c s1=>
  rw[e1]at e
  have h1:=h.at' s (.inr c) s1 e1 hb
  exact h1.seq ((kg c).at' s1 o s' e h1.bnd) fun t t1 q=>by rw[q];rfl⟩
theorem QB {α:Type}(c:List PanicEntry):Loc (fun s=>R.pan c s:M α):=⟨fun s o s' h hb=>by
 obtain⟨rfl,rfl⟩:=H0 h
 exact .quiet hb fun t _=>rfl⟩
theorem Vs {α:Type}:Loc (fun _=>R.none:M α):=⟨fun s o s' h hb=>(Ba h).elim⟩
theorem Ai {α β:Type}{m:M α}{f:α→M β}(h:Loc m)(k: ∀a,Loc (f a)):Loc (M.bind m f):=IU h k fun c=>QB c
theorem Fr {α:Type}{m:M α}(h:Loc m):Loc (noP m):=IU h (fun a=>AC a) fun _=>Vs
theorem AL {α:Type}(b:Bool){m:M α}(h:Loc m):Loc (M.chk b m):=by
 cases b with
 |false=>exact AD
 |true=>exact h
theorem AT {α:Type}(b:Bool){m n:M α}(h:Loc m)(k:Loc n):Loc (M.if b m n):=by cases b<;>assumption
theorem AH {α β:Type}(x:Option α){f:α→M β}(k: ∀a,Loc (f a)):Loc (M.on x f):=by
 cases x with
 |none=>exact AD
 |some a=>exact k a
theorem AO {α:Type}(n:Nat){f:Nat→M α}(k: ∀a,Loc (f a)):Loc (fN n f):=by rw[AY];exact k _
theorem AZ {α:Type}(n:Int){f:Int→M α}(k: ∀a,Loc (f a)):Loc (fI n f):=by rw[Ea];exact k _
theorem AP {α:Type}(n:Addr){f:Addr→M α}(k: ∀a,Loc (f a)):Loc (fA n f):=by rw[CU];exact k _
theorem AX {α:Type}(v:Value){f:IntKind→Int→M α}{d:M α}(h: ∀k n,Loc (f k n))(k:Loc d):Loc (CI v f d):=by
 cases v<;>first|exact h _ _|exact k
theorem AV {α:Type}(b:Bool){m n:M α}(h:Loc m)(k:Loc n):Loc (Bool.rec (motive:=fun _=>M α) m n b):=by cases b<;>assumption
theorem AN {α β:Type}(x:Option α){m:M β}{f:α→M β}(h:Loc m)(k: ∀a,Loc (f a)):Loc (Option.rec (motive:=fun _=>M β) m (fun a=>f a) x):=by
 cases x with
 |none=>exact h
 |some a=>exact k a
theorem Nf (loc lim:Nat)(l:List Nat):notes loc lim l=if loc<lim then loc::l else l:=by
 unfold notes
 cases h:Nat.blt loc lim with
 |true=>rw[if_pos (BR h)]
 |false=>rw[if_neg];intro h2;rw[show Nat.blt loc lim=true from Nat.ble_eq_true_of_le h2]at h;cases h
theorem Eu (loc lim:Nat)(l:List Nat):notes loc lim l=notes loc lim []++l:=by
 rw[Nf,Nf]
 split<;>rfl
theorem Qc {loc lim:Nat}(h:loc<lim):loc∈notes loc lim []:=by rw[Nf,if_pos h];exact List.mem_cons_self
theorem Z0 (loc:Nat)(s:St):rdC loc s=if loc<s.next then match T.get s.mem loc with|none=> .none|some c=> .some c ⟨s.mem,s.next,s.lim,notes loc s.lim s.rd,s.wr,s.cx⟩else .none:=by
 obtain⟨mem,next,lim,rd,wr,cx⟩:=s
 unfold rdC
 simp only
 cases hb:Nat.blt loc next with
 |false=>rw[if_neg];intro h2;rw[show Nat.blt loc next=true from Nat.ble_eq_true_of_le h2]at hb;cases hb
 |true=>
  rw[if_pos (BR hb)]
  cases T.get mem loc<;>rfl
theorem X5 (loc:Nat)(c:Cell)(s:St):wrC loc c s=if loc<s.next then .some () ⟨T.set s.mem loc c,s.next,s.lim,s.rd,notes loc s.lim s.wr,s.cx⟩else .none:=by
 obtain⟨mem,next,lim,rd,wr,cx⟩:=s
 unfold wrC
 obtain⟨v,l,r,e⟩:=T.set_N mem loc c
 simp only[e]
 cases hb:Nat.blt loc next with
 |false=>rw[if_neg];intro h2;rw[show Nat.blt loc next=true from Nat.ble_eq_true_of_le h2]at hb;cases hb
 |true=>rw[if_pos (BR hb)]
theorem Uc (loc:Nat)(s:St):delC loc s=if loc<s.next then .some () ⟨T.del s.mem loc,s.next,s.lim,s.rd,notes loc s.lim s.wr,s.cx⟩else .none:=by
 obtain⟨mem,next,lim,rd,wr,cx⟩:=s
 unfold delC
 simp only
 cases hb:Nat.blt loc next with
 |false=>rw[if_neg];intro h2;rw[show Nat.blt loc next=true from Nat.ble_eq_true_of_le h2]at hb;cases hb
 |true=>rw[if_pos (BR hb)]
theorem Tb (vs:List Value)(s:St):newL vs s= .some s.next ⟨layL s.next vs s.next s.mem,s.next+vs.length+1,s.lim,s.rd,s.wr,s.cx⟩:=by
 obtain⟨mem,next,lim,rd,wr,cx⟩:=s
 have h0:newL vs ⟨mem,next,lim,rd,wr,cx⟩=fN next fun b=>fN (Nat.succ (Nat.add b vs.length)) fun n=>R.some b (St.mk (layL b vs b mem) n lim rd wr cx):=rfl
 rw[h0,AY,AY]
 rfl
theorem S0 (o:AObj)(s:St):newO o s= .some s.next ⟨T.set s.mem s.next (.O o),s.next+1,s.lim,s.rd,s.wr,s.cx⟩:=by
 obtain⟨mem,next,lim,rd,wr,cx⟩:=s
 have h0:newO o ⟨mem,next,lim,rd,wr,cx⟩=fN next fun b=>fN (Nat.succ b) fun n=>R.some b (St.mk (T.set mem b (.O o)) n lim rd wr cx):=rfl
 rw[h0,AY,AY]
theorem CW (loc:Nat):Loc (rdC loc):=⟨fun s o s' h hb=>by
 rw[Z0]at h
 split at h
 case isFalse=>exact(Ba h).elim
 case isTrue hl=>
  cases e:T.get s.mem loc with
  |none=>rw[e]at h;exact(Ba h).elim
  |some c=>
   rw[e]at h
   obtain⟨rfl,rfl⟩:=BD h
   refine⟨fun l=>l=loc,fun _=>False,notes loc s.lim [],[],⟨Eu _ _ _,rfl,Nat.le_refl _,rfl,hb,fun l e1=>by rw[e1];exact hl,fun _ e=>e.elim,fun _ _=>rfl,fun t e1 e2 e3 e4=> ?_⟩,fun l e1 e2=> ?_,fun _ e=>e.elim⟩
   ·refine⟨⟨t.mem,t.next,t.lim,notes loc t.lim t.rd,t.wr,t.cx⟩, ?_,e1,e2,e3, ?_,rfl,fun _ e=>e.elim,fun _ _=>rfl⟩
    ·rw[Z0,if_pos (by rw[e1];exact hl),e4 loc (.inl rfl),e];rfl
    ·rw[←e2];exact Eu _ _ _
   ·rw[e1];exact Qc (by rw[←e1];exact e2)⟩
theorem CG (loc:Nat)(c:Cell):Loc (wrC loc c):=⟨fun s o s' h hb=>by
 rw[X5]at h
 split at h
 case isFalse=>exact(Ba h).elim
 case isTrue hl=>
  obtain⟨rfl,rfl⟩:=BD h
  refine⟨fun _=>False,fun l=>l=loc,[],notes loc s.lim [],⟨rfl,Eu _ _ _,Nat.le_refl _,rfl,hb,fun _ e=>e.elim,fun l e1=>by rw[e1];exact hl,fun l e=> ?_,fun t e1 e2 e3 e4=> ?_⟩,fun _ e=>e.elim,fun l e1 e2=> ?_⟩
  ·simp only[T.get_set,if_neg e]
  ·refine⟨⟨T.set t.mem loc c,t.next,t.lim,t.rd,notes loc t.lim t.wr,t.cx⟩, ?_,e1,e2,e3,rfl, ?_,fun l e=> ?_,fun l e=> ?_⟩
   ·rw[X5,if_pos (by rw[e1];exact hl)];rfl
   ·rw[←e2];exact Eu _ _ _
   ·simp only[T.get_set,if_pos e]
   ·simp only[T.get_set,if_neg e]
  ·rw[e1];exact Qc (by rw[←e1];exact e2)⟩
theorem CA_ (loc:Nat):Loc (delC loc):=⟨fun s o s' h hb=>by
 rw[Uc]at h
 split at h
 case isFalse=>exact(Ba h).elim
 case isTrue hl=>
  obtain⟨rfl,rfl⟩:=BD h
  refine⟨fun _=>False,fun l=>l=loc,[],notes loc s.lim [],⟨rfl,Eu _ _ _,Nat.le_refl _,rfl,hb,fun _ e=>e.elim,fun l e1=>by rw[e1];exact hl,fun l e=> ?_,fun t e1 e2 e3 e4=> ?_⟩,fun _ e=>e.elim,fun l e1 e2=> ?_⟩
  ·simp only[T.get_del,if_neg e]
  ·refine⟨⟨T.del t.mem loc,t.next,t.lim,t.rd,notes loc t.lim t.wr,t.cx⟩, ?_,e1,e2,e3,rfl, ?_,fun l e=> ?_,fun l e=> ?_⟩
   ·rw[Uc,if_pos (by rw[e1];exact hl)];rfl
   ·rw[←e2];exact Eu _ _ _
   ·simp only[T.get_del,if_pos e]
   ·simp only[T.get_del,if_neg e]
  ·rw[e1];exact Qc (by rw[←e1];exact e2)⟩
theorem JQ (b:Nat): ∀(vs:List Value) (loc:Nat) (t:T Cell) (k:Nat),T.get (layL b vs loc t) k=if loc≤k∧k<loc+vs.length then(vs[k-loc]?).map (.C b)else T.get t k
 |[],loc,t,k=>by rw[if_neg (fun e=>by have:=e.2;simp at this;omega)];rfl
 |v::vs,loc,t,k=>by
  have h0:layL b (v::vs) loc t=fN loc fun loc=>layL b vs (Nat.succ loc) (T.set t loc (.C b v)):=rfl
  rw[h0,AY,JQ b vs]
  by_cases h1:loc=k
  ·subst h1
   rw[if_neg (by omega),if_pos (by simp),T.get_set,if_pos rfl]
   simp
  ·by_cases h2:loc≤k∧k<loc+(v::vs).length
   ·have h3:k-loc=(k-Nat.succ loc)+1:=by omega
    rw[if_pos h2,if_pos (by simp at h2 ⊢;omega),h3,List.getElem?_cons_succ]
   ·rw[if_neg h2,if_neg (by simp at h2 ⊢;omega),T.get_set,if_neg (fun e=>h1 e.symm)]
theorem GQ (vs:List Value):Loc (newL vs):=⟨fun s o s' h hb=>by
 rw[Tb]at h
 obtain⟨rfl,rfl⟩:=BD h
 refine⟨fun _=>False,fun l=>s.next≤l∧l<s.next+vs.length,[],[],⟨rfl,rfl,by show s.next≤s.next+vs.length+1;omega,rfl, ?_,fun _ e=>e.elim,fun l e=> ?_,fun l e=> ?_,fun t e1 e2 e3 e4=> ?_⟩,fun _ e=>e.elim,fun l e1 e2=> ?_⟩
 ·show s.lim≤s.next+vs.length+1
  unfold Bnd at hb;omega
 ·show l<s.next+vs.length+1
  omega
 ·simp only[JQ,if_neg e]
 ·refine⟨⟨layL t.next vs t.next t.mem,t.next+vs.length+1,t.lim,t.rd,t.wr,t.cx⟩, ?_,by rw[e1],e2,e3,rfl,rfl,fun l e=> ?_,fun l e=> ?_⟩
  ·rw[Tb,e1];rfl
  ·simp only[JQ,e1,if_pos e]
  ·simp only[JQ,e1,if_neg e]
 ·unfold Bnd at hb;omega⟩
theorem Ge (x:AObj):Loc (newO x):=⟨fun s o s' h hb=>by
 rw[S0]at h
 obtain⟨rfl,rfl⟩:=BD h
 refine⟨fun _=>False,fun l=>l=s.next,[],[],⟨rfl,rfl,by show s.next≤s.next+1;omega,rfl, ?_,fun _ e=>e.elim,fun l e=> ?_,fun l e=> ?_,fun t e1 e2 e3 e4=> ?_⟩,fun _ e=>e.elim,fun l e1 e2=> ?_⟩
 ·show s.lim≤s.next+1
  unfold Bnd at hb;omega
 ·show l<s.next+1
  omega
 ·simp only[T.get_set,if_neg e]
 ·refine⟨⟨T.set t.mem t.next (.O x),t.next+1,t.lim,t.rd,t.wr,t.cx⟩, ?_,by rw[e1],e2,e3,rfl,rfl,fun l e=> ?_,fun l e=> ?_⟩
  ·rw[S0,e1];rfl
  ·simp only[T.get_set,e1,if_pos e]
  ·simp only[T.get_set,e1,if_neg e]
 ·unfold Bnd at hb;omega⟩
theorem Ji:Loc getCx:=⟨fun s o s' h hb=>by
 obtain⟨rfl,rfl⟩:=BD (show R.some s.cx s=rOf o s' from h)
 exact .quiet hb fun t e=>by rw[←e];rfl⟩
theorem Kv (x:Ctx):Loc (putCx x):=⟨fun s o s' h hb=>by
 obtain⟨rfl,rfl⟩:=BD (show R.some () (St.mk s.mem s.next s.lim s.rd s.wr x)=rOf o s' from h)
 exact⟨fun _=>False,fun _=>False,[],[],⟨rfl,rfl,Nat.le_refl _,rfl,hb,fun _ e=>e.elim,fun _ e=>e.elim,fun _ _=>rfl,
  fun t e1 e2 e3 _=>⟨St.mk t.mem t.next t.lim t.rd t.wr x,rfl,e1,e2,rfl,rfl,rfl,fun _ e=>e.elim,fun _ _=>rfl⟩⟩,fun _ e=>e.elim,fun _ e=>e.elim⟩⟩
theorem T7 (a:Addr):Loc (rdV a):=by
 obtain⟨b,o,s⟩:=a
 cases s with
 |some x=>exact AD
 |none=>exact Ai (CW _) fun c=>AQ _
theorem BE_ (a:Addr)(v:Value):Loc (wrV a v):=by
 obtain⟨b,o,s⟩:=a
 cases s with
 |some x=>exact AD
 |none=>exact Ai (CW _) fun c=>AL _ (CG _ _)
theorem Ed: ∀(n:Nat) (a:Addr),Loc (rdL n a)
 |0,_=>AC _
 |n+1,a=>by
  have h0:rdL (n+1) a=fA a fun a=>M.bind (rdV a) fun v=>M.bind (rdL n ⟨a.block,Nat.succ a.off,a.spot⟩) fun l=>M.pure (v::l):=rfl
  rw[h0]
  exact AP _ fun a=>Ai (T7 a) fun v=>Ai (Ed n _) fun l=>AC _
theorem IC: ∀(vs:List Value) (a:Addr),Loc (wrL vs a)
 |[],_=>AC _
 |v::vs,a=>by
  have h0:wrL (v::vs) a=fA a fun a=>M.bind (wrV a v) fun _=>wrL vs ⟨a.block,Nat.succ a.off,a.spot⟩:=rfl
  rw[h0]
  exact AP _ fun a=>Ai (BE_ a v) fun v=>IC vs _
theorem OJ: ∀(n l:Nat),Loc (CO n l)
 |0,_=>AC _
 |n+1,l=>by
  have h0:CO (n+1) l=M.bind (delC l) fun _=>CO n (l+1):=rfl
  rw[h0]
  exact Ai (CA_ l) fun _=>OJ n _
theorem BI (x0:_)(x1:_):Loc (ti x0 x1):=by
 unfold ti
 repeat' (first|exact AC _|exact AD|exact AQ _|apply Ai|apply AL|apply AT|apply AH|apply AO|apply AZ|apply AP|apply AX|apply AV|apply AN|intro _|split)
theorem Jl (x0:_):Loc (pV x0):=by
 unfold pV
 repeat' (first|exact AC _|exact AD|exact AQ _|apply Ai|apply AL|apply AT|apply AH|apply AO|apply AZ|apply AP|apply AX|apply AV|apply AN|intro _|split)
theorem VA_ (x0:_)(x1:_)(x2:_)(x3:_)(x4:_):Loc (FA x0 x1 x2 x3 x4):=by
 unfold FA
 repeat' (first|exact AC _|exact AD|exact AQ _|exact BI _ _|apply Ai|apply AL|apply AT|apply AH|apply AO|apply AZ|apply AP|apply AX|apply AV|apply AN|intro _|split)
theorem He_ (x0:_)(x1:_):Loc (GE x0 x1):=by
 unfold GE
 repeat' (first|exact AC _|exact AD|exact AQ _|apply Ai|apply AL|apply AT|apply AH|apply AO|apply AZ|apply AP|apply AX|apply AV|apply AN|intro _|split)
theorem LO_ (x0:_)(x1:_)(x2:_):Loc (GT x0 x1 x2):=by
 unfold GT
 repeat' (first|exact AC _|exact AD|exact AQ _|exact He_ _ _|apply Ai|apply AL|apply AT|apply AH|apply AO|apply AZ|apply AP|apply AX|apply AV|apply AN|intro _|split)
theorem Ti_ (x0:_)(x1:_)(x2:_)(x3:_)(x4:_)(x5:_)(x6:_):Loc (Bx x0 x1 x2 x3 x4 x5 x6):=by
 unfold Bx
 repeat' (first|exact AC _|exact AD|exact AQ _|exact LO_ _ _ _|exact VA_ _ _ _ _ _|exact Jl _|apply Ai|apply AL|apply AT|apply AH|apply AO|apply AZ|apply AP|apply AX|apply AV|apply AN|intro _|split)
theorem Rj_ (x0:_):Loc (lenOf x0):=by
 unfold lenOf
 repeat' (first|exact AC _|exact AD|exact AQ _|apply Ai|apply AL|apply AT|apply AH|apply AO|apply AZ|apply AP|apply AX|apply AV|apply AN|intro _|split)
theorem VE (x0:_)(x1:_)(x2:_):Loc (D2 x0 x1 x2):=by
 unfold D2
 repeat' (first|exact AC _|exact AD|exact AQ _|exact BI _ _|exact Ed _ _|exact T7 _|apply Ai|apply AL|apply AT|apply AH|apply AO|apply AZ|apply AP|apply AX|apply AV|apply AN|intro _|split)
theorem VE_ (x0:_)(x1:_)(x2:_)(x3:_):Loc (Ht x0 x1 x2 x3):=by
 unfold Ht
 repeat' (first|exact AC _|exact AD|exact AQ _|exact BI _ _|exact IC _ _|apply Ai|apply AL|apply AT|apply AH|apply AO|apply AZ|apply AP|apply AX|apply AV|apply AN|intro _|split)
theorem Ho (x0:_):Loc (asA x0):=by
 unfold asA
 repeat' (first|exact AC _|exact AD|exact AQ _|apply Ai|apply AL|apply AT|apply AH|apply AO|apply AZ|apply AP|apply AX|apply AV|apply AN|intro _|split)
theorem KD (x0:_)(x1:_)(x2:_):Loc (bnd x0 x1 x2):=by
 unfold bnd
 repeat' (first|exact AC _|exact AD|exact AQ _|apply Ai|apply AL|apply AT|apply AH|apply AO|apply AZ|apply AP|apply AX|apply AV|apply AN|intro _|split)
theorem PU (x0:_):Loc (ptrA x0):=by
 unfold ptrA
 repeat' (first|exact AC _|exact AD|exact AQ _|apply Ai|apply AL|apply AT|apply AH|apply AO|apply AZ|apply AP|apply AX|apply AV|apply AN|intro _|split)
theorem Ju (x0:_)(x1:_)(x2:_):Loc (pSl x0 x1 x2):=by
 unfold pSl
 repeat' (first|exact AC _|exact AD|exact AQ _|apply Ai|apply AL|apply AT|apply AH|apply AO|apply AZ|apply AP|apply AX|apply AV|apply AN|intro _|split)
theorem LX (x0:_):Loc (pN x0):=by
 unfold pN
 repeat' (first|exact AC _|exact AD|exact AQ _|apply Ai|apply AL|apply AT|apply AH|apply AO|apply AZ|apply AP|apply AX|apply AV|apply AN|intro _|split)
theorem ME_ (x0:_)(x1:_)(x2:_)(x3:_)(x4:_):Loc (FE x0 x1 x2 x3 x4):=by
 unfold FE
 repeat' (first|exact AC _|exact AD|exact AQ _|exact Ju _ _ _|exact KD _ _ _|apply Ai|apply AL|apply AT|apply AH|apply AO|apply AZ|apply AP|apply AX|apply AV|apply AN|intro _|split)
theorem PE_ (x0:_)(x1:_)(x2:_)(x3:_)(x4:_)(x5:_):Loc (slSl x0 x1 x2 x3 x4 x5):=by
 unfold slSl
 repeat' (first|exact AC _|exact AD|exact AQ _|exact Ju _ _ _|exact KD _ _ _|apply Ai|apply AL|apply AT|apply AH|apply AO|apply AZ|apply AP|apply AX|apply AV|apply AN|intro _|split)
theorem KF_ (x0:_)(x1:_)(x2:_):Loc (GR x0 x1 x2):=by
 unfold GR
 repeat' (first|exact AC _|exact AD|exact AQ _|exact KD _ _ _|apply Ai|apply AL|apply AT|apply AH|apply AO|apply AZ|apply AP|apply AX|apply AV|apply AN|intro _|split)
theorem Tw_ (x0:_)(x1:_)(x2:_)(x3:_)(x4:_):Loc (BW x0 x1 x2 x3 x4):=by
 unfold BW
 repeat' (first|exact AC _|exact AD|exact AQ _|exact KF_ _ _ _|exact PE_ _ _ _ _ _ _|exact ME_ _ _ _ _ _|exact KD _ _ _|exact BI _ _|apply Ai|apply AL|apply AT|apply AH|apply AO|apply AZ|apply AP|apply AX|apply AV|apply AN|intro _|split)
theorem XR (x0:_)(x1:_)(x2:_):Loc (srcL x0 x1 x2):=by
 unfold srcL
 repeat' (first|exact AC _|exact AD|exact AQ _|exact Ed _ _|apply Ai|apply AL|apply AT|apply AH|apply AO|apply AZ|apply AP|apply AX|apply AV|apply AN|intro _|split)
theorem Cj_ (x0:_)(x1:_)(x2:_):Loc (appN x0 x1 x2):=by
 unfold appN
 repeat' (first|exact AC _|exact AD|exact AQ _|apply Ai|apply AL|apply AT|apply AH|apply AO|apply AZ|apply AP|apply AX|apply AV|apply AN|intro _|split)
theorem Qb_ (x0:_)(x1:_)(x2:_)(x3:_):Loc (appL x0 x1 x2 x3):=by
 unfold appL
 repeat' (first|exact AC _|exact AD|exact AQ _|exact XR _ _ _|apply Ai|apply AL|apply AT|apply AH|apply AO|apply AZ|apply AP|apply AX|apply AV|apply AN|intro _|split)
theorem LJ_ (x0:_)(x1:_)(x2:_):Loc (oldL x0 x1 x2):=by
 unfold oldL
 repeat' (first|exact AC _|exact AD|exact AQ _|exact Ed _ _|apply Ai|apply AL|apply AT|apply AH|apply AO|apply AZ|apply AP|apply AX|apply AV|apply AN|intro _|split)
theorem Gi_ (x0:_)(x1:_)(x2:_):Loc (E6 x0 x1 x2):=by
 unfold E6
 repeat' (first|exact AC _|exact AD|exact AQ _|exact OJ _ _|apply Ai|apply AL|apply AT|apply AH|apply AO|apply AZ|apply AP|apply AX|apply AV|apply AN|intro _|split)
theorem Mw_ (x0:_)(x1:_)(x2:_)(x3:_):Loc (Df x0 x1 x2 x3):=by
 unfold Df
 repeat' (first|exact AC _|exact AD|exact AQ _|exact Gi_ _ _ _|exact CG _ _|exact CW _|apply Ai|apply AL|apply AT|apply AH|apply AO|apply AZ|apply AP|apply AX|apply AV|apply AN|intro _|split)
theorem RM_ (x0:_)(x1:_)(x2:_)(x3:_)(x4:_)(x5:_)(x6:_)(x7:_):Loc (grow x0 x1 x2 x3 x4 x5 x6 x7):=by
 unfold grow
 repeat' (first|exact AC _|exact AD|exact AQ _|exact Mw_ _ _ _ _|exact LJ_ _ _ _|exact Ju _ _ _|exact GQ _|exact CG _ _|apply Ai|apply AL|apply AT|apply AH|apply AO|apply AZ|apply AP|apply AX|apply AV|apply AN|intro _|split)
theorem Nh_ (x0:_)(x1:_)(x2:_)(x3:_)(x4:_)(x5:_):Loc (Fu x0 x1 x2 x3 x4 x5):=by
 unfold Fu
 repeat' (first|exact AC _|exact AD|exact AQ _|exact Ju _ _ _|exact IC _ _|apply Ai|apply AL|apply AT|apply AH|apply AO|apply AZ|apply AP|apply AX|apply AV|apply AN|intro _|split)
theorem HA_ (x0:_)(x1:_)(x2:_)(x3:_)(x4:_):Loc (CS x0 x1 x2 x3 x4):=by
 unfold CS
 repeat' (first|exact AC _|exact AD|exact AQ _|exact Nh_ _ _ _ _ _ _|exact RM_ _ _ _ _ _ _ _ _|exact Qb_ _ _ _ _|exact Cj_ _ _ _|exact BI _ _|apply Ai|apply AL|apply AT|apply AH|apply AO|apply AZ|apply AP|apply AX|apply AV|apply AN|intro _|split)
theorem Hs_ (x0:_)(x1:_)(x2:_):Loc (Cn x0 x1 x2):=by
 unfold Cn
 repeat' (first|exact AC _|exact AD|exact AQ _|exact BI _ _|apply Ai|apply AL|apply AT|apply AH|apply AO|apply AZ|apply AP|apply AX|apply AV|apply AN|intro _|split)
theorem Sd_ (x0:_)(x1:_)(x2:_)(x3:_):Loc (BX x0 x1 x2 x3):=by
 unfold BX
 repeat' (first|exact AC _|exact AD|exact AQ _|exact BI _ _|exact GQ _|exact CG _ _|apply Ai|apply AL|apply AT|apply AH|apply AO|apply AZ|apply AP|apply AX|apply AV|apply AN|intro _|split)
theorem NE (x0:_)(x1:_)(x2:_)(x3:_):Loc (DC x0 x1 x2 x3):=by
 unfold DC
 repeat' (first|exact AC _|exact AD|exact AQ _|exact BI _ _|apply Ai|apply AL|apply AT|apply AH|apply AO|apply AZ|apply AP|apply AX|apply AV|apply AN|intro _|split)
theorem Gg_ (x0:_)(x1:_)(x2:_)(x3:_)(x4:_):Loc (Fk x0 x1 x2 x3 x4):=by
 unfold Fk
 repeat' (first|exact AC _|exact AD|exact AQ _|exact XR _ _ _|exact LX _|exact Rj_ _|exact BI _ _|exact IC _ _|apply Ai|apply AL|apply AT|apply AH|apply AO|apply AZ|apply AP|apply AX|apply AV|apply AN|intro _|split)
theorem G9 (x0:_):Loc (CM x0):=by
 unfold CM
 repeat' (first|exact AC _|exact AD|exact AQ _|exact CW _|apply Ai|apply AL|apply AT|apply AH|apply AO|apply AZ|apply AP|apply AX|apply AV|apply AN|intro _|split)
theorem HK_ (x0:_):Loc (Hw x0):=by
 unfold Hw
 repeat' (first|exact AC _|exact AD|exact AQ _|exact G9 _|exact LX _|apply Ai|apply AL|apply AT|apply AH|apply AO|apply AZ|apply AP|apply AX|apply AV|apply AN|intro _|split)
theorem Ef_ (x0:_)(x1:_)(x2:_):Loc (aLen x0 x1 x2):=by
 unfold aLen
 repeat' (first|exact AC _|exact AD|exact AQ _|exact HK_ _|exact LX _|exact BI _ _|apply Ai|apply AL|apply AT|apply AH|apply AO|apply AZ|apply AP|apply AX|apply AV|apply AN|intro _|split)
theorem Ng_ (x0:_)(x1:_)(x2:_):Loc (aCap x0 x1 x2):=by
 unfold aCap
 repeat' (first|exact AC _|exact AD|exact AQ _|exact LX _|exact BI _ _|apply Ai|apply AL|apply AT|apply AH|apply AO|apply AZ|apply AP|apply AX|apply AV|apply AN|intro _|split)
theorem WA_ (x0:_)(x1:_)(x2:_):Loc (FU x0 x1 x2):=by
 unfold FU
 repeat' (first|exact AC _|exact AD|exact AQ _|exact BI _ _|exact IC _ _|apply Ai|apply AL|apply AT|apply AH|apply AO|apply AZ|apply AP|apply AX|apply AV|apply AN|intro _|split)
theorem TS (x0:_):Loc (zeroV x0):=by
 unfold zeroV
 repeat' (first|exact AC _|exact AD|exact AQ _|apply Ai|apply AL|apply AT|apply AH|apply AO|apply AZ|apply AP|apply AX|apply AV|apply AN|intro _|split)
theorem FK (E:_)(e:_)(t:_)(k:_)(es:_):Loc (Dh E e t k es):=AL _ (AH _ fun _=>AC _)
theorem QU (x0:_)(x1:_)(x2:_):Loc (Er x0 x1 x2):=by
 unfold Er
 repeat' (first|exact AC _|exact AD|exact AQ _|apply Ai|apply AL|apply AT|apply AH|apply AO|apply AZ|apply AP|apply AX|apply AV|apply AN|intro _|split)
theorem PI (x0:_)(x1:_):Loc (zeroOf x0 x1):=by
 unfold zeroOf
 repeat' (first|exact AC _|exact AD|exact AQ _|exact TS _|exact BI _ _|apply Ai|apply AL|apply AT|apply AH|apply AO|apply AZ|apply AP|apply AX|apply AV|apply AN|intro _|split)
theorem LY_ (E:_)(a:_)(b:_)(k:_)(c:_):Loc (Ra E a b k c):=Ai (FK _ _ _ _ _) fun r=>by
 cases r with
 |none=>exact Ai (PI _ _) fun _=>QU _ _ _
 |some j=>exact AD
theorem LM_ (E:_)(a:_)(b:_)(k:_)(c:_)(es:_):Loc (M5 E a b k c es):=Ai (FK _ _ _ _ _) fun r=>by
 cases r with
 |none=>exact Ai (PI _ _) fun _=>QU _ _ _
 |some j=>exact AH _ fun _=>QU _ _ _
theorem Jx (x0:_)(x1:_):Loc (mapT x0 x1):=by
 unfold mapT
 repeat' (first|exact AC _|exact AD|exact AQ _|exact BI _ _|apply Ai|apply AL|apply AT|apply AH|apply AO|apply AZ|apply AP|apply AX|apply AV|apply AN|intro _|split)
theorem Cn_ (E:_)(t:_)(c:_)(x:_)(k:_):Loc (Ib E t c x k):=Ai (Jx _ _) fun ke=>by
 cases x with
 |map m=>
  cases m with
  |none=>exact LY_ _ _ _ _ _
  |some l=>exact Ai (G9 _) fun p=>LM_ _ _ _ _ _ _
 |_=>exact AD
theorem JH_ (E:_)(t:_)(k:_)(x:_)(l:_)(p:_):Loc (putE E t k x l p):=Ai (FK _ _ _ _ _) fun r=>by
 cases r with
 |none=>exact CG _ _
 |some j=>exact AH _ fun _=>AL _ (CG _ _)
theorem ZS (E:_)(t:_)(m:_)(k:_)(x:_):Loc (Fp E t m k x):=Ai (Jx _ _) fun ke=>by
 cases m with
 |map m=>
  cases m with
  |none=>exact AD
  |some l=>exact Ai (G9 _) fun p=>Ai (JH_ _ _ _ _ _ _) fun _=>AC _
 |_=>exact AD
theorem KB_ (E:_)(a:_)(b:_)(k:_)(l:_)(p:_):Loc (entE E a b k l p):=Ai (FK _ _ _ _ _) fun r=>by
 cases r with
 |none=>exact Ai (PI _ _) fun _=>Ai (CG _ _) fun _=>AC _
 |some j=>exact AH _ fun _=>AL _ (Ai (CG _ _) fun _=>AC _)
theorem Wc_ (E:_)(t:_)(m:_)(k:_):Loc (IS E t m k):=Ai (Jx _ _) fun ke=>by
 cases m with
 |map m=>
  cases m with
  |none=>exact AD
  |some l=>exact Ai (G9 _) fun p=>KB_ _ _ _ _ _ _
 |_=>exact AD
theorem Fp_ (x0:_)(x1:_)(x2:_):Loc (ER x0 x1 x2):=by
 unfold ER
 repeat' (first|exact AC _|exact AD|exact AQ _|exact G9 _|exact CG _ _|apply Ai|apply AL|apply AT|apply AH|apply AO|apply AZ|apply AP|apply AX|apply AV|apply AN|intro _|split)
theorem XZ:Loc (D1):=by
 unfold D1
 repeat' (first|exact AC _|exact AD|exact AQ _|exact Ge _|apply Ai|apply AL|apply AT|apply AH|apply AO|apply AZ|apply AP|apply AX|apply AV|apply AN|intro _|split)
theorem ER_ (x0:_)(x1:_)(x2:_):Loc (E8 x0 x1 x2):=by
 unfold E8
 repeat' (first|exact AC _|exact AD|exact AQ _|exact XZ|exact Jx _ _|apply Ai|apply AL|apply AT|apply AH|apply AO|apply AZ|apply AP|apply AX|apply AV|apply AN|intro _|split)
theorem Ee_ (E:_)(t:_)(m:_)(k:_):Loc (kDel E t m k):=Ai (Jx _ _) fun ke=>by
 cases m with
 |map m=>
  cases m with
  |none=>exact Ai (FK _ _ _ _ _) fun _=>AC _
  |some l=>exact Ai (G9 _) fun p=>Ai (FK _ _ _ _ _) fun r=>by cases r<;>exact Ai (CG _ _) fun _=>AC _
 |_=>exact AD
theorem Gn_ (x0:_)(x1:_)(x2:_)(x3:_):Loc (A6 x0 x1 x2 x3):=by
 unfold A6
 repeat' (first|exact AC _|exact AD|exact AQ _|exact Ee_ _ _ _ _|exact WA_ _ _ _|exact Ng_ _ _ _|exact Ef_ _ _ _|exact Gg_ _ _ _ _ _|exact HA_ _ _ _ _ _|exact Jl _|apply Ai|apply AL|apply AT|apply AH|apply AO|apply AZ|apply AP|apply AX|apply AV|apply AN|intro _|split)
theorem TT_ (x0:_)(x1:_)(x2:_)(x3:_):Loc (idxN x0 x1 x2 x3):=by
 unfold idxN
 repeat' (first|exact AC _|exact AD|exact AQ _|exact PU _|exact BI _ _|apply Ai|apply AL|apply AT|apply AH|apply AO|apply AZ|apply AP|apply AX|apply AV|apply AN|intro _|split)
theorem NF (x0:_):Loc (asN x0):=by
 unfold asN
 repeat' (first|exact AC _|exact AD|exact AQ _|apply Ai|apply AL|apply AT|apply AH|apply AO|apply AZ|apply AP|apply AX|apply AV|apply AN|intro _|split)
theorem QX_ (x0:_)(x1:_)(x2:_):Loc (Cw x0 x1 x2):=by
 unfold Cw
 repeat' (first|exact AC _|exact AD|exact AQ _|apply Ai|apply AL|apply AT|apply AH|apply AO|apply AZ|apply AP|apply AX|apply AV|apply AN|intro _|split)
theorem ZN (x0:_):Loc (ptrN x0):=by
 unfold ptrN
 repeat' (first|exact AC _|exact AD|exact AQ _|apply Ai|apply AL|apply AT|apply AH|apply AO|apply AZ|apply AP|apply AX|apply AV|apply AN|intro _|split)
theorem Ns_ (x0:_)(x1:_):Loc (BH x0 x1):=by
 unfold BH
 repeat' (first|exact AC _|exact AD|exact AQ _|exact ZN _|exact BI _ _|exact GQ _|apply Ai|apply AL|apply AT|apply AH|apply AO|apply AZ|apply AP|apply AX|apply AV|apply AN|intro _|split)
theorem Oq_ (x0:_):Loc (kBox x0):=by
 unfold kBox
 repeat' (first|exact AC _|exact AD|exact AQ _|exact ZN _|exact GQ _|apply Ai|apply AL|apply AT|apply AH|apply AO|apply AZ|apply AP|apply AX|apply AV|apply AN|intro _|split)
theorem Cd_ (x0:_)(x1:_)(x2:_):Loc (A5 x0 x1 x2):=by
 unfold A5
 repeat' (first|exact AC _|exact AD|exact AQ _|exact Ho _|exact VE _ _ _|apply Ai|apply AL|apply AT|apply AH|apply AO|apply AZ|apply AP|apply AX|apply AV|apply AN|intro _|split)
theorem Gd_ (x0:_)(x1:_)(x2:_)(x3:_):Loc (Bo x0 x1 x2 x3):=by
 unfold Bo
 repeat' (first|exact AC _|exact AD|exact AQ _|exact Ho _|exact VE_ _ _ _ _|apply Ai|apply AL|apply AT|apply AH|apply AO|apply AZ|apply AP|apply AX|apply AV|apply AN|intro _|split)
theorem DZ_ (x0:_):Loc (kNil x0):=by
 unfold kNil
 repeat' (first|exact AC _|exact AD|exact AQ _|apply Ai|apply AL|apply AT|apply AH|apply AO|apply AZ|apply AP|apply AX|apply AV|apply AN|intro _|split)
theorem Rp_ (b:Bool):Loc (pB b):=by cases b<;>exact AC _
theorem KB (x0:_)(x1:_)(x2:_):Loc (CP x0 x1 x2):=by
 unfold CP
 repeat' (first|exact AC _|exact AD|exact AQ _|exact Jl _|apply Ai|apply AL|apply AT|apply AH|apply AO|apply AZ|apply AP|apply AX|apply AV|apply AN|intro _|split)
theorem SQ_ (P:Program)(v:Value):Loc (xorU P v):=by
 have h:=KB P .xor v
 cases v with
 |int k n=>
  cases n with
  |negSucc m=>exact KB P .xor (.int k (.negSucc m))
  |ofNat m=>
   show Loc (Option.rec (motive:=fun _=>M Value) (CP P .xor (.int k (.ofNat m))) (fun x=>M.pure x) (notK k m))
   exact AN _ (KB _ _ _) fun _=>AC _
 |_=>exact h
theorem MC_ (x0:_)(x1:_)(x2:_):Loc (kUn x0 x1 x2):=by
 unfold kUn
 repeat' (first|exact AC _|exact AD|exact AQ _|exact SQ_ _ _|exact KB _ _ _|exact Rp_ _|apply Ai|apply AL|apply AT|apply AH|apply AO|apply AZ|apply AP|apply AX|apply AV|apply AN|intro _|split)
theorem RT_ (x0:_)(x1:_):Loc (strOf x0 x1):=by
 unfold strOf
 repeat' (first|exact AC _|exact AD|exact AQ _|exact Ed _ _|apply Ai|apply AL|apply AT|apply AH|apply AO|apply AZ|apply AP|apply AX|apply AV|apply AN|intro _|split)
theorem Dp_ (x0:_)(x1:_)(x2:_)(x3:_)(x4:_):Loc (EX x0 x1 x2 x3 x4):=by
 unfold EX
 repeat' (first|exact AC _|exact AD|exact AQ _|exact RT_ _ _|exact BI _ _|apply Ai|apply AL|apply AT|apply AH|apply AO|apply AZ|apply AP|apply AX|apply AV|apply AN|intro _|split)
theorem Hw_ (x0:_)(x1:_)(x2:_)(x3:_)(x4:_):Loc (Fb x0 x1 x2 x3 x4):=by
 unfold Fb
 repeat' (first|exact AC _|exact AD|exact AQ _|exact Jl _|exact BI _ _|apply Ai|apply AL|apply AT|apply AH|apply AO|apply AZ|apply AP|apply AX|apply AV|apply AN|intro _|split)
theorem Pm (x0:_)(x1:_)(x2:_)(x3:_):Loc (D0 x0 x1 x2 x3):=by
 unfold D0
 repeat' (first|exact AC _|exact AD|exact AQ _|exact Hw_ _ _ _ _ _|exact Dp_ _ _ _ _ _|exact Jl _|apply Ai|apply AL|apply AT|apply AH|apply AO|apply AZ|apply AP|apply AX|apply AV|apply AN|intro _|split)
theorem MD_ (x0:_)(x1:_):Loc (rowN x0 x1):=by
 unfold rowN
 repeat' (first|exact AC _|exact AD|exact AQ _|exact Ju _ _ _|exact GQ _|exact CG _ _|apply Ai|apply AL|apply AT|apply AH|apply AO|apply AZ|apply AP|apply AX|apply AV|apply AN|intro _|split)
theorem HD_ (l:List UInt8):Loc (EW l):=by
 unfold EW
 rw[JP]
 exact AO _ fun n=>MD_ _ _
theorem PN_ (x0:_)(x1:_)(x2:_)(x3:_):Loc (Ha x0 x1 x2 x3):=by
 unfold Ha
 repeat' (first|exact AC _|exact AD|exact AQ _|exact HD_ _|exact Pm _ _ _ _|exact BI _ _|apply Ai|apply AL|apply AT|apply AH|apply AO|apply AZ|apply AP|apply AX|apply AV|apply AN|intro _|split)
theorem HR_ (x0:_)(x1:_)(x2:_)(x3:_)(x4:_)(x5:_):Loc (D6 x0 x1 x2 x3 x4 x5):=by
 unfold D6
 repeat' (first|exact AC _|exact AD|exact AQ _|exact Pm _ _ _ _|exact BI _ _|exact Ed _ _|exact CW _|apply Ai|apply AL|apply AT|apply AH|apply AO|apply AZ|apply AP|apply AX|apply AV|apply AN|intro _|split)
theorem Hq_ (x0:_)(x1:_)(x2:_)(x3:_):Loc (Bu x0 x1 x2 x3):=by
 unfold Bu
 repeat' (first|exact AC _|exact AD|exact AQ _|exact HR_ _ _ _ _ _ _|exact PN_ _ _ _ _|exact Pm _ _ _ _|apply Ai|apply AL|apply AT|apply AH|apply AO|apply AZ|apply AP|apply AX|apply AV|apply AN|intro _|split)
theorem Lr_ (x0:_)(x1:_):Loc (G0 x0 x1):=by
 unfold G0
 repeat' (first|exact AC _|exact AD|exact AQ _|apply Ai|apply AL|apply AT|apply AH|apply AO|apply AZ|apply AP|apply AX|apply AV|apply AN|intro _|split)
theorem SW_ (x0:_)(x1:_)(x2:_):Loc (DY x0 x1 x2):=by
 unfold DY
 repeat' (first|exact AC _|exact AD|exact AQ _|exact Lr_ _ _|exact BI _ _|apply Ai|apply AL|apply AT|apply AH|apply AO|apply AZ|apply AP|apply AX|apply AV|apply AN|intro _|split)
theorem RK_ (x0:_)(x1:_)(x2:_):Loc (E7 x0 x1 x2):=by
 unfold E7
 repeat' (first|exact AC _|exact AD|exact AQ _|exact BI _ _|apply Ai|apply AL|apply AT|apply AH|apply AO|apply AZ|apply AP|apply AX|apply AV|apply AN|intro _|split)
theorem PY_ (x0:_)(x1:_)(x2:_)(x3:_):Loc (mkSl x0 x1 x2 x3):=by
 unfold mkSl
 repeat' (first|exact AC _|exact AD|exact AQ _|exact BI _ _|exact GQ _|apply Ai|apply AL|apply AT|apply AH|apply AO|apply AZ|apply AP|apply AX|apply AV|apply AN|intro _|split)
theorem PK_ (x0:_)(x1:_)(x2:_)(x3:_):Loc (DX x0 x1 x2 x3):=by
 unfold DX
 repeat' (first|exact AC _|exact AD|exact AQ _|exact PY_ _ _ _ _|exact NF _|exact BI _ _|apply Ai|apply AL|apply AT|apply AH|apply AO|apply AZ|apply AP|apply AX|apply AV|apply AN|intro _|split)
theorem M1 (x0:_)(x1:_)(x2:_):Loc (Dk x0 x1 x2):=by
 unfold Dk
 repeat' (first|exact AC _|exact AD|exact AQ _|exact BI _ _|apply Ai|apply AL|apply AT|apply AH|apply AO|apply AZ|apply AP|apply AX|apply AV|apply AN|intro _|split)
theorem EH_ (x0:_)(x1:_)(x2:_)(x3:_):Loc (kFld x0 x1 x2 x3):=by
 unfold kFld
 repeat' (first|exact AC _|exact AD|exact AQ _|exact M1 _ _ _|exact PU _|exact Ho _|exact BI _ _|apply Ai|apply AL|apply AT|apply AH|apply AO|apply AZ|apply AP|apply AX|apply AV|apply AN|intro _|split)
theorem Sn (x0:_):Loc (asCs x0):=by
 unfold asCs
 repeat' (first|exact AC _|exact AD|exact AQ _|apply Ai|apply AL|apply AT|apply AH|apply AO|apply AZ|apply AP|apply AX|apply AV|apply AN|intro _|split)
theorem GZ_ (x0:_)(x1:_)(x2:_)(x3:_):Loc (Fh x0 x1 x2 x3):=by
 unfold Fh
 repeat' (first|exact AC _|exact AD|exact AQ _|exact Sn _|exact M1 _ _ _|exact NE _ _ _ _|exact BI _ _|apply Ai|apply AL|apply AT|apply AH|apply AO|apply AZ|apply AP|apply AX|apply AV|apply AN|intro _|split)
theorem Bn_ (x0:_)(x1:_)(x2:_)(x3:_):Loc (A9 x0 x1 x2 x3):=by
 unfold A9
 repeat' (first|exact AC _|exact AD|exact AQ _|exact NF _|exact TT_ _ _ _ _|exact BI _ _|apply Ai|apply AL|apply AT|apply AH|apply AO|apply AZ|apply AP|apply AX|apply AV|apply AN|intro _|split)
theorem Ez_ (x0:_)(x1:_)(x2:_)(x3:_):Loc (idxV x0 x1 x2 x3):=by
 unfold idxV
 repeat' (first|exact AC _|exact AD|exact AQ _|exact NE _ _ _ _|exact BI _ _|apply Ai|apply AL|apply AT|apply AH|apply AO|apply AZ|apply AP|apply AX|apply AV|apply AN|intro _|split)
theorem BU_ (x0:_)(x1:_)(x2:_)(x3:_):Loc (kIdx x0 x1 x2 x3):=by
 unfold kIdx
 repeat' (first|exact AC _|exact AD|exact AQ _|exact Ez_ _ _ _ _|exact NF _|exact BI _ _|apply Ai|apply AL|apply AT|apply AH|apply AO|apply AZ|apply AP|apply AX|apply AV|apply AN|intro _|split)
theorem CF_ (x0:_)(x1:_):Loc (kExt x0 x1):=by
 unfold kExt
 repeat' (first|exact AC _|exact AD|exact AQ _|apply Ai|apply AL|apply AT|apply AH|apply AO|apply AZ|apply AP|apply AX|apply AV|apply AN|intro _|split)
theorem Qg_ (x0:_)(x1:_)(x2:_):Loc (okV x0 x1 x2):=by
 unfold okV
 repeat' (first|exact AC _|exact AD|exact AQ _|apply Ai|apply AL|apply AT|apply AH|apply AO|apply AZ|apply AP|apply AX|apply AV|apply AN|intro _|split)
theorem UU_ (x0:_)(x1:_)(x2:_):Loc (E9 x0 x1 x2):=by
 unfold E9
 repeat' (first|exact AC _|exact AD|exact AQ _|exact BI _ _|exact Ge _|apply Ai|apply AL|apply AT|apply AH|apply AO|apply AZ|apply AP|apply AX|apply AV|apply AN|intro _|split)
theorem Oa_ (x0:_)(x1:_)(x2:_):Loc (sitN x0 x1 x2):=by
 unfold sitN
 repeat' (first|exact AC _|exact AD|exact AQ _|exact CG _ _|apply Ai|apply AL|apply AT|apply AH|apply AO|apply AZ|apply AP|apply AX|apply AV|apply AN|intro _|split)
theorem Mc_ (x0:_):Loc (Ex x0):=by
 unfold Ex
 repeat' (first|exact AC _|exact AD|exact AQ _|exact Oa_ _ _ _|exact CW _|apply Ai|apply AL|apply AT|apply AH|apply AO|apply AZ|apply AP|apply AX|apply AV|apply AN|intro _|split)
theorem FU_ (x0:_)(x1:_)(x2:_)(x3:_):Loc (Fg x0 x1 x2 x3):=by
 unfold Fg
 repeat' (first|exact AC _|exact AD|exact AQ _|exact Qg_ _ _ _|exact TS _|exact BI _ _|apply Ai|apply AL|apply AT|apply AH|apply AO|apply AZ|apply AP|apply AX|apply AV|apply AN|intro _|split)
theorem Iv_:Loc (Iv):=by
 unfold Iv
 repeat' (first|exact AC _|exact AD|exact AQ _|exact Kv _|exact Ji|apply Ai|apply AL|apply AT|apply AH|apply AO|apply AZ|apply AP|apply AX|apply AV|apply AN|intro _|split)
theorem GY_ (x0:_)(x1:_):Loc (IA x0 x1):=by
 unfold IA
 repeat' (first|exact AC _|exact AD|exact AQ _|exact Kv _|exact Ji|apply Ai|apply AL|apply AT|apply AH|apply AO|apply AZ|apply AP|apply AX|apply AV|apply AN|intro _|split)
end Go.Proofs.Ytofanlcjeohcjaa.Am
