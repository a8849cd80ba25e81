import Derived.Test.YtndednnianphoaaGreatDoorJt03
namespace Go.Proofs.YtndednnianphoaaGreatDoor.Am
structure NoPan {α:Type}(m:M α):Prop where
 no: ∀s c s',m s= .pan c s'→False
theorem AD {α:Type}(a:α):NoPan (M.pure a):=⟨fun s c s' h=>by cases h⟩
theorem AH {α:Type}:NoPan (M.fail:M α):=⟨fun s c s' h=>by cases h⟩
theorem AV {α:Type}(x:Option α):NoPan (M.ofOpt x):=⟨fun s c s' h=>by cases x<;>cases h⟩
theorem AB {α β:Type}{m:M α}{f:α→M β}(h:NoPan m)(k: ∀a,NoPan (f a)):NoPan (M.bind m f):=⟨fun s c s' e=>by
 rcases Q3 e with e|⟨a,s1,_,e⟩
 ·exact h.no _ _ _ e
 ·exact(k a).no _ _ _ e⟩
theorem AK {α:Type}(b:Bool){m:M α}(h:NoPan m):NoPan (M.chk b m):=⟨fun s c s' e=>by
 cases b with
 |false=>cases e
 |true=>exact h.no _ _ _ e⟩
theorem A3 {α:Type}(b:Bool){m n:M α}(h:NoPan m)(k:NoPan n):NoPan (M.if b m n):=by cases b<;>assumption
theorem AJ {α β:Type}(x:Option α){f:α→M β}(k: ∀a,NoPan (f a)):NoPan (M.on x f):=by
 cases x with
 |none=>exact AH
 |some a=>exact k a
theorem AS {α:Type}(n:Nat){f:Nat→M α}(k: ∀a,NoPan (f a)):NoPan (fN n f):=by rw[A7];exact k _
theorem AX {α:Type}(n:Int){f:Int→M α}(k: ∀a,NoPan (f a)):NoPan (fI n f):=by rw[Ci];exact k _
theorem AZ {α:Type}(n:Addr){f:Addr→M α}(k: ∀a,NoPan (f a)):NoPan (fA n f):=by rw[CI];exact k _
theorem A1 {α:Type}(v:Value){f:IntKind→Int→M α}{d:M α}(h: ∀k n,NoPan (f k n))(k:NoPan d):NoPan (Cj v f d):=by
 cases v<;>first|exact h _ _|exact k
theorem A2 {α:Type}(b:Bool){m n:M α}(h:NoPan m)(k:NoPan n):NoPan (Bool.rec (motive:=fun _=>M α) m n b):=by cases b<;>assumption
theorem A0 {α β:Type}(x:Option α){m:M β}{f:α→M β}(h:NoPan m)(k: ∀a,NoPan (f a)):NoPan (Option.rec (motive:=fun _=>M β) m (fun a=>f a) x):=by
 cases x with
 |none=>exact h
 |some a=>exact k a
theorem Dh (loc:Nat):NoPan (rdC loc):= .mk fun s c s' h=>by
 obtain⟨mem,next,lim,rd,wr,cx⟩:=s
 unfold rdC at h
 simp only at h
 cases hb:Nat.blt loc next<;>rw[hb]at h
 ·cases h
 ·cases e:T.get mem loc<;>rw[e]at h<;>cases h
theorem Cv (loc:Nat)(x:Cell):NoPan (wrC loc x):= .mk fun s c s' h=>by
 obtain⟨mem,next,lim,rd,wr,cx⟩:=s
 unfold wrC at h
 obtain⟨v,l,r,e⟩:=T.set_N mem loc x
 simp only[e]at h
 cases hb:Nat.blt loc next<;>rw[hb]at h<;>cases h
theorem LU_ (loc:Nat):NoPan (delC loc):= .mk fun s c s' h=>by
 obtain⟨mem,next,lim,rd,wr,cx⟩:=s
 unfold delC at h
 simp only at h
 cases hb:Nat.blt loc next<;>rw[hb]at h<;>cases h
theorem E2 (vs:List Value):NoPan (newL vs):= .mk fun s c s' h=>by
 obtain⟨mem,next,lim,rd,wr,cx⟩:=s
 have h0:newL vs ⟨mem,next,lim,rd,wr,cx⟩=fN next fun b=>fN (Nat.succ (Nat.add b vs.length)) fun n=>R.some b (St.mk (layL b vs b mem) n lim rd wr cx):=rfl
 rw[h0,A7,A7]at h
 cases h
theorem M0 (o:AObj):NoPan (newO o):= .mk fun s c s' h=>by
 obtain⟨mem,next,lim,rd,wr,cx⟩:=s
 have h0:newO o ⟨mem,next,lim,rd,wr,cx⟩=fN next fun b=>fN (Nat.succ b) fun n=>R.some b (St.mk (T.set mem b (.O o)) n lim rd wr cx):=rfl
 rw[h0,A7,A7]at h
 cases h
theorem KV_:NoPan getCx:= .mk fun s c s' h=>by
 obtain⟨mem,next,lim,rd,wr,cx⟩:=s
 cases h
theorem Acq_ (x:Ctx):NoPan (putCx x):= .mk fun s c s' h=>by
 obtain⟨mem,next,lim,rd,wr,cx⟩:=s
 cases h
theorem Em (a:Addr):NoPan (rdV a):=by
 obtain⟨b,o,s⟩:=a
 cases s with
 |some x=>exact AH
 |none=>exact AB (Dh _) fun c=>AV _
theorem UI (a:Addr)(v:Value):NoPan (wrV a v):=by
 obtain⟨b,o,s⟩:=a
 cases s with
 |some x=>exact AH
 |none=>exact AB (Dh _) fun c=>AK _ (Cv _ _)
theorem E7: ∀(n:Nat) (a:Addr),NoPan (rdL n a)
 |0,_=>AD _
 |n+1,a=>by
  have h0:rdL (n+1) a=fA a fun a=>M.bind (rdV a) fun v=>M.bind (rdL n ⟨a.block,Nat.succ a.off,a.spot⟩) fun l=>M.pure (v::l):=rfl
  rw[h0]
  exact AZ _ fun a=>AB (Em a) fun v=>AB (E7 n _) fun l=>AD _
theorem Io: ∀(vs:List Value) (a:Addr),NoPan (wrL vs a)
 |[],_=>AD _
 |v::vs,a=>by
  have h0:wrL (v::vs) a=fA a fun a=>M.bind (wrV a v) fun _=>wrL vs ⟨a.block,Nat.succ a.off,a.spot⟩:=rfl
  rw[h0]
  exact AZ _ fun a=>AB (UI a v) fun v=>Io vs _
theorem VV: ∀(n l:Nat),NoPan (CD n l)
 |0,_=>AD _
 |n+1,l=>by
  have h0:CD (n+1) l=M.bind (delC l) fun _=>CD n (l+1):=rfl
  rw[h0]
  exact AB (LU_ l) fun _=>VV n _
theorem Bw (x0:_)(x1:_):NoPan (ti x0 x1):=by
 unfold ti
 repeat' (first|exact AD _|exact AH|exact AV _|apply AB|apply AK|apply A3|apply AJ|apply AS|apply AX|apply AZ|apply A1|apply A2|apply A0|intro _|split)
theorem IH (x0:_):NoPan (pV x0):=by
 unfold pV
 repeat' (first|exact AD _|exact AH|exact AV _|apply AB|apply AK|apply A3|apply AJ|apply AS|apply AX|apply AZ|apply A1|apply A2|apply A0|intro _|split)
theorem Abi_ (x0:_)(x1:_)(x2:_)(x3:_)(x4:_):NoPan (C6 x0 x1 x2 x3 x4):=by
 unfold C6
 repeat' (first|exact AD _|exact AH|exact AV _|exact Bw _ _|apply AB|apply AK|apply A3|apply AJ|apply AS|apply AX|apply AZ|apply A1|apply A2|apply A0|intro _|split)
theorem Yr_ (x0:_)(x1:_):NoPan (Gn x0 x1):=by
 unfold Gn
 repeat' (first|exact AD _|exact AH|exact AV _|apply AB|apply AK|apply A3|apply AJ|apply AS|apply AX|apply AZ|apply A1|apply A2|apply A0|intro _|split)
theorem IT_ (x0:_)(x1:_)(x2:_):NoPan (Hp x0 x1 x2):=by
 unfold Hp
 repeat' (first|exact AD _|exact AH|exact AV _|exact Yr_ _ _|apply AB|apply AK|apply A3|apply AJ|apply AS|apply AX|apply AZ|apply A1|apply A2|apply A0|intro _|split)
theorem Mu_ (x0:_)(x1:_)(x2:_)(x3:_)(x4:_)(x5:_)(x6:_):NoPan (Bv x0 x1 x2 x3 x4 x5 x6):=by
 unfold Bv
 repeat' (first|exact AD _|exact AH|exact AV _|exact IT_ _ _ _|exact Abi_ _ _ _ _ _|exact IH _|apply AB|apply AK|apply A3|apply AJ|apply AS|apply AX|apply AZ|apply A1|apply A2|apply A0|intro _|split)
theorem QZ_ (x0:_):NoPan (lenOf x0):=by
 unfold lenOf
 repeat' (first|exact AD _|exact AH|exact AV _|apply AB|apply AK|apply A3|apply AJ|apply AS|apply AX|apply AZ|apply A1|apply A2|apply A0|intro _|split)
theorem Gi_ (x0:_)(x1:_)(x2:_):NoPan (Fq x0 x1 x2):=by
 unfold Fq
 repeat' (first|exact AD _|exact AH|exact AV _|exact Bw _ _|exact E7 _ _|exact Em _|apply AB|apply AK|apply A3|apply AJ|apply AS|apply AX|apply AZ|apply A1|apply A2|apply A0|intro _|split)
theorem IM_ (x0:_)(x1:_)(x2:_)(x3:_):NoPan (Ho x0 x1 x2 x3):=by
 unfold Ho
 repeat' (first|exact AD _|exact AH|exact AV _|exact Bw _ _|exact Io _ _|apply AB|apply AK|apply A3|apply AJ|apply AS|apply AX|apply AZ|apply A1|apply A2|apply A0|intro _|split)
theorem Hr (x0:_):NoPan (asA x0):=by
 unfold asA
 repeat' (first|exact AD _|exact AH|exact AV _|apply AB|apply AK|apply A3|apply AJ|apply AS|apply AX|apply AZ|apply A1|apply A2|apply A0|intro _|split)
theorem Ji (x0:_)(x1:_)(x2:_):NoPan (bnd x0 x1 x2):=by
 unfold bnd
 repeat' (first|exact AD _|exact AH|exact AV _|apply AB|apply AK|apply A3|apply AJ|apply AS|apply AX|apply AZ|apply A1|apply A2|apply A0|intro _|split)
theorem PK (x0:_):NoPan (ptrA x0):=by
 unfold ptrA
 repeat' (first|exact AD _|exact AH|exact AV _|apply AB|apply AK|apply A3|apply AJ|apply AS|apply AX|apply AZ|apply A1|apply A2|apply A0|intro _|split)
theorem Ic (x0:_)(x1:_)(x2:_):NoPan (pSl x0 x1 x2):=by
 unfold pSl
 repeat' (first|exact AD _|exact AH|exact AV _|apply AB|apply AK|apply A3|apply AJ|apply AS|apply AX|apply AZ|apply A1|apply A2|apply A0|intro _|split)
theorem JP (x0:_):NoPan (pN x0):=by
 unfold pN
 repeat' (first|exact AD _|exact AH|exact AV _|apply AB|apply AK|apply A3|apply AJ|apply AS|apply AX|apply AZ|apply A1|apply A2|apply A0|intro _|split)
theorem UB_ (x0:_)(x1:_)(x2:_)(x3:_)(x4:_):NoPan (FU x0 x1 x2 x3 x4):=by
 unfold FU
 repeat' (first|exact AD _|exact AH|exact AV _|exact Ic _ _ _|exact Ji _ _ _|apply AB|apply AK|apply A3|apply AJ|apply AS|apply AX|apply AZ|apply A1|apply A2|apply A0|intro _|split)
theorem JM_ (x0:_)(x1:_)(x2:_)(x3:_)(x4:_)(x5:_):NoPan (slSl x0 x1 x2 x3 x4 x5):=by
 unfold slSl
 repeat' (first|exact AD _|exact AH|exact AV _|exact Ic _ _ _|exact Ji _ _ _|apply AB|apply AK|apply A3|apply AJ|apply AS|apply AX|apply AZ|apply A1|apply A2|apply A0|intro _|split)
theorem AcA_ (x0:_)(x1:_)(x2:_):NoPan (F7 x0 x1 x2):=by
 unfold F7
 repeat' (first|exact AD _|exact AH|exact AV _|exact Ji _ _ _|apply AB|apply AK|apply A3|apply AJ|apply AS|apply AX|apply AZ|apply A1|apply A2|apply A0|intro _|split)
theorem Wu_ (x0:_)(x1:_)(x2:_)(x3:_)(x4:_):NoPan (Cb x0 x1 x2 x3 x4):=by
 unfold Cb
 repeat' (first|exact AD _|exact AH|exact AV _|exact AcA_ _ _ _|exact JM_ _ _ _ _ _ _|exact UB_ _ _ _ _ _|exact Ji _ _ _|exact Bw _ _|apply AB|apply AK|apply A3|apply AJ|apply AS|apply AX|apply AZ|apply A1|apply A2|apply A0|intro _|split)
theorem VF (x0:_)(x1:_)(x2:_):NoPan (srcL x0 x1 x2):=by
 unfold srcL
 repeat' (first|exact AD _|exact AH|exact AV _|exact E7 _ _|apply AB|apply AK|apply A3|apply AJ|apply AS|apply AX|apply AZ|apply A1|apply A2|apply A0|intro _|split)
theorem Vy_ (x0:_)(x1:_)(x2:_):NoPan (appN x0 x1 x2):=by
 unfold appN
 repeat' (first|exact AD _|exact AH|exact AV _|apply AB|apply AK|apply A3|apply AJ|apply AS|apply AX|apply AZ|apply A1|apply A2|apply A0|intro _|split)
theorem OU_ (x0:_)(x1:_)(x2:_)(x3:_):NoPan (appL x0 x1 x2 x3):=by
 unfold appL
 repeat' (first|exact AD _|exact AH|exact AV _|exact VF _ _ _|apply AB|apply AK|apply A3|apply AJ|apply AS|apply AX|apply AZ|apply A1|apply A2|apply A0|intro _|split)
theorem Zh_ (x0:_)(x1:_)(x2:_):NoPan (oldL x0 x1 x2):=by
 unfold oldL
 repeat' (first|exact AD _|exact AH|exact AV _|exact E7 _ _|apply AB|apply AK|apply A3|apply AJ|apply AS|apply AX|apply AZ|apply A1|apply A2|apply A0|intro _|split)
theorem Rm_ (x0:_)(x1:_)(x2:_):NoPan (E6 x0 x1 x2):=by
 unfold E6
 repeat' (first|exact AD _|exact AH|exact AV _|exact VV _ _|apply AB|apply AK|apply A3|apply AJ|apply AS|apply AX|apply AZ|apply A1|apply A2|apply A0|intro _|split)
theorem Jl_ (x0:_)(x1:_)(x2:_)(x3:_):NoPan (Dc x0 x1 x2 x3):=by
 unfold Dc
 repeat' (first|exact AD _|exact AH|exact AV _|exact Rm_ _ _ _|exact Cv _ _|exact Dh _|apply AB|apply AK|apply A3|apply AJ|apply AS|apply AX|apply AZ|apply A1|apply A2|apply A0|intro _|split)
theorem AaC_ (x0:_)(x1:_)(x2:_)(x3:_)(x4:_)(x5:_)(x6:_)(x7:_):NoPan (grow x0 x1 x2 x3 x4 x5 x6 x7):=by
 unfold grow
 repeat' (first|exact AD _|exact AH|exact AV _|exact Jl_ _ _ _ _|exact Zh_ _ _ _|exact Ic _ _ _|exact E2 _|exact Cv _ _|apply AB|apply AK|apply A3|apply AJ|apply AS|apply AX|apply AZ|apply A1|apply A2|apply A0|intro _|split)
theorem Nv_ (x0:_)(x1:_)(x2:_)(x3:_)(x4:_)(x5:_):NoPan (EJ x0 x1 x2 x3 x4 x5):=by
 unfold EJ
 repeat' (first|exact AD _|exact AH|exact AV _|exact Ic _ _ _|exact Io _ _|apply AB|apply AK|apply A3|apply AJ|apply AS|apply AX|apply AZ|apply A1|apply A2|apply A0|intro _|split)
theorem VE_ (x0:_)(x1:_)(x2:_)(x3:_)(x4:_):NoPan (Ck x0 x1 x2 x3 x4):=by
 unfold Ck
 repeat' (first|exact AD _|exact AH|exact AV _|exact Nv_ _ _ _ _ _ _|exact AaC_ _ _ _ _ _ _ _ _|exact OU_ _ _ _ _|exact Vy_ _ _ _|exact Bw _ _|apply AB|apply AK|apply A3|apply AJ|apply AS|apply AX|apply AZ|apply A1|apply A2|apply A0|intro _|split)
theorem Pv_ (x0:_)(x1:_)(x2:_):NoPan (Co x0 x1 x2):=by
 unfold Co
 repeat' (first|exact AD _|exact AH|exact AV _|exact Bw _ _|apply AB|apply AK|apply A3|apply AJ|apply AS|apply AX|apply AZ|apply A1|apply A2|apply A0|intro _|split)
theorem AbM_ (x0:_)(x1:_)(x2:_)(x3:_):NoPan (Cp x0 x1 x2 x3):=by
 unfold Cp
 repeat' (first|exact AD _|exact AH|exact AV _|exact Bw _ _|exact E2 _|exact Cv _ _|apply AB|apply AK|apply A3|apply AJ|apply AS|apply AX|apply AZ|apply A1|apply A2|apply A0|intro _|split)
theorem RG (x0:_)(x1:_)(x2:_)(x3:_):NoPan (EH x0 x1 x2 x3):=by
 unfold EH
 repeat' (first|exact AD _|exact AH|exact AV _|exact Bw _ _|apply AB|apply AK|apply A3|apply AJ|apply AS|apply AX|apply AZ|apply A1|apply A2|apply A0|intro _|split)
theorem MS_ (x0:_)(x1:_)(x2:_)(x3:_)(x4:_):NoPan (EW x0 x1 x2 x3 x4):=by
 unfold EW
 repeat' (first|exact AD _|exact AH|exact AV _|exact VF _ _ _|exact JP _|exact QZ_ _|exact Bw _ _|exact Io _ _|apply AB|apply AK|apply A3|apply AJ|apply AS|apply AX|apply AZ|apply A1|apply A2|apply A0|intro _|split)
theorem Ep (x0:_):NoPan (mapAt x0):=by
 unfold mapAt
 repeat' (first|exact AD _|exact AH|exact AV _|exact Dh _|apply AB|apply AK|apply A3|apply AJ|apply AS|apply AX|apply AZ|apply A1|apply A2|apply A0|intro _|split)
theorem Iv_ (x0:_):NoPan (Ej x0):=by
 unfold Ej
 repeat' (first|exact AD _|exact AH|exact AV _|exact Ep _|exact JP _|apply AB|apply AK|apply A3|apply AJ|apply AS|apply AX|apply AZ|apply A1|apply A2|apply A0|intro _|split)
theorem QU_ (x0:_)(x1:_)(x2:_):NoPan (aLen x0 x1 x2):=by
 unfold aLen
 repeat' (first|exact AD _|exact AH|exact AV _|exact Iv_ _|exact JP _|exact Bw _ _|apply AB|apply AK|apply A3|apply AJ|apply AS|apply AX|apply AZ|apply A1|apply A2|apply A0|intro _|split)
theorem NF_ (x0:_)(x1:_)(x2:_):NoPan (aCap x0 x1 x2):=by
 unfold aCap
 repeat' (first|exact AD _|exact AH|exact AV _|exact JP _|exact Bw _ _|apply AB|apply AK|apply A3|apply AJ|apply AS|apply AX|apply AZ|apply A1|apply A2|apply A0|intro _|split)
theorem KF_ (x0:_)(x1:_)(x2:_):NoPan (Gp x0 x1 x2):=by
 unfold Gp
 repeat' (first|exact AD _|exact AH|exact AV _|exact Bw _ _|exact Io _ _|apply AB|apply AK|apply A3|apply AJ|apply AS|apply AX|apply AZ|apply A1|apply A2|apply A0|intro _|split)
theorem XD (x0:_):NoPan (zeroV x0):=by
 unfold zeroV
 repeat' (first|exact AD _|exact AH|exact AV _|apply AB|apply AK|apply A3|apply AJ|apply AS|apply AX|apply AZ|apply A1|apply A2|apply A0|intro _|split)
theorem G6 (E:_)(e:_)(t:_)(k:_)(es:_):NoPan (Cx E e t k es):=AK _ (AJ _ fun _=>AD _)
theorem P8 (x0:_)(x1:_)(x2:_):NoPan (DJ x0 x1 x2):=by
 unfold DJ
 repeat' (first|exact AD _|exact AH|exact AV _|apply AB|apply AK|apply A3|apply AJ|apply AS|apply AX|apply AZ|apply A1|apply A2|apply A0|intro _|split)
theorem Rl (x0:_)(x1:_):NoPan (zeroOf x0 x1):=by
 unfold zeroOf
 repeat' (first|exact AD _|exact AH|exact AV _|exact XD _|exact Bw _ _|apply AB|apply AK|apply A3|apply AJ|apply AS|apply AX|apply AZ|apply A1|apply A2|apply A0|intro _|split)
theorem UP_ (E:_)(a:_)(b:_)(k:_)(c:_):NoPan (Pu E a b k c):=AB (G6 _ _ _ _ _) fun r=>by
 cases r with
 |none=>exact AB (Rl _ _) fun _=>P8 _ _ _
 |some j=>exact AH
theorem Nd_ (E:_)(a:_)(b:_)(k:_)(c:_)(es:_):NoPan (DI E a b k c es):=AB (G6 _ _ _ _ _) fun r=>by
 cases r with
 |none=>exact AB (Rl _ _) fun _=>P8 _ _ _
 |some j=>exact AJ _ fun _=>P8 _ _ _
theorem I5 (x0:_)(x1:_):NoPan (mapT x0 x1):=by
 unfold mapT
 repeat' (first|exact AD _|exact AH|exact AV _|exact Bw _ _|apply AB|apply AK|apply A3|apply AJ|apply AS|apply AX|apply AZ|apply A1|apply A2|apply A0|intro _|split)
theorem AbG_ (E:_)(t:_)(c:_)(x:_)(k:_):NoPan (CX E t c x k):=AB (I5 _ _) fun ke=>by
 cases x with
 |map m=>
  cases m with
  |none=>exact UP_ _ _ _ _ _
  |some l=>exact AB (Ep _) fun p=>Nd_ _ _ _ _ _ _
 |_=>exact AH
theorem Py_ (E:_)(t:_)(k:_)(x:_)(l:_)(p:_):NoPan (putE E t k x l p):=AB (G6 _ _ _ _ _) fun r=>by
 cases r with
 |none=>exact Cv _ _
 |some j=>exact AJ _ fun _=>AK _ (Cv _ _)
theorem AK_ (E:_)(t:_)(m:_)(k:_)(x:_):NoPan (DU E t m k x):=AB (I5 _ _) fun ke=>by
 cases m with
 |map m=>
  cases m with
  |none=>exact AH
  |some l=>exact AB (Ep _) fun p=>AB (Py_ _ _ _ _ _ _) fun _=>AD _
 |_=>exact AH
theorem NU_ (E:_)(a:_)(b:_)(k:_)(l:_)(p:_):NoPan (entE E a b k l p):=AB (G6 _ _ _ _ _) fun r=>by
 cases r with
 |none=>exact AB (Rl _ _) fun _=>AB (Cv _ _) fun _=>AD _
 |some j=>exact AJ _ fun _=>AK _ (AB (Cv _ _) fun _=>AD _)
theorem Aca_ (E:_)(t:_)(m:_)(k:_):NoPan (H6 E t m k):=AB (I5 _ _) fun ke=>by
 cases m with
 |map m=>
  cases m with
  |none=>exact AH
  |some l=>exact AB (Ep _) fun p=>NU_ _ _ _ _ _ _
 |_=>exact AH
theorem QD_ (x0:_)(x1:_)(x2:_):NoPan (Ei x0 x1 x2):=by
 unfold Ei
 repeat' (first|exact AD _|exact AH|exact AV _|exact Ep _|exact Cv _ _|apply AB|apply AK|apply A3|apply AJ|apply AS|apply AX|apply AZ|apply A1|apply A2|apply A0|intro _|split)
theorem DR_:NoPan (Dr):=by
 unfold Dr
 repeat' (first|exact AD _|exact AH|exact AV _|exact M0 _|apply AB|apply AK|apply A3|apply AJ|apply AS|apply AX|apply AZ|apply A1|apply A2|apply A0|intro _|split)
theorem Aan_ (x0:_)(x1:_)(x2:_):NoPan (Fh x0 x1 x2):=by
 unfold Fh
 repeat' (first|exact AD _|exact AH|exact AV _|exact DR_|exact I5 _ _|apply AB|apply AK|apply A3|apply AJ|apply AS|apply AX|apply AZ|apply A1|apply A2|apply A0|intro _|split)
theorem Hb_ (E:_)(t:_)(m:_)(k:_):NoPan (kDel E t m k):=AB (I5 _ _) fun ke=>by
 cases m with
 |map m=>
  cases m with
  |none=>exact AB (G6 _ _ _ _ _) fun _=>AD _
  |some l=>exact AB (Ep _) fun p=>AB (G6 _ _ _ _ _) fun r=>by cases r<;>exact AB (Cv _ _) fun _=>AD _
 |_=>exact AH
theorem Zx_ (x0:_)(x1:_)(x2:_)(x3:_):NoPan (A9 x0 x1 x2 x3):=by
 unfold A9
 repeat' (first|exact AD _|exact AH|exact AV _|exact Hb_ _ _ _ _|exact KF_ _ _ _|exact NF_ _ _ _|exact QU_ _ _ _|exact MS_ _ _ _ _ _|exact VE_ _ _ _ _ _|exact IH _|apply AB|apply AK|apply A3|apply AJ|apply AS|apply AX|apply AZ|apply A1|apply A2|apply A0|intro _|split)
theorem Rp_ (x0:_)(x1:_)(x2:_)(x3:_):NoPan (idxN x0 x1 x2 x3):=by
 unfold idxN
 repeat' (first|exact AD _|exact AH|exact AV _|exact PK _|exact Bw _ _|apply AB|apply AK|apply A3|apply AJ|apply AS|apply AX|apply AZ|apply A1|apply A2|apply A0|intro _|split)
theorem QS (x0:_):NoPan (asN x0):=by
 unfold asN
 repeat' (first|exact AD _|exact AH|exact AV _|apply AB|apply AK|apply A3|apply AJ|apply AS|apply AX|apply AZ|apply A1|apply A2|apply A0|intro _|split)
theorem AeV_ (x0:_)(x1:_)(x2:_):NoPan (Bj x0 x1 x2):=by
 unfold Bj
 repeat' (first|exact AD _|exact AH|exact AV _|apply AB|apply AK|apply A3|apply AJ|apply AS|apply AX|apply AZ|apply A1|apply A2|apply A0|intro _|split)
theorem Cb_ (x0:_):NoPan (ptrN x0):=by
 unfold ptrN
 repeat' (first|exact AD _|exact AH|exact AV _|apply AB|apply AK|apply A3|apply AJ|apply AS|apply AX|apply AZ|apply A1|apply A2|apply A0|intro _|split)
theorem NA_ (x0:_)(x1:_):NoPan (CL x0 x1):=by
 unfold CL
 repeat' (first|exact AD _|exact AH|exact AV _|exact Cb_ _|exact Bw _ _|exact E2 _|apply AB|apply AK|apply A3|apply AJ|apply AS|apply AX|apply AZ|apply A1|apply A2|apply A0|intro _|split)
theorem YW_ (x0:_):NoPan (kBox x0):=by
 unfold kBox
 repeat' (first|exact AD _|exact AH|exact AV _|exact Cb_ _|exact E2 _|apply AB|apply AK|apply A3|apply AJ|apply AS|apply AX|apply AZ|apply A1|apply A2|apply A0|intro _|split)
theorem ZX_ (x0:_)(x1:_)(x2:_):NoPan (AE x0 x1 x2):=by
 unfold AE
 repeat' (first|exact AD _|exact AH|exact AV _|exact Hr _|exact Gi_ _ _ _|apply AB|apply AK|apply A3|apply AJ|apply AS|apply AX|apply AZ|apply A1|apply A2|apply A0|intro _|split)
theorem Jt_ (x0:_)(x1:_)(x2:_)(x3:_):NoPan (BK x0 x1 x2 x3):=by
 unfold BK
 repeat' (first|exact AD _|exact AH|exact AV _|exact Hr _|exact IM_ _ _ _ _|apply AB|apply AK|apply A3|apply AJ|apply AS|apply AX|apply AZ|apply A1|apply A2|apply A0|intro _|split)
theorem LB_ (x0:_):NoPan (kNil x0):=by
 unfold kNil
 repeat' (first|exact AD _|exact AH|exact AV _|apply AB|apply AK|apply A3|apply AJ|apply AS|apply AX|apply AZ|apply A1|apply A2|apply A0|intro _|split)
theorem Aag_ (b:Bool):NoPan (pB b):=⟨fun s c s' h=>by cases b<;>cases h⟩
theorem LK (x0:_)(x1:_)(x2:_):NoPan (C0 x0 x1 x2):=by
 unfold C0
 repeat' (first|exact AD _|exact AH|exact AV _|exact IH _|apply AB|apply AK|apply A3|apply AJ|apply AS|apply AX|apply AZ|apply A1|apply A2|apply A0|intro _|split)
theorem PR_ (P:Program)(v:Value):NoPan (xorU P v):=by
 have h:=LK P .xor v
 cases v with
 |int k n=>
  cases n with
  |negSucc m=>exact LK P .xor (.int k (.negSucc m))
  |ofNat m=>
   show NoPan (Option.rec (motive:=fun _=>M Value) (C0 P .xor (.int k (.ofNat m))) (fun x=>M.pure x) (notK k m))
   exact A0 _ (LK _ _ _) fun _=>AD _
 |_=>exact h
theorem Qk_ (x0:_)(x1:_)(x2:_):NoPan (kUn x0 x1 x2):=by
 unfold kUn
 repeat' (first|exact AD _|exact AH|exact AV _|exact PR_ _ _|exact LK _ _ _|exact Aag_ _|apply AB|apply AK|apply A3|apply AJ|apply AS|apply AX|apply AZ|apply A1|apply A2|apply A0|intro _|split)
theorem Yb_ (x0:_)(x1:_):NoPan (strOf x0 x1):=by
 unfold strOf
 repeat' (first|exact AD _|exact AH|exact AV _|exact E7 _ _|apply AB|apply AK|apply A3|apply AJ|apply AS|apply AX|apply AZ|apply A1|apply A2|apply A0|intro _|split)
theorem Zd_ (x0:_)(x1:_)(x2:_)(x3:_)(x4:_):NoPan (Hy x0 x1 x2 x3 x4):=by
 unfold Hy
 repeat' (first|exact AD _|exact AH|exact AV _|exact Yb_ _ _|exact Bw _ _|apply AB|apply AK|apply A3|apply AJ|apply AS|apply AX|apply AZ|apply A1|apply A2|apply A0|intro _|split)
theorem Zq_ (x0:_)(x1:_)(x2:_)(x3:_)(x4:_):NoPan (EY x0 x1 x2 x3 x4):=by
 unfold EY
 repeat' (first|exact AD _|exact AH|exact AV _|exact IH _|exact Bw _ _|apply AB|apply AK|apply A3|apply AJ|apply AS|apply AX|apply AZ|apply A1|apply A2|apply A0|intro _|split)
theorem Rs (x0:_)(x1:_)(x2:_)(x3:_):NoPan (D1 x0 x1 x2 x3):=by
 unfold D1
 repeat' (first|exact AD _|exact AH|exact AV _|exact Zq_ _ _ _ _ _|exact Zd_ _ _ _ _ _|exact IH _|apply AB|apply AK|apply A3|apply AJ|apply AS|apply AX|apply AZ|apply A1|apply A2|apply A0|intro _|split)
theorem DV_ (x0:_)(x1:_):NoPan (rowN x0 x1):=by
 unfold rowN
 repeat' (first|exact AD _|exact AH|exact AV _|exact Ic _ _ _|exact E2 _|exact Cv _ _|apply AB|apply AK|apply A3|apply AJ|apply AS|apply AX|apply AZ|apply A1|apply A2|apply A0|intro _|split)
theorem AcI_ (l:List UInt8):NoPan (E5 l):=by
 unfold E5
 rw[LJ]
 exact AS _ fun n=>DV_ _ _
theorem Ub_ (x0:_)(x1:_)(x2:_)(x3:_):NoPan (FN x0 x1 x2 x3):=by
 unfold FN
 repeat' (first|exact AD _|exact AH|exact AV _|exact AcI_ _|exact Rs _ _ _ _|exact Bw _ _|apply AB|apply AK|apply A3|apply AJ|apply AS|apply AX|apply AZ|apply A1|apply A2|apply A0|intro _|split)
theorem Ach_ (x0:_)(x1:_)(x2:_)(x3:_)(x4:_)(x5:_):NoPan (Fd x0 x1 x2 x3 x4 x5):=by
 unfold Fd
 repeat' (first|exact AD _|exact AH|exact AV _|exact Rs _ _ _ _|exact Bw _ _|exact E7 _ _|exact Dh _|apply AB|apply AK|apply A3|apply AJ|apply AS|apply AX|apply AZ|apply A1|apply A2|apply A0|intro _|split)
theorem Ov_ (x0:_)(x1:_)(x2:_)(x3:_):NoPan (BR x0 x1 x2 x3):=by
 unfold BR
 repeat' (first|exact AD _|exact AH|exact AV _|exact Ach_ _ _ _ _ _ _|exact Ub_ _ _ _ _|exact Rs _ _ _ _|apply AB|apply AK|apply A3|apply AJ|apply AS|apply AX|apply AZ|apply A1|apply A2|apply A0|intro _|split)
theorem Xo_ (x0:_)(x1:_):NoPan (Gy x0 x1):=by
 unfold Gy
 repeat' (first|exact AD _|exact AH|exact AV _|apply AB|apply AK|apply A3|apply AJ|apply AS|apply AX|apply AZ|apply A1|apply A2|apply A0|intro _|split)
theorem RI_ (x0:_)(x1:_)(x2:_):NoPan (Fc x0 x1 x2):=by
 unfold Fc
 repeat' (first|exact AD _|exact AH|exact AV _|exact Xo_ _ _|exact Bw _ _|apply AB|apply AK|apply A3|apply AJ|apply AS|apply AX|apply AZ|apply A1|apply A2|apply A0|intro _|split)
theorem Yp_ (x0:_)(x1:_)(x2:_):NoPan (FE x0 x1 x2):=by
 unfold FE
 repeat' (first|exact AD _|exact AH|exact AV _|exact Bw _ _|apply AB|apply AK|apply A3|apply AJ|apply AS|apply AX|apply AZ|apply A1|apply A2|apply A0|intro _|split)
theorem OY_ (x0:_)(x1:_)(x2:_)(x3:_):NoPan (mkSl x0 x1 x2 x3):=by
 unfold mkSl
 repeat' (first|exact AD _|exact AH|exact AV _|exact Bw _ _|exact E2 _|apply AB|apply AK|apply A3|apply AJ|apply AS|apply AX|apply AZ|apply A1|apply A2|apply A0|intro _|split)
theorem LD_ (x0:_)(x1:_)(x2:_)(x3:_):NoPan (EQ x0 x1 x2 x3):=by
 unfold EQ
 repeat' (first|exact AD _|exact AH|exact AV _|exact OY_ _ _ _ _|exact QS _|exact Bw _ _|apply AB|apply AK|apply A3|apply AJ|apply AS|apply AX|apply AZ|apply A1|apply A2|apply A0|intro _|split)
theorem Jj (x0:_)(x1:_)(x2:_):NoPan (CZ x0 x1 x2):=by
 unfold CZ
 repeat' (first|exact AD _|exact AH|exact AV _|exact Bw _ _|apply AB|apply AK|apply A3|apply AJ|apply AS|apply AX|apply AZ|apply A1|apply A2|apply A0|intro _|split)
theorem Yi_ (x0:_)(x1:_)(x2:_)(x3:_):NoPan (kFld x0 x1 x2 x3):=by
 unfold kFld
 repeat' (first|exact AD _|exact AH|exact AV _|exact Jj _ _ _|exact PK _|exact Hr _|exact Bw _ _|apply AB|apply AK|apply A3|apply AJ|apply AS|apply AX|apply AZ|apply A1|apply A2|apply A0|intro _|split)
theorem Ul (x0:_):NoPan (asCs x0):=by
 unfold asCs
 repeat' (first|exact AD _|exact AH|exact AV _|apply AB|apply AK|apply A3|apply AJ|apply AS|apply AX|apply AZ|apply A1|apply A2|apply A0|intro _|split)
theorem AcT_ (x0:_)(x1:_)(x2:_)(x3:_):NoPan (EU x0 x1 x2 x3):=by
 unfold EU
 repeat' (first|exact AD _|exact AH|exact AV _|exact Ul _|exact Jj _ _ _|exact RG _ _ _ _|exact Bw _ _|apply AB|apply AK|apply A3|apply AJ|apply AS|apply AX|apply AZ|apply A1|apply A2|apply A0|intro _|split)
theorem AcL_ (x0:_)(x1:_)(x2:_)(x3:_):NoPan (BN x0 x1 x2 x3):=by
 unfold BN
 repeat' (first|exact AD _|exact AH|exact AV _|exact QS _|exact Rp_ _ _ _ _|exact Bw _ _|apply AB|apply AK|apply A3|apply AJ|apply AS|apply AX|apply AZ|apply A1|apply A2|apply A0|intro _|split)
theorem Ml_ (x0:_)(x1:_)(x2:_)(x3:_):NoPan (idxV x0 x1 x2 x3):=by
 unfold idxV
 repeat' (first|exact AD _|exact AH|exact AV _|exact RG _ _ _ _|exact Bw _ _|apply AB|apply AK|apply A3|apply AJ|apply AS|apply AX|apply AZ|apply A1|apply A2|apply A0|intro _|split)
theorem Vk_ (x0:_)(x1:_)(x2:_)(x3:_):NoPan (kIdx x0 x1 x2 x3):=by
 unfold kIdx
 repeat' (first|exact AD _|exact AH|exact AV _|exact Ml_ _ _ _ _|exact QS _|exact Bw _ _|apply AB|apply AK|apply A3|apply AJ|apply AS|apply AX|apply AZ|apply A1|apply A2|apply A0|intro _|split)
theorem Qg_ (x0:_)(x1:_):NoPan (kExt x0 x1):=by
 unfold kExt
 repeat' (first|exact AD _|exact AH|exact AV _|apply AB|apply AK|apply A3|apply AJ|apply AS|apply AX|apply AZ|apply A1|apply A2|apply A0|intro _|split)
theorem Aab_ (x0:_)(x1:_)(x2:_):NoPan (okV x0 x1 x2):=by
 unfold okV
 repeat' (first|exact AD _|exact AH|exact AV _|apply AB|apply AK|apply A3|apply AJ|apply AS|apply AX|apply AZ|apply A1|apply A2|apply A0|intro _|split)
theorem Wd_ (x0:_)(x1:_)(x2:_):NoPan (EX x0 x1 x2):=by
 unfold EX
 repeat' (first|exact AD _|exact AH|exact AV _|exact Bw _ _|exact M0 _|apply AB|apply AK|apply A3|apply AJ|apply AS|apply AX|apply AZ|apply A1|apply A2|apply A0|intro _|split)
theorem Abd_ (x0:_)(x1:_)(x2:_):NoPan (sitN x0 x1 x2):=by
 unfold sitN
 repeat' (first|exact AD _|exact AH|exact AV _|exact Cv _ _|apply AB|apply AK|apply A3|apply AJ|apply AS|apply AX|apply AZ|apply A1|apply A2|apply A0|intro _|split)
theorem Kh_ (x0:_):NoPan (ER x0):=by
 unfold ER
 repeat' (first|exact AD _|exact AH|exact AV _|exact Abd_ _ _ _|exact Dh _|apply AB|apply AK|apply A3|apply AJ|apply AS|apply AX|apply AZ|apply A1|apply A2|apply A0|intro _|split)
theorem Nx_ (x0:_)(x1:_)(x2:_)(x3:_):NoPan (Ff x0 x1 x2 x3):=by
 unfold Ff
 repeat' (first|exact AD _|exact AH|exact AV _|exact Aab_ _ _ _|exact XD _|exact Bw _ _|apply AB|apply AK|apply A3|apply AJ|apply AS|apply AX|apply AZ|apply A1|apply A2|apply A0|intro _|split)
open Go.RowKit
def OpV (E:Env)(o:Oper)(c:Cl OpT)(ds:List Nat):Prop:=
 ∃f,c= .mk f∧(∀call round rho tm,NoPan (f call round rho tm))∧
  ∀call round (w0 w:World) (r:Inj) (U:Nat→Prop) rho tm (a:Act) s v s',SlR r U ds rho tm a.tmps→(∀t,Operand.tmp t∈o.op.operands.toList→U t)→Rel w0 r s.mem w→f call round rho tm s= .some v s'→Be r s.next s'.next→
   ∃v' w' r',((execOp a.eval o).run E.P w= .ok (.value v') w'∨((execOp a.eval o).run E.P w= .ok .skip w'∧v'=undef))∧Goes w0 r s s' r' w'∧VR r' v v'∧s'.lim=s.lim∧s'.cx=s.cx
section
variable {E:Env}{ds:List Nat}{o:Oper}
def Ct (m:Sem Value):Sem Next:=do pure (.value (←m))
theorem Yields.val {w0 w:World}{r:Inj}{s s':St}{v:Value}{m:Sem Value}(h:Yields E w0 r s s' v w m){n:Sem Next}(hn:n=Ct m):
  ∃v' w' r',(n.run E.P w= .ok (.value v') w'∨(n.run E.P w= .ok .skip w'∧v'=undef))∧Goes w0 r s s' r' w'∧VR r' v v'∧s'.lim=s.lim∧s'.cx=s.cx:=by
 obtain⟨v',w',r',h1,h2,h3,h4,h5⟩:=h
 exact⟨v',w',r', .inl (by rw[hn];simp[Ct,h1]),h2,h3,h4,h5⟩
theorem De {α:Type}{x:Option α}{f:α→St→R Value}{s s':St}{v:Value}(h:Option.rec (motive:=fun _=>R Value) .none (fun a=>f a s) x= .some v s'): ∃a,x=some a∧f a s= .some v s':=by
 cases x with
 |none=>cases h
 |some a=>exact⟨a,rfl,h⟩
theorem Dt {α:Type}{g:Option α}{f:α→M Value}(h: ∀a,NoPan (f a)):NoPan (fun s=>Option.rec (motive:=fun _=>R Value) .none (fun a=>f a s) g):=⟨fun s c s' e=>by
 cases g with
 |none=>cases e
 |some a=>exact(h a).no _ _ _ e⟩
theorem Zs {x:Operand}(hx:o.op.operands.toList=[x])(ho: ∀a:Act,execOp a.eval o=pure (.value (a.eval x))):OpV E o (Es ds x) ds:=by
 obtain⟨g,h1,h2⟩:=BA ds x
 refine⟨_,by unfold Es;rw[h1],fun _ _ rho tm=>Dt (f:=fun a s=> .some a s) (g:=g rho tm) fun a=>AD a, ?_⟩
 intro call round w0 w r U rho tm a s v s' hs hu hr h hf
 obtain⟨y,e1,e2⟩:=De (f:=fun a s=> .some a s) h
 cases e2
 exact⟨_,w,r, .inl (by rw[ho];rfl), .of_rel rfl hr,h2 _ _ _ _ _ _ hs (fun t q=>hu t (by first|(rw[hx];simp at q ⊢;simp[q])|exact hx _ q)) e1,rfl,rfl⟩
theorem CO {x:Operand}{k:Value→M Value}{m:Value→Sem Value}(hx:o.op.operands.toList=[x])(ho: ∀a:Act,execOp a.eval o=Ct (m (a.eval x)))(np: ∀y,NoPan (k y))
  (hk: ∀{w0 w:World} {r:Inj} {y y':Value} {s v s'},k y s= .some v s'→Rel w0 r s.mem w→Be r s.next s'.next→VR r y y'→Yields E w0 r s s' v w (m y')):OpV E o (Bt ds x k) ds:=by
 obtain⟨g,h1,h2⟩:=BA ds x
 refine⟨_,by unfold Bt;rw[h1],fun _ _ rho tm=>Dt (g:=g rho tm) np, ?_⟩
 intro call round w0 w r U rho tm a s v s' hs hu hr h hf
 obtain⟨y,e1,e2⟩:=De h
 exact(hk e2 hr hf (h2 _ _ _ _ _ _ hs (fun t q=>hu t (by first|(rw[hx];simp at q ⊢;simp[q])|exact hx _ q)) e1)).val (ho a)
theorem F3 {x y:Operand}{k:Value→Value→M Value}{m:Value→Value→Sem Value}(hx:o.op.operands.toList=[x,y])(ho: ∀a:Act,execOp a.eval o=Ct (m (a.eval x) (a.eval y)))(np: ∀y z,NoPan (k y z))
  (hk: ∀{w0 w:World} {r:Inj} {y y' z z':Value} {s v s'},k y z s= .some v s'→Rel w0 r s.mem w→Be r s.next s'.next→VR r y y'→VR r z z'→Yields E w0 r s s' v w (m y' z')):OpV E o (Ca ds x y k) ds:=by
 obtain⟨g,h1,h2⟩:=BA ds x
 obtain⟨g',h3,h4⟩:=BA ds y
 refine⟨_,by unfold Ca;rw[h1,h3],fun _ _ rho tm=>Dt (g:=g rho tm) (f:=fun a s=>Option.rec (motive:=fun _=>R Value) .none (fun b=>k a b s) (g' rho tm)) fun a=>Dt (np a), ?_⟩
 intro call round w0 w r U rho tm a s v s' hs hu hr h hf
 obtain⟨y,e1,e2⟩:=De (f:=fun a s=>Option.rec (motive:=fun _=>R Value) .none (fun b=>k a b s) (g' rho tm)) h
 obtain⟨z,e3,e4⟩:=De e2
 exact(hk e4 hr hf (h2 _ _ _ _ _ _ hs (fun t q=>hu t (by first|(rw[hx];simp at q ⊢;simp[q])|exact hx _ q)) e1) (h4 _ _ _ _ _ _ hs (fun t q=>hu t (by rw[hx];simp at q ⊢;simp[q])) e3)).val (ho a)
theorem CS_ {l:List (Nat×Operand)}{k:List (Nat×Value)→M Value}{m:List (Nat×Value)→Sem Value}(hx:o.op.operands.toList=l.map (·.2))(ho: ∀a:Act,execOp a.eval o=Ct (m (l.map fun p=>(p.1,a.eval p.2))))(np: ∀y,NoPan (k y))
  (hk: ∀{w0 w:World} {r:Inj} {y y':List (Nat×Value)} {s v s'},k y s= .some v s'→Rel w0 r s.mem w→Be r s.next s'.next→PRs r y y'→Yields E w0 r s s' v w (m y')):OpV E o (EE ds l k) ds:=by
 obtain⟨g,h1,h2⟩:=OS ds l
 refine⟨_,by unfold EE;rw[h1],fun _ _ rho tm=>Dt (g:=g rho tm) np, ?_⟩
 intro call round w0 w r U rho tm a s v s' hs hu hr h hf
 obtain⟨y,e1,e2⟩:=De h
 exact(hk e2 hr hf (h2 _ _ _ _ _ _ hs (fun t q=>hu t (by first|(rw[hx];simp at q ⊢;simp[q])|exact hx _ q)) e1)).val (ho a)
end
section
variable {E:Env}{ds:List Nat}{o:Oper}
theorem Sb_ {x:Operand}(ho:o.op= .move x):OpV E o (Es ds x) ds:=Zs (by simp[ho,Op.operands]) fun a=>by simp only[execOp,ho]
theorem Re_ {x:Operand}(ho:o.op= .assign x):OpV E o (Es ds x) ds:=Zs (by simp[ho,Op.operands]) fun a=>by simp only[execOp,ho]
theorem Jv_ {e:Nat}(ho:o.op= .alloc e)(he:EnvTy E):OpV E o (.mk fun _ _ _ _=>CL E e) ds:=by
 refine⟨_,rfl,fun _ _ _ _=>NA_ _ _, ?_⟩
 intro call round w0 w r U rho tm a s v s' hs hu hr h hf
 exact(Rk_ he h hr hf).val (by simp only[execOp,ho];rfl)
theorem Uz_ {e:Nat}{x:Operand}(ho:o.op= .box e x):OpV E o (Bt ds x kBox) ds:=
 CO (m:=Instr.box e) (by simp[ho,Op.operands]) (fun a=>by simp only[execOp,ho];rfl) YW_ fun h hr hf hx=>WP_ h hr hf hx
theorem Ls_ {t:Nat}{ps:Array (Nat×Operand)}(ho:o.op= .build t ps)(he:EnvTy E):OpV E o (EE ds ps.toList (Co E t)) ds:=
 CS_ (m:=fun l=>Instr.build t l.toArray) (by simp[ho,Op.operands]) (fun a=>by simp only[execOp,ho];rw[←List.map_toArray];rfl) (Pv_ _ _) fun h hr hf hx=>RN_ he h hr (by simpa using hx)
theorem Aao_ {t n:Nat}{ps:Array (Nat×Operand)}(ho:o.op= .buildSlice t n ps)(he:EnvTy E):OpV E o (EE ds ps.toList (Cp E t n)) ds:=
 CS_ (m:=fun l=>Instr.buildSlice t n l.toArray) (by simp[ho,Op.operands]) (fun a=>by simp only[execOp,ho];rw[←List.map_toArray];rfl) (AbM_ _ _ _) fun h hr hf hx=>QN_ he h hr hf (by simpa using hx)
theorem Qq_ {t:Nat}{x:Operand}(ho:o.op= .load t x)(he:EnvTy E):OpV E o (Bt ds x (AE E t)) ds:=
 CO (m:=Instr.loadAt t) (by simp[ho,Op.operands]) (fun a=>by simp only[execOp,ho];rfl) (ZX_ _ _) fun h hr hf hx=>PX_ he h hr hx
theorem Oa_ {t:Nat}{x y:Operand}(ho:o.op= .store t x y)(he:EnvTy E):OpV E o (Ca ds x y (BK E t)) ds:=by
 obtain⟨g,h1,h2⟩:=BA ds x
 obtain⟨g',h3,h4⟩:=BA ds y
 refine⟨_,by unfold Ca;rw[h1,h3],fun _ _ rho tm=>Dt (g:=g rho tm) (f:=fun a s=>Option.rec (motive:=fun _=>R Value) .none (fun b=>BK E t a b s) (g' rho tm)) fun a=>Dt (Jt_ _ _ a), ?_⟩
 intro call round w0 w r U rho tm a s v s' hs hu hr h hf
 obtain⟨y,e1,e2⟩:=De (f:=fun a s=>Option.rec (motive:=fun _=>R Value) .none (fun b=>BK E t a b s) (g' rho tm)) h
 obtain⟨z,e3,e4⟩:=De e2
 obtain⟨rfl,w',k1,k2,k3,k4,k5⟩:=GD_ he e4 hr (h2 _ _ _ _ _ _ hs (fun t q=>hu t (by simp[ho,Op.operands]at q ⊢;simp[q])) e1) (h4 _ _ _ _ _ _ hs (fun t q=>hu t (by simp[ho,Op.operands]at q ⊢;simp[q])) e3)
 refine⟨undef,w',r, .inr ⟨?_,rfl⟩, .of_rel k3 k2, .tuple rfl (fun i v v' e=>by simp at e),k4,k5⟩
 simp[execOp,ho,k1]
theorem AdV_ {x:Operand}(ho:o.op= .nilCheck x):OpV E o (Bt ds x kNil) ds:=by
 obtain⟨g,h1,h2⟩:=BA ds x
 refine⟨_,by unfold Bt;rw[h1],fun _ _ rho tm=>Dt (g:=g rho tm) LB_, ?_⟩
 intro call round w0 w r U rho tm a s v s' hs hu hr h hf
 obtain⟨y,e1,e2⟩:=De h
 have hx:=h2 _ _ _ _ _ _ hs (fun t q=>hu t (by simp[ho,Op.operands]at q ⊢;simp[q])) e1
 obtain⟨rfl,rfl,e3⟩:=GC_ (P:=E.P) (w:=w) (a:=a) ho rfl e2 hx
 exact⟨_,w,r, .inl e3, .of_rel rfl hr,hx,rfl,rfl⟩
theorem Ky_ {op:BinOp}{t yt:Nat}{x y:Operand}(ho:o.op= .binOp op t x y yt)(he:EnvTy E):OpV E o (Cl.rec (motive:=fun _=>Cl OpT) (fun f=>Ca ds x y f) (aBin E op t x y)) ds:=by
 generalize hc:aBin E op t x y=c
 obtain⟨f⟩:=c
 refine F3 (m:=fun y' z'=>do eqGuard op t x y y' z';binOp op t y' z') (by simp[ho,Op.operands]) (fun a=>by simp only[execOp,ho];rfl) (fun y' z'=> ?_) fun h hr hf hx hy=>Mw_ hc he h hr hx hy
 have slow: ∀op,NoPan (Bv E op t x y y' z'):=fun op=>Mu_ _ _ _ _ _ _ _
 have fast3: ∀(k:Cm) op,NoPan (int3 k (Bv E op t x y) y' z'):=fun k op=>⟨fun s c s' e=>by
  unfold int3 Cj at e
  cases y'<;>simp only at e
  case int k1 a=>
   cases z'<;>simp only at e
   case int k2 b=>
    cases a with
    |negSucc m=>exact(slow op).no _ _ _ e
    |ofNat m=>
     cases b with
     |negSucc m=>exact(slow op).no _ _ _ e
     |ofNat n=>
      simp only at e
      cases e1:k k1 k2 m n with
      |none=>rw[e1]at e;exact(slow op).no _ _ _ e
      |some u=>rw[e1]at e;cases e
   all_goals exact(slow op).no _ _ _ e
  all_goals exact(slow op).no _ _ _ e⟩
 have fast2: ∀(k:Int→Int→St→R Value) (k3:Cm) op,(∀a b,NoPan (k a b))→NoPan (int2 k (int3 k3 (Bv E op t x y)) y' z'):=fun k k3 op hk=>⟨fun s c s' e=>by
  have f3:=fast3 k3 op
  unfold int2 Cj at e
  cases y'<;>simp only at e
  case int k1 a=>
   cases z'<;>simp only at e
   case int k2 b=>
    cases e1:Du k1 with
    |false=>rw[e1]at e;exact f3.no _ _ _ e
    |true=>
     cases e2:Du k2 with
     |false=>rw[e1,e2]at e;exact f3.no _ _ _ e
     |true=>rw[e1,e2]at e;exact(hk a b).no _ _ _ e
   all_goals exact f3.no _ _ _ e
  all_goals exact f3.no _ _ _ e⟩
 have rI': ∀n,NoPan (rI n):=fun n=>⟨fun s c s' e=>by unfold rI at e;rw[Ci]at e;cases e⟩
 have rB': ∀b,NoPan (rB b):=fun b=>⟨fun s c s' e=>by cases b<;>cases e⟩
 cases op<;>cases hc<;>first|exact slow _|exact fast3 _ _|exact fast2 _ _ _ fun a b=>rI' _|exact fast2 _ _ _ fun a b=>rB' _
theorem AaP_ {op:UnOp}{t:Nat}{x:Operand}(ho:o.op= .unOp op t x):OpV E o (Bt ds x (kUn E.P op)) ds:=
 CO (m:=Op.unary op) (by simp[ho,Op.operands]) (fun a=>by simp only[execOp,ho];rfl) (Qk_ _ _) fun h hr hf hx=>Pg_ h hr hx
theorem Zn_ {s d:Nat}{x:Operand}(ho:o.op= .convert s d x)(he:EnvTy E):OpV E o (Bt ds x (BR E s d)) ds:=
 CO (m:=convert s d) (by simp[ho,Op.operands]) (fun a=>by simp only[execOp,ho];rfl) (Ov_ _ _ _) fun h hr hf hx=>LL_ he h hr hf hx
theorem SS_ {t:Nat}{x:Operand}(ho:o.op= .sliceToArrayPointer t x)(he:EnvTy E):OpV E o (Bt ds x (Fc E t)) ds:=
 CO (m:=Instr.arrayAt t) (by simp[ho,Op.operands]) (fun a=>by simp only[execOp,ho];rfl) (RI_ _ _) fun h hr hf hx=>XG_ he h hr hx
theorem Tm_ {t:Nat}{x:Operand}(ho:o.op= .makeInterface t x)(he:EnvTy E):OpV E o (Bt ds x (FE E t)) ds:=
 CO (m:=Instr.makeInterface t) (by simp[ho,Op.operands]) (fun a=>by simp only[execOp,ho];rfl) (Yp_ _ _) fun h hr hf hx=>Il_ he h hr hx
theorem KY_ {t:Nat}{x y:Operand}(ho:o.op= .makeSlice t x y)(he:EnvTy E):OpV E o (Ca ds x y (EQ E t)) ds:=
 F3 (m:=Instr.makeSlice t) (by simp[ho,Op.operands]) (fun a=>by simp only[execOp,ho];rfl) (LD_ _ _) fun h hr hf hx hy=>MY_ he h hr hf hx hy
theorem VR_ {t f:Nat}{x:Operand}(ho:o.op= .fieldAddr t x f)(he:EnvTy E):OpV E o (Bt ds x fun a=>kFld E t a f) ds:=
 CO (m:=fun x=>Instr.fieldAt t x f) (by simp[ho,Op.operands]) (fun a=>by simp only[execOp,ho];rfl) (fun y=>Yi_ _ _ y _) fun h hr hf hx=>Iq_ he h hr hx
theorem Of_ {t f:Nat}{x:Operand}(ho:o.op= .field t x f)(he:EnvTy E):OpV E o (Bt ds x fun a=>EU E t a f) ds:=
 CO (m:=fun x=>Instr.field t x f) (by simp[ho,Op.operands]) (fun a=>by simp only[execOp,ho];rfl) (fun y=>AcT_ _ _ y _) fun h hr hf hx=>YD_ he h hr hx
theorem ST_ {t:Nat}{x y:Operand}(ho:o.op= .indexAddr t x y)(he:EnvTy E):OpV E o (Ca ds x y (BN E t)) ds:=
 F3 (m:=Instr.indexAt t) (by simp[ho,Op.operands]) (fun a=>by simp only[execOp,ho];rfl) (AcL_ _ _) fun h hr hf hx hy=>Sv_ he h hr hx hy
theorem PB_ {t:Nat}{x y:Operand}(ho:o.op= .index t x y)(he:EnvTy E):OpV E o (Ca ds x y (kIdx E t)) ds:=
 F3 (m:=Instr.index t) (by simp[ho,Op.operands]) (fun a=>by simp only[execOp,ho];rfl) (Vk_ _ _) fun h hr hf hx hy=>Ot_ he h hr hx hy
theorem KT_ {k:Nat}{x:Operand}(ho:o.op= .extract x k):OpV E o (Bt ds x (kExt k)) ds:=
 CO (m:=fun x=>Instr.extract x k) (by simp[ho,Op.operands]) (fun a=>by simp only[execOp,ho];rfl) (Qg_ _) fun h hr hf hx=>PD_ h hr hx
theorem Abc_ {xt t:Nat}{c:Bool}{x:Operand}(ho:o.op= .typeAssert x xt t c)(he:EnvTy E):OpV E o (Bt ds x (Ff E t c)) ds:=
 CO (m:=fun x=>Instr.typeAssert x xt t c) (by simp[ho,Op.operands]) (fun a=>by simp only[execOp,ho];rfl) (Nx_ _ _ _) fun h hr hf hx=>Ik_ he h hr hx
end
section
variable {E:Env}{ds:List Nat}{o:Oper}
theorem Jx_ {x y z:Operand}(ho:o.op= .pick x y z):OpV E o (CE ds x y z Bj) ds:=by
 obtain⟨g,h1,h2⟩:=BA ds x
 obtain⟨g',h3,h4⟩:=BA ds y
 obtain⟨g2,h5,h6⟩:=BA ds z
 refine⟨_,by unfold CE;rw[h1,h3,h5],fun _ _ rho tm=>AJ _ fun a=>AJ _ fun b=>AJ _ fun c=>AeV_ _ _ _, ?_⟩
 intro call round w0 w r U rho tm a s v s' hs hu hr h hf
 obtain⟨x',e1,h⟩:=BD h
 obtain⟨y',e2,h⟩:=BD h
 obtain⟨z',e3,h⟩:=BD h
 obtain⟨rfl,t,k1,k2⟩:=Qv_ h (h2 _ _ _ _ _ _ hs (fun t q=>hu t (by simp[ho,Op.operands]at q ⊢;simp[q])) e1) (h4 _ _ _ _ _ _ hs (fun t q=>hu t (by simp[ho,Op.operands]at q ⊢;simp[q])) e2) (h6 _ _ _ _ _ _ hs (fun t q=>hu t (by simp[ho,Op.operands]at q ⊢;simp[q])) e3)
 refine⟨_,w,r, .inl ?_, .of_rel rfl hr,k2,rfl,rfl⟩
 simp only[execOp,ho,k1]
 cases t<;>simp[asBool]
theorem TA_ {t:Nat}{x:Operand}{lo hi mx:Option Operand}(ho:o.op= .slice t x lo hi mx)(he:EnvTy E):OpV E o (II E ds t x lo hi mx) ds:=by
 cases mx with
 |some m=>
  exact⟨_,rfl,fun _ _ _ _=>AH,fun call round w0 w r U rho tm a s v s' hs hu hr h hf=>by cases h⟩
 |none=>
  obtain⟨g,h1,h2⟩:=BA ds x
  obtain⟨g',h3,h4⟩:=Ns ds lo
  obtain⟨g2,h5,h6⟩:=Ns ds hi
  refine⟨fun _ _ rho tm=>M.on (g rho tm) fun a=>M.on (g' rho tm) fun b=>M.on (g2 rho tm) fun c=>Cb E t a b c,by unfold II OK;simp only[h1,h3,h5],fun _ _ rho tm=>AJ _ fun a=>AJ _ fun b=>AJ _ fun c=>Wu_ _ _ _ _ _, ?_⟩
  intro call round w0 w r U rho tm a s v s' hs hu hr h hf
  obtain⟨x',e1,h⟩:=BD h
  obtain⟨y',e2,h⟩:=BD h
  obtain⟨z',e3,h⟩:=BD h
  exact(Po_ he h hr (h2 _ _ _ _ _ _ hs (fun t q=>hu t (by simp[ho,Op.operands]at q ⊢;simp[q])) e1) (h4 _ _ _ _ _ _ hs (fun t q=>hu t (by simp[ho,Op.operands]at q ⊢;simp[q])) e2) (h6 _ _ _ _ _ _ hs (fun t q=>hu t (by simp[ho,Op.operands]at q ⊢;simp[q])) e3)).val (by simp only[execOp,ho];rfl)
theorem JN_ {t:Nat}(ho:o.op= .makeMap t none):OpV E o (.mk fun _ _ _ _=>Dr) ds:=by
 refine⟨_,rfl,fun _ _ _ _=>DR_, ?_⟩
 intro call round w0 w r U rho tm a s v s' hs hu hr h hf
 exact(FB_ h hr hf).val (by simp only[execOp,ho];rfl)
theorem Sz_ {t:Nat}{x:Operand}(ho:o.op= .makeMap t (some x))(he:EnvTy E):OpV E o (Bt ds x (Fh E t)) ds:=
 CO (m:=fun x=>Instr.makeMap t (some x)) (by simp[ho,Op.operands]) (fun a=>by simp only[execOp,ho];rfl) (Aan_ _ _) fun h hr hf hx=>Tt_ he h hr hf hx
theorem MX_ {t:Nat}{c:Bool}{x y:Operand}(ho:o.op= .lookup t x y c)(he:EnvTy E):OpV E o (Ca ds x y (CX E t c)) ds:=
 F3 (m:=fun x y=>Instr.lookup t x y c) (by simp[ho,Op.operands]) (fun a=>by simp only[execOp,ho];rfl) (AbG_ _ _ _) fun h hr hf hx hy=>RH_ he h hr hx hy
theorem Px_ {t:Nat}{x y:Operand}(ho:o.op= .mapEntry t x y)(he:EnvTy E):OpV E o (Ca ds x y (H6 E t)) ds:=
 F3 (m:=Instr.mapEntry t) (by simp[ho,Op.operands]) (fun a=>by simp only[execOp,ho];rfl) (Aca_ _ _) fun h hr hf hx hy=>Kk_ he h hr hx hy
theorem RQ {x y z:Operand}{k:Value→Value→Value→M Value}{m:Value→Value→Value→Sem Unit}(hx:o.op.operands.toList=[x,y,z])(ho: ∀a:Act,execOp a.eval o=(do m (a.eval x) (a.eval y) (a.eval z);pure .skip))(np: ∀x y z,NoPan (k x y z))
  (hk: ∀{w0 w:World} {r:Inj} {x x' y y' z z':Value} {s v s'},k x y z s= .some v s'→Rel w0 r s.mem w→VR r x x'→VR r y y'→VR r z z'→v=undef∧ ∃w',(m x' y' z').run E.P w= .ok () w'∧Goes w0 r s s' r w'∧s'.lim=s.lim∧s'.cx=s.cx):OpV E o (CE ds x y z k) ds:=by
 obtain⟨g,h1,h2⟩:=BA ds x
 obtain⟨g',h3,h4⟩:=BA ds y
 obtain⟨g2,h5,h6⟩:=BA ds z
 refine⟨_,by unfold CE;rw[h1,h3,h5],fun _ _ rho tm=>AJ _ fun a=>AJ _ fun b=>AJ _ fun c=>np _ _ _, ?_⟩
 intro call round w0 w r U rho tm a s v s' hs hu hr h hf
 obtain⟨x',e1,h⟩:=BD h
 obtain⟨y',e2,h⟩:=BD h
 obtain⟨z',e3,h⟩:=BD h
 obtain⟨rfl,w',k1,k2,k3,k4⟩:=hk h hr (h2 _ _ _ _ _ _ hs (fun t q=>hu t (by rw[hx];simp at q ⊢;simp[q])) e1) (h4 _ _ _ _ _ _ hs (fun t q=>hu t (by rw[hx];simp at q ⊢;simp[q])) e2) (h6 _ _ _ _ _ _ hs (fun t q=>hu t (by rw[hx];simp at q ⊢;simp[q])) e3)
 refine⟨undef,w',r, .inr ⟨?_,rfl⟩,k2, .undef,k3,k4⟩
 rw[ho]
 simp[k1]
theorem Xw_ {t:Nat}{x y z:Operand}(ho:o.op= .mapUpdate t x y z)(he:EnvTy E):OpV E o (CE ds x y z (DU E t)) ds:=
 RQ (m:=Instr.mapUpdate t) (by simp[ho,Op.operands]) (fun a=>by simp only[execOp,ho]) (AK_ _ _) fun h hr hx hy hz=>CE_ he h hr hx hy hz
theorem GG_ {t:Nat}{x y z:Operand}(ho:o.op= .insert t x y z)(he:EnvTy E):OpV E o (CE ds x y z (DU E t)) ds:=
 RQ (m:=Instr.mapUpdate t) (by simp[ho,Op.operands]) (fun a=>by simp only[execOp,ho]) (AK_ _ _) fun h hr hx hy hz=>CE_ he h hr hx hy hz
theorem XY_ {t:Nat}{x y z:Operand}(ho:o.op= .entryStore t x y z):OpV E o (CE ds x y z Ei) ds:=
 RQ (m:=Instr.entryStore t) (by simp[ho,Op.operands]) (fun a=>by simp only[execOp,ho]) QD_ fun h hr hx hy hz=>Qs_ h hr hx hy hz
theorem AaR_ {t:Nat}{x:Operand}(ho:o.op= .range t x)(he:EnvTy E):OpV E o (Bt ds x (EX E t)) ds:=
 CO (m:=Instr.range t) (by simp[ho,Op.operands]) (fun a=>by simp only[execOp,ho];rfl) (Wd_ _ _) fun h hr hf hx=>Abg_ he h hr hf hx
theorem Vc_ {x:Operand}(ho:o.op= .next x true):OpV E o (Bt ds x ER) ds:=
 CO (m:=fun x=>Instr.next x true o.type) (by simp[ho,Op.operands]) (fun a=>by simp only[execOp,ho];rfl) Kh_ fun h hr hf hx=>YT_ h hr hx
theorem ZB {α β:Type}(f:α→β)(a:Array α):a.map f=(a.toList.map f).toArray:=by rw[←List.map_toArray]
theorem VRs.func {r:Inj}{f:Nat}{a a' c c':List Value}(h:VRs r a a')(k:VRs r c c'):VR r (.func (.func f) a.toArray c.toArray) (.func (.func f) a'.toArray c'.toArray):=
 .func rfl (by simpa using h.1) (fun i v v' e e'=>h.2 i v v' (by simpa using e) (by simpa using e')) (by simpa using k.1) (fun i v v' e e'=>k.2 i v v' (by simpa using e) (by simpa using e'))
theorem Nr_ {f:Nat}{first cap:Array Operand}(ho:o.op= .makeFunc (.func f) first cap):OpV E o (I2 ds first.toList cap.toList fun x c=>M.pure (.func (.func f) x.toArray c.toArray)) ds:=by
 obtain⟨g,h1,h2⟩:=Dw ds first.toList
 obtain⟨g',h3,h4⟩:=Dw ds cap.toList
 refine⟨_,by unfold I2;rw[h1,h3],fun _ _ rho tm=>Dt (g:=g rho tm) (f:=fun(a:List Value) s=>Option.rec (motive:=fun _=>R Value) .none (fun(b:List Value)=>M.pure (Value.func (.func f) a.toArray b.toArray) s) (g' rho tm)) fun a=>Dt (f:=fun(b:List Value)=>M.pure (Value.func (.func f) a.toArray b.toArray)) fun b=>AD _, ?_⟩
 intro call round w0 w r U rho tm a s v s' hs hu hr h hf
 obtain⟨x',e1,h⟩:=De (f:=fun(a:List Value) s=>Option.rec (motive:=fun _=>R Value) .none (fun(b:List Value)=>M.pure (Value.func (.func f) a.toArray b.toArray) s) (g' rho tm)) h
 obtain⟨y',e2,h⟩:=De (f:=fun(b:List Value)=>M.pure (Value.func (.func f) x'.toArray b.toArray)) h
 obtain⟨rfl,rfl⟩:=AC h
 refine⟨_,w,r, .inl ?_, .of_rel rfl hr,(h2 _ _ _ _ _ _ hs (fun t q=>hu t (by simp[ho,Op.operands]at q ⊢;simp[q])) e1).func (h4 _ _ _ _ _ _ hs (fun t q=>hu t (by simp[ho,Op.operands]at q ⊢;simp[q])) e2),rfl,rfl⟩
 simp[execOp,ho,Instr.makeFunc]
 exact⟨ZB _ _,ZB _ _⟩
theorem AeO_ {b:Builtin}{c:Call}(ho:o.op= .call c)(hb:c.callee= .builtin b)(hn:b≠ .recover)(he:EnvTy E):OpV E o (GJ ds c.args.toList (A9 E b c.argTypes.toList)) ds:=by
 obtain⟨g,h1,h2⟩:=Dw ds c.args.toList
 refine⟨_,by unfold GJ;rw[h1],fun _ _ rho tm=>Dt (g:=g rho tm) (Zx_ _ _ _), ?_⟩
 intro call round w0 w r U rho tm a s v s' hs hu hr h hf
 obtain⟨l,e1,h⟩:=De h
 have hl:VRs r l (c.args.toList.map a.eval):=h2 _ _ _ _ _ _ hs (fun t q=>hu t (by simp[ho,Op.operands,Call.operands]at q ⊢;simp[q])) e1
 have key: ∀{m:Sem Value},Yields E w0 r s s' v w m→(∀(cs:Array Bool) w,(builtin b c.argTypes o.type cs (c.args.map a.eval)).run E.P w=(Ct m).run E.P w)→
   ∃v' w' r',((execOp a.eval o).run E.P w= .ok (.value v') w'∨((execOp a.eval o).run E.P w= .ok .skip w'∧v'=undef))∧Goes w0 r s s' r' w'∧VR r' v v'∧s'.lim=s.lim∧s'.cx=s.cx:=by
  intro m hy hm
  obtain⟨v',w',r',k1,k2,k3,k4,k5⟩:=hy
  refine⟨v',w',r', .inl ?_,k2,k3,k4,k5⟩
  simp only[execOp,ho,resolve,hb,invoke,Sem.run_bind,Sem.run_pure,Result.andThen_ok,hm,Ct,k1]
 generalize hts:c.argTypes.toList=ts at h
 have hmap:c.args.map a.eval=(c.args.toList.map a.eval).toArray:=by rw[←List.map_toArray]
 have ht0: ∀{t:Nat} {l:List Nat},c.argTypes.toList=t::l→c.argTypes[0]?=some t:=by
  intro t l e;rw[←Array.getElem?_toList,e];rfl
 have ht1: ∀{t t2:Nat} {l:List Nat},c.argTypes.toList=t::t2::l→c.argTypes[1]?=some t2:=by
  intro t t2 l e;rw[←Array.getElem?_toList,e];rfl
 unfold A9 at h
 split at h
 ·rename_i t ts' x
  obtain⟨x',l',q1,q2,q3⟩:=hl.inv
  have:=q3.inv_nil
  subst this
  refine key (Wj_ (ty:=o.type) (ht0 hts) he h hr q2) fun cs w=> ?_
  rw[hmap,q1];simp[builtin,Ct]
 ·rename_i t ts' x
  obtain⟨x',l',q1,q2,q3⟩:=hl.inv
  have:=q3.inv_nil
  subst this
  refine key (Te_ (ty:=o.type) (ht0 hts) he h hr q2) fun cs w=> ?_
  rw[hmap,q1];simp[builtin,Ct]
 ·obtain⟨y',l1,q1,q2,q3⟩:=hl.inv
  obtain⟨x',l',q4,q5,q6⟩:=q3.inv
  have:=q6.inv_nil
  subst this
  subst q4
  refine key (Mm_ (ty:=o.type) (ht0 hts) (ht1 hts) he h hr hf q2 q5) fun cs w=> ?_
  rw[hmap,q1];simp[builtin,Ct]
 ·obtain⟨y',l1,q1,q2,q3⟩:=hl.inv
  obtain⟨x',l',q4,q5,q6⟩:=q3.inv
  have:=q6.inv_nil
  subst this
  subst q4
  refine key (TF_ (ty:=o.type) (ht0 hts) he h hr q2 q5) fun cs w=> ?_
  rw[hmap,q1];simp[builtin,Ct]
 ·obtain⟨y',l1,q1,q2,q3⟩:=hl.inv
  obtain⟨x',l',q4,q5,q6⟩:=q3.inv
  have:=q6.inv_nil
  subst this
  subst q4
  refine key (ZY_ (ty:=o.type) (ht0 hts) he h hr q2 q5) fun cs w=> ?_
  rw[hmap,q1];simp[builtin,Ct]
 ·obtain⟨x',l',q1,q2,q3⟩:=hl.inv
  have:=q3.inv_nil
  subst this
  refine key (GM_ (ty:=o.type) (ht0 hts) he h hr q2) fun cs w=> ?_
  rw[hmap,q1];simp[builtin,Ct]
 ·refine key (Rz_ (ts:=c.argTypes) (ty:=o.type) h hr hl) fun cs w=> ?_
  rw[hmap];simp[builtin,Ct]
 ·refine key (Adr_ (ts:=c.argTypes) (ty:=o.type) h hr hl) fun cs w=> ?_
  rw[hmap];simp[builtin,Ct]
 ·cases h
end
abbrev Out (α:Type):Type:=Sum α (List PanicEntry)
def rOf {α:Type}(o:Out α)(s:St):R α:=
 match o with
 | .inl a=> .some a s
 | .inr c=> .pan c s
def Bnd (s:St):Prop:=s.lim≤s.next
structure LocG {α:Type}(m:M α)(s:St)(o:Out α)(s':St)(Rd Wr:Nat→Prop)(dr dw:List Nat):Prop where
 rd:s'.rd=dr++s.rd
 wr:s'.wr=dw++s.wr
 nxt:s.next≤s'.next
 lim:s'.lim=s.lim
 bnd:Bnd s'
 rlt: ∀l,Rd l→l<s'.next
 wlt: ∀l,Wr l→l<s'.next
 old: ∀l,¬Wr l→T.get s'.mem l=T.get s.mem l
 any: ∀t:St,t.next=s.next→t.lim=s.lim→t.cx=s.cx→(∀l,Rd l∨Wr l→T.get t.mem l=T.get s.mem l)→
  ∃t',m t=rOf o t'∧t'.next=s'.next∧t'.lim=s'.lim∧t'.cx=s'.cx∧t'.rd=dr++t.rd∧t'.wr=dw++t.wr∧
   (∀l,Wr l→T.get t'.mem l=T.get s'.mem l)∧(∀l,¬Wr l→T.get t'.mem l=T.get t.mem l)
def CP {α:Type}(m:M α)(s:St)(o:Out α)(s':St):Prop:=
 ∃Rd Wr dr dw,LocG m s o s' Rd Wr dr dw∧(∀l,Rd l→l<s.lim→l∈dr)∧(∀l,Wr l→l<s.lim→l∈dw)
structure Loc {α:Type}(m:M α):Prop where
 at': ∀s o s',m s=rOf o s'→Bnd s→CP m s o s'
theorem LocG.seq {α β:Type}{m:M α}{n C:M β}{s s1 s':St}{o1:Out α}{o:Out β}{R1 W1 R2 W2:Nat→Prop}{r1 w1 r2 w2:List Nat}
  (h:LocG m s o1 s1 R1 W1 r1 w1) (k:LocG n s1 o s' R2 W2 r2 w2) (hC: ∀t t1,m t=rOf o1 t1→C t=n t1):LocG C s o s' (fun l=>R1 l∨R2 l) (fun l=>W1 l∨W2 l) (r2++r1) (w2++w1) where
 rd:=by rw[k.rd,h.rd,List.append_assoc]
 wr:=by rw[k.wr,h.wr,List.append_assoc]
 nxt:=Nat.le_trans h.nxt k.nxt
 lim:=k.lim.trans h.lim
 bnd:=k.bnd
 rlt:=fun l e=>e.elim (fun e=>Nat.lt_of_lt_of_le (h.rlt l e) k.nxt) (k.rlt l)
 wlt:=fun l e=>e.elim (fun e=>Nat.lt_of_lt_of_le (h.wlt l e) k.nxt) (k.wlt l)
 old:=fun l e=>(k.old l fun x=>e (.inr x)).trans (h.old l fun x=>e (.inl x))
 any:=fun t e1 e2 e3 e4=>by
  obtain⟨t1,q1,q2,q3,q4,q5,q6,q7,q8⟩:=h.any t e1 e2 e3 fun l e=>e4 l (e.elim (fun e=> .inl (.inl e)) (fun e=> .inr (.inl e)))
  obtain⟨t2,p1,p2,p3,p4,p5,p6,p7,p8⟩:=k.any t1 q2 q3 q4 (fun l e=>by
   by_cases hw:W1 l
   ·exact q7 l hw
   ·rw[q8 l hw,h.old l hw]
    exact e4 l (e.elim (fun e=> .inl (.inr e)) (fun e=> .inr (.inr e))))
  refine⟨t2,(hC t t1 q1).trans p1,p2,p3,p4,by rw[p5,q5,List.append_assoc],by rw[p6,q6,List.append_assoc],fun l e=> ?_,fun l e=>(p8 l fun x=>e (.inr x)).trans (q8 l fun x=>e (.inl x))⟩
  by_cases hw:W2 l
  ·exact p7 l hw
  ·rw[p8 l hw,k.old l hw]
   exact e.elim (q7 l) (fun x=>absurd x hw)
theorem CP.bnd {α:Type}{m:M α}{s s':St}{o:Out α}(h:CP m s o s'):Bnd s':=let ⟨_,_,_,_,e,_⟩:=h;e.bnd
theorem CP.lim {α:Type}{m:M α}{s s':St}{o:Out α}(h:CP m s o s'):s'.lim=s.lim:=let ⟨_,_,_,_,e,_⟩:=h;e.lim
theorem CP.next {α:Type}{m:M α}{s s':St}{o:Out α}(h:CP m s o s'):s.next≤s'.next:=let ⟨_,_,_,_,e,_⟩:=h;e.nxt
theorem CP.seq {α β:Type}{m:M α}{n C:M β}{s s1 s':St}{o1:Out α}{o:Out β}(h:CP m s o1 s1)(k:CP n s1 o s')(hC: ∀t t1,m t=rOf o1 t1→C t=n t1):CP C s o s':=by
 obtain⟨R1,W1,r1,w1,h1,h2,h3⟩:=h
 obtain⟨R2,W2,r2,w2,k1,k2,k3⟩:=k
 refine⟨_,_,_,_,h1.seq k1 hC,fun l e x=> ?_,fun l e x=> ?_⟩
 ·exact e.elim (fun e=>List.mem_append_right _ (h2 l e x)) (fun e=>List.mem_append_left _ (k2 l e (by rw[h1.lim];exact x)))
 ·exact e.elim (fun e=>List.mem_append_right _ (h3 l e x)) (fun e=>List.mem_append_left _ (k3 l e (by rw[h1.lim];exact x)))
theorem Bk {α:Type}{o:Out α}{a:α}{s s':St}(h:R.some a s=rOf o s'):o= .inl a∧s'=s:=by cases o<;>cases h;exact⟨rfl,rfl⟩
theorem IZ {α:Type}{o:Out α}{c:List PanicEntry}{s s':St}(h:R.pan c s=rOf o s'):o= .inr c∧s'=s:=by cases o<;>cases h;exact⟨rfl,rfl⟩
theorem A5 {α:Type}{o:Out α}{s':St}(h:R.none=rOf o s'):False:=by cases o<;>cases h
theorem CP.quiet {α:Type}{m:M α}{s:St}{o:Out α}(hb:Bnd s)(h: ∀t:St,t.cx=s.cx→m t=rOf o t):CP m s o s:=
 ⟨fun _=>False,fun _=>False,[],[],⟨rfl,rfl,Nat.le_refl _,rfl,hb,fun _ e=>e.elim,fun _ e=>e.elim,fun _ _=>rfl,
  fun t e1 e2 e3 _=>⟨t,h t e3,e1,e2,e3,rfl,rfl,fun _ e=>e.elim,fun _ _=>rfl⟩⟩,fun _ e=>e.elim,fun _ e=>e.elim⟩
theorem AA {α:Type}(a:α):Loc (M.pure a):=⟨fun s o s' h hb=>by
 obtain⟨rfl,rfl⟩:=Bk h
 exact .quiet hb fun t _=>rfl⟩
theorem Az {α:Type}:Loc (M.fail:M α):=⟨fun s o s' h hb=>(A5 h).elim⟩
theorem AQ {α:Type}(x:Option α):Loc (M.ofOpt x):=by
 cases x with
 |none=>exact Az
 |some a=>exact AA a
theorem I3 {α β:Type}{m:M α}{f:α→M β}{g:List PanicEntry→M β}(h:Loc m)(kf: ∀a,Loc (f a))(kg: ∀c,Loc (g c)):
  Loc (fun s=>R.rec (motive:=fun _=>R β) .none (fun a s=>f a s) (fun c s=>g c s) (m s)):=⟨fun s o s' e hb=>by
 cases e1:m s with
 |none=>rw[e1]at e;exact(A5 e).elim
 |some a s1=>
  rw[e1]at e
  have h1:=h.at' s (.inl a) s1 e1 hb
  exact h1.seq ((kf a).at' s1 o s' e h1.bnd) fun t t1 q=>by rw[q];rfl
 |pan c s1=>
  rw[e1]at e
  have h1:=h.at' s (.inr c) s1 e1 hb
  exact h1.seq ((kg c).at' s1 o s' e h1.bnd) fun t t1 q=>by rw[q];rfl⟩
theorem Ri {α:Type}(c:List PanicEntry):Loc (fun s=>R.pan c s:M α):=⟨fun s o s' h hb=>by
 obtain⟨rfl,rfl⟩:=IZ h
 exact .quiet hb fun t _=>rfl⟩
theorem Wz {α:Type}:Loc (fun _=>R.none:M α):=⟨fun s o s' h hb=>(A5 h).elim⟩
theorem Ax {α β:Type}{m:M α}{f:α→M β}(h:Loc m)(k: ∀a,Loc (f a)):Loc (M.bind m f):=I3 h k fun c=>Ri c
theorem Fm {α:Type}{m:M α}(h:Loc m):Loc (noP m):=I3 h (fun a=>AA a) fun _=>Wz
theorem AI {α:Type}(b:Bool){m:M α}(h:Loc m):Loc (M.chk b m):=by
 cases b with
 |false=>exact Az
 |true=>exact h
theorem AU {α:Type}(b:Bool){m n:M α}(h:Loc m)(k:Loc n):Loc (M.if b m n):=by cases b<;>assumption
theorem AG {α β:Type}(x:Option α){f:α→M β}(k: ∀a,Loc (f a)):Loc (M.on x f):=by
 cases x with
 |none=>exact Az
 |some a=>exact k a
theorem AO {α:Type}(n:Nat){f:Nat→M α}(k: ∀a,Loc (f a)):Loc (fN n f):=by rw[A7];exact k _
theorem AN {α:Type}(n:Int){f:Int→M α}(k: ∀a,Loc (f a)):Loc (fI n f):=by rw[Ci];exact k _
theorem AT {α:Type}(n:Addr){f:Addr→M α}(k: ∀a,Loc (f a)):Loc (fA n f):=by rw[CI];exact k _
theorem AY {α:Type}(v:Value){f:IntKind→Int→M α}{d:M α}(h: ∀k n,Loc (f k n))(k:Loc d):Loc (Cj v f d):=by
 cases v<;>first|exact h _ _|exact k
theorem AW {α:Type}(b:Bool){m n:M α}(h:Loc m)(k:Loc n):Loc (Bool.rec (motive:=fun _=>M α) m n b):=by cases b<;>assumption
theorem AM {α β:Type}(x:Option α){m:M β}{f:α→M β}(h:Loc m)(k: ∀a,Loc (f a)):Loc (Option.rec (motive:=fun _=>M β) m (fun a=>f a) x):=by
 cases x with
 |none=>exact h
 |some a=>exact k a
theorem KL (loc lim:Nat)(l:List Nat):notes loc lim l=if loc<lim then loc::l else l:=by
 unfold notes
 cases h:Nat.blt loc lim with
 |true=>rw[if_pos (BE h)]
 |false=>rw[if_neg];intro h2;rw[show Nat.blt loc lim=true from Nat.ble_eq_true_of_le h2]at h;cases h
theorem EC (loc lim:Nat)(l:List Nat):notes loc lim l=notes loc lim []++l:=by
 rw[KL,KL]
 split<;>rfl
theorem PN {loc lim:Nat}(h:loc<lim):loc∈notes loc lim []:=by rw[KL,if_pos h];exact List.mem_cons_self
theorem BS_ (loc:Nat)(s:St):rdC loc s=if loc<s.next then match T.get s.mem loc with|none=> .none|some c=> .some c ⟨s.mem,s.next,s.lim,notes loc s.lim s.rd,s.wr,s.cx⟩else .none:=by
 obtain⟨mem,next,lim,rd,wr,cx⟩:=s
 unfold rdC
 simp only
 cases hb:Nat.blt loc next with
 |false=>rw[if_neg];intro h2;rw[show Nat.blt loc next=true from Nat.ble_eq_true_of_le h2]at hb;cases hb
 |true=>
  rw[if_pos (BE hb)]
  cases T.get mem loc<;>rfl
theorem BQ_ (loc:Nat)(c:Cell)(s:St):wrC loc c s=if loc<s.next then .some () ⟨T.set s.mem loc c,s.next,s.lim,s.rd,notes loc s.lim s.wr,s.cx⟩else .none:=by
 obtain⟨mem,next,lim,rd,wr,cx⟩:=s
 unfold wrC
 obtain⟨v,l,r,e⟩:=T.set_N mem loc c
 simp only[e]
 cases hb:Nat.blt loc next with
 |false=>rw[if_neg];intro h2;rw[show Nat.blt loc next=true from Nat.ble_eq_true_of_le h2]at hb;cases hb
 |true=>rw[if_pos (BE hb)]
theorem UQ (loc:Nat)(s:St):delC loc s=if loc<s.next then .some () ⟨T.del s.mem loc,s.next,s.lim,s.rd,notes loc s.lim s.wr,s.cx⟩else .none:=by
 obtain⟨mem,next,lim,rd,wr,cx⟩:=s
 unfold delC
 simp only
 cases hb:Nat.blt loc next with
 |false=>rw[if_neg];intro h2;rw[show Nat.blt loc next=true from Nat.ble_eq_true_of_le h2]at hb;cases hb
 |true=>rw[if_pos (BE hb)]
theorem U4 (vs:List Value)(s:St):newL vs s= .some s.next ⟨layL s.next vs s.next s.mem,s.next+vs.length+1,s.lim,s.rd,s.wr,s.cx⟩:=by
 obtain⟨mem,next,lim,rd,wr,cx⟩:=s
 have h0:newL vs ⟨mem,next,lim,rd,wr,cx⟩=fN next fun b=>fN (Nat.succ (Nat.add b vs.length)) fun n=>R.some b (St.mk (layL b vs b mem) n lim rd wr cx):=rfl
 rw[h0,A7,A7]
 rfl
theorem Uh (o:AObj)(s:St):newO o s= .some s.next ⟨T.set s.mem s.next (.O o),s.next+1,s.lim,s.rd,s.wr,s.cx⟩:=by
 obtain⟨mem,next,lim,rd,wr,cx⟩:=s
 have h0:newO o ⟨mem,next,lim,rd,wr,cx⟩=fN next fun b=>fN (Nat.succ b) fun n=>R.some b (St.mk (T.set mem b (.O o)) n lim rd wr cx):=rfl
 rw[h0,A7,A7]
theorem CU (loc:Nat):Loc (rdC loc):=⟨fun s o s' h hb=>by
 rw[BS_]at h
 split at h
 case isFalse=>exact(A5 h).elim
 case isTrue hl=>
  cases e:T.get s.mem loc with
  |none=>rw[e]at h;exact(A5 h).elim
  |some c=>
   rw[e]at h
   obtain⟨rfl,rfl⟩:=Bk h
   refine⟨fun l=>l=loc,fun _=>False,notes loc s.lim [],[],⟨EC _ _ _,rfl,Nat.le_refl _,rfl,hb,fun l e1=>by rw[e1];exact hl,fun _ e=>e.elim,fun _ _=>rfl,fun t e1 e2 e3 e4=> ?_⟩,fun l e1 e2=> ?_,fun _ e=>e.elim⟩
   ·refine⟨⟨t.mem,t.next,t.lim,notes loc t.lim t.rd,t.wr,t.cx⟩, ?_,e1,e2,e3, ?_,rfl,fun _ e=>e.elim,fun _ _=>rfl⟩
    ·rw[BS_,if_pos (by rw[e1];exact hl),e4 loc (.inl rfl),e];rfl
    ·rw[←e2];exact EC _ _ _
   ·rw[e1];exact PN (by rw[←e1];exact e2)⟩
theorem Cs (loc:Nat)(c:Cell):Loc (wrC loc c):=⟨fun s o s' h hb=>by
 rw[BQ_]at h
 split at h
 case isFalse=>exact(A5 h).elim
 case isTrue hl=>
  obtain⟨rfl,rfl⟩:=Bk h
  refine⟨fun _=>False,fun l=>l=loc,[],notes loc s.lim [],⟨rfl,EC _ _ _,Nat.le_refl _,rfl,hb,fun _ e=>e.elim,fun l e1=>by rw[e1];exact hl,fun l e=> ?_,fun t e1 e2 e3 e4=> ?_⟩,fun _ e=>e.elim,fun l e1 e2=> ?_⟩
  ·simp only[T.get_set,if_neg e]
  ·refine⟨⟨T.set t.mem loc c,t.next,t.lim,t.rd,notes loc t.lim t.wr,t.cx⟩, ?_,e1,e2,e3,rfl, ?_,fun l e=> ?_,fun l e=> ?_⟩
   ·rw[BQ_,if_pos (by rw[e1];exact hl)];rfl
   ·rw[←e2];exact EC _ _ _
   ·simp only[T.get_set,if_pos e]
   ·simp only[T.get_set,if_neg e]
  ·rw[e1];exact PN (by rw[←e1];exact e2)⟩
theorem PP_ (loc:Nat):Loc (delC loc):=⟨fun s o s' h hb=>by
 rw[UQ]at h
 split at h
 case isFalse=>exact(A5 h).elim
 case isTrue hl=>
  obtain⟨rfl,rfl⟩:=Bk h
  refine⟨fun _=>False,fun l=>l=loc,[],notes loc s.lim [],⟨rfl,EC _ _ _,Nat.le_refl _,rfl,hb,fun _ e=>e.elim,fun l e1=>by rw[e1];exact hl,fun l e=> ?_,fun t e1 e2 e3 e4=> ?_⟩,fun _ e=>e.elim,fun l e1 e2=> ?_⟩
  ·simp only[T.get_del,if_neg e]
  ·refine⟨⟨T.del t.mem loc,t.next,t.lim,t.rd,notes loc t.lim t.wr,t.cx⟩, ?_,e1,e2,e3,rfl, ?_,fun l e=> ?_,fun l e=> ?_⟩
   ·rw[UQ,if_pos (by rw[e1];exact hl)];rfl
   ·rw[←e2];exact EC _ _ _
   ·simp only[T.get_del,if_pos e]
   ·simp only[T.get_del,if_neg e]
  ·rw[e1];exact PN (by rw[←e1];exact e2)⟩
theorem Nm (b:Nat): ∀(vs:List Value) (loc:Nat) (t:T Cell) (k:Nat),T.get (layL b vs loc t) k=if loc≤k∧k<loc+vs.length then(vs[k-loc]?).map (.C b)else T.get t k
 |[],loc,t,k=>by rw[if_neg (fun e=>by have:=e.2;simp at this;omega)];rfl
 |v::vs,loc,t,k=>by
  have h0:layL b (v::vs) loc t=fN loc fun loc=>layL b vs (Nat.succ loc) (T.set t loc (.C b v)):=rfl
  rw[h0,A7,Nm b vs]
  by_cases h1:loc=k
  ·subst h1
   rw[if_neg (by omega),if_pos (by simp),T.get_set,if_pos rfl]
   simp
  ·by_cases h2:loc≤k∧k<loc+(v::vs).length
   ·have h3:k-loc=(k-Nat.succ loc)+1:=by omega
    rw[if_pos h2,if_pos (by simp at h2 ⊢;omega),h3,List.getElem?_cons_succ]
   ·rw[if_neg h2,if_neg (by simp at h2 ⊢;omega),T.get_set,if_neg (fun e=>h1 e.symm)]
theorem ES (vs:List Value):Loc (newL vs):=⟨fun s o s' h hb=>by
 rw[U4]at h
 obtain⟨rfl,rfl⟩:=Bk h
 refine⟨fun _=>False,fun l=>s.next≤l∧l<s.next+vs.length,[],[],⟨rfl,rfl,by show s.next≤s.next+vs.length+1;omega,rfl, ?_,fun _ e=>e.elim,fun l e=> ?_,fun l e=> ?_,fun t e1 e2 e3 e4=> ?_⟩,fun _ e=>e.elim,fun l e1 e2=> ?_⟩
 ·show s.lim≤s.next+vs.length+1
  unfold Bnd at hb;omega
 ·show l<s.next+vs.length+1
  omega
 ·simp only[Nm,if_neg e]
 ·refine⟨⟨layL t.next vs t.next t.mem,t.next+vs.length+1,t.lim,t.rd,t.wr,t.cx⟩, ?_,by rw[e1],e2,e3,rfl,rfl,fun l e=> ?_,fun l e=> ?_⟩
  ·rw[U4,e1];rfl
  ·simp only[Nm,e1,if_pos e]
  ·simp only[Nm,e1,if_neg e]
 ·unfold Bnd at hb;omega⟩
theorem Hk (x:AObj):Loc (newO x):=⟨fun s o s' h hb=>by
 rw[Uh]at h
 obtain⟨rfl,rfl⟩:=Bk h
 refine⟨fun _=>False,fun l=>l=s.next,[],[],⟨rfl,rfl,by show s.next≤s.next+1;omega,rfl, ?_,fun _ e=>e.elim,fun l e=> ?_,fun l e=> ?_,fun t e1 e2 e3 e4=> ?_⟩,fun _ e=>e.elim,fun l e1 e2=> ?_⟩
 ·show s.lim≤s.next+1
  unfold Bnd at hb;omega
 ·show l<s.next+1
  omega
 ·simp only[T.get_set,if_neg e]
 ·refine⟨⟨T.set t.mem t.next (.O x),t.next+1,t.lim,t.rd,t.wr,t.cx⟩, ?_,by rw[e1],e2,e3,rfl,rfl,fun l e=> ?_,fun l e=> ?_⟩
  ·rw[Uh,e1];rfl
  ·simp only[T.get_set,e1,if_pos e]
  ·simp only[T.get_set,e1,if_neg e]
 ·unfold Bnd at hb;omega⟩
theorem IY:Loc getCx:=⟨fun s o s' h hb=>by
 obtain⟨rfl,rfl⟩:=Bk (show R.some s.cx s=rOf o s' from h)
 exact .quiet hb fun t e=>by rw[←e];rfl⟩
theorem KN (x:Ctx):Loc (putCx x):=⟨fun s o s' h hb=>by
 obtain⟨rfl,rfl⟩:=Bk (show R.some () (St.mk s.mem s.next s.lim s.rd s.wr x)=rOf o s' from h)
 exact⟨fun _=>False,fun _=>False,[],[],⟨rfl,rfl,Nat.le_refl _,rfl,hb,fun _ e=>e.elim,fun _ e=>e.elim,fun _ _=>rfl,
  fun t e1 e2 e3 _=>⟨St.mk t.mem t.next t.lim t.rd t.wr x,rfl,e1,e2,rfl,rfl,rfl,fun _ e=>e.elim,fun _ _=>rfl⟩⟩,fun _ e=>e.elim,fun _ e=>e.elim⟩⟩
theorem ED (a:Addr):Loc (rdV a):=by
 obtain⟨b,o,s⟩:=a
 cases s with
 |some x=>exact Az
 |none=>exact Ax (CU _) fun c=>AQ _
theorem Uz (a:Addr)(v:Value):Loc (wrV a v):=by
 obtain⟨b,o,s⟩:=a
 cases s with
 |some x=>exact Az
 |none=>exact Ax (CU _) fun c=>AI _ (Cs _ _)
theorem Fk: ∀(n:Nat) (a:Addr),Loc (rdL n a)
 |0,_=>AA _
 |n+1,a=>by
  have h0:rdL (n+1) a=fA a fun a=>M.bind (rdV a) fun v=>M.bind (rdL n ⟨a.block,Nat.succ a.off,a.spot⟩) fun l=>M.pure (v::l):=rfl
  rw[h0]
  exact AT _ fun a=>Ax (ED a) fun v=>Ax (Fk n _) fun l=>AA _
theorem IS: ∀(vs:List Value) (a:Addr),Loc (wrL vs a)
 |[],_=>AA _
 |v::vs,a=>by
  have h0:wrL (v::vs) a=fA a fun a=>M.bind (wrV a v) fun _=>wrL vs ⟨a.block,Nat.succ a.off,a.spot⟩:=rfl
  rw[h0]
  exact AT _ fun a=>Ax (Uz a v) fun v=>IS vs _
theorem WY: ∀(n l:Nat),Loc (CD n l)
 |0,_=>AA _
 |n+1,l=>by
  have h0:CD (n+1) l=M.bind (delC l) fun _=>CD n (l+1):=rfl
  rw[h0]
  exact Ax (PP_ l) fun _=>WY n _
theorem Bu (x0:_)(x1:_):Loc (ti x0 x1):=by
 unfold ti
 repeat' (first|exact AA _|exact Az|exact AQ _|apply Ax|apply AI|apply AU|apply AG|apply AO|apply AN|apply AT|apply AY|apply AW|apply AM|intro _|split)
theorem I7 (x0:_):Loc (pV x0):=by
 unfold pV
 repeat' (first|exact AA _|exact Az|exact AQ _|apply Ax|apply AI|apply AU|apply AG|apply AO|apply AN|apply AT|apply AY|apply AW|apply AM|intro _|split)
theorem MI_ (x0:_)(x1:_)(x2:_)(x3:_)(x4:_):Loc (C6 x0 x1 x2 x3 x4):=by
 unfold C6
 repeat' (first|exact AA _|exact Az|exact AQ _|exact Bu _ _|apply Ax|apply AI|apply AU|apply AG|apply AO|apply AN|apply AT|apply AY|apply AW|apply AM|intro _|split)
theorem VX_ (x0:_)(x1:_):Loc (Gn x0 x1):=by
 unfold Gn
 repeat' (first|exact AA _|exact Az|exact AQ _|apply Ax|apply AI|apply AU|apply AG|apply AO|apply AN|apply AT|apply AY|apply AW|apply AM|intro _|split)
theorem AeM_ (x0:_)(x1:_)(x2:_):Loc (Hp x0 x1 x2):=by
 unfold Hp
 repeat' (first|exact AA _|exact Az|exact AQ _|exact VX_ _ _|apply Ax|apply AI|apply AU|apply AG|apply AO|apply AN|apply AT|apply AY|apply AW|apply AM|intro _|split)
theorem Pu_ (x0:_)(x1:_)(x2:_)(x3:_)(x4:_)(x5:_)(x6:_):Loc (Bv x0 x1 x2 x3 x4 x5 x6):=by
 unfold Bv
 repeat' (first|exact AA _|exact Az|exact AQ _|exact AeM_ _ _ _|exact MI_ _ _ _ _ _|exact I7 _|apply Ax|apply AI|apply AU|apply AG|apply AO|apply AN|apply AT|apply AY|apply AW|apply AM|intro _|split)
theorem LJ_ (x0:_):Loc (lenOf x0):=by
 unfold lenOf
 repeat' (first|exact AA _|exact Az|exact AQ _|apply Ax|apply AI|apply AU|apply AG|apply AO|apply AN|apply AT|apply AY|apply AW|apply AM|intro _|split)
theorem EC_ (x0:_)(x1:_)(x2:_):Loc (Fq x0 x1 x2):=by
 unfold Fq
 repeat' (first|exact AA _|exact Az|exact AQ _|exact Bu _ _|exact Fk _ _|exact ED _|apply Ax|apply AI|apply AU|apply AG|apply AO|apply AN|apply AT|apply AY|apply AW|apply AM|intro _|split)
theorem JF_ (x0:_)(x1:_)(x2:_)(x3:_):Loc (Ho x0 x1 x2 x3):=by
 unfold Ho
 repeat' (first|exact AA _|exact Az|exact AQ _|exact Bu _ _|exact IS _ _|apply Ax|apply AI|apply AU|apply AG|apply AO|apply AN|apply AT|apply AY|apply AW|apply AM|intro _|split)
theorem Hm (x0:_):Loc (asA x0):=by
 unfold asA
 repeat' (first|exact AA _|exact Az|exact AQ _|apply Ax|apply AI|apply AU|apply AG|apply AO|apply AN|apply AT|apply AY|apply AW|apply AM|intro _|split)
theorem Kr (x0:_)(x1:_)(x2:_):Loc (bnd x0 x1 x2):=by
 unfold bnd
 repeat' (first|exact AA _|exact Az|exact AQ _|apply Ax|apply AI|apply AU|apply AG|apply AO|apply AN|apply AT|apply AY|apply AW|apply AM|intro _|split)
theorem SG (x0:_):Loc (ptrA x0):=by
 unfold ptrA
 repeat' (first|exact AA _|exact Az|exact AQ _|apply Ax|apply AI|apply AU|apply AG|apply AO|apply AN|apply AT|apply AY|apply AW|apply AM|intro _|split)
theorem HZ (x0:_)(x1:_)(x2:_):Loc (pSl x0 x1 x2):=by
 unfold pSl
 repeat' (first|exact AA _|exact Az|exact AQ _|apply Ax|apply AI|apply AU|apply AG|apply AO|apply AN|apply AT|apply AY|apply AW|apply AM|intro _|split)
theorem LD (x0:_):Loc (pN x0):=by
 unfold pN
 repeat' (first|exact AA _|exact Az|exact AQ _|apply Ax|apply AI|apply AU|apply AG|apply AO|apply AN|apply AT|apply AY|apply AW|apply AM|intro _|split)
theorem AaE_ (x0:_)(x1:_)(x2:_)(x3:_)(x4:_):Loc (FU x0 x1 x2 x3 x4):=by
 unfold FU
 repeat' (first|exact AA _|exact Az|exact AQ _|exact HZ _ _ _|exact Kr _ _ _|apply Ax|apply AI|apply AU|apply AG|apply AO|apply AN|apply AT|apply AY|apply AW|apply AM|intro _|split)
theorem Rn_ (x0:_)(x1:_)(x2:_)(x3:_)(x4:_)(x5:_):Loc (slSl x0 x1 x2 x3 x4 x5):=by
 unfold slSl
 repeat' (first|exact AA _|exact Az|exact AQ _|exact HZ _ _ _|exact Kr _ _ _|apply Ax|apply AI|apply AU|apply AG|apply AO|apply AN|apply AT|apply AY|apply AW|apply AM|intro _|split)
theorem SZ_ (x0:_)(x1:_)(x2:_):Loc (F7 x0 x1 x2):=by
 unfold F7
 repeat' (first|exact AA _|exact Az|exact AQ _|exact Kr _ _ _|apply Ax|apply AI|apply AU|apply AG|apply AO|apply AN|apply AT|apply AY|apply AW|apply AM|intro _|split)
theorem Vb_ (x0:_)(x1:_)(x2:_)(x3:_)(x4:_):Loc (Cb x0 x1 x2 x3 x4):=by
 unfold Cb
 repeat' (first|exact AA _|exact Az|exact AQ _|exact SZ_ _ _ _|exact Rn_ _ _ _ _ _ _|exact AaE_ _ _ _ _ _|exact Kr _ _ _|exact Bu _ _|apply Ax|apply AI|apply AU|apply AG|apply AO|apply AN|apply AT|apply AY|apply AW|apply AM|intro _|split)
theorem V1 (x0:_)(x1:_)(x2:_):Loc (srcL x0 x1 x2):=by
 unfold srcL
 repeat' (first|exact AA _|exact Az|exact AQ _|exact Fk _ _|apply Ax|apply AI|apply AU|apply AG|apply AO|apply AN|apply AT|apply AY|apply AW|apply AM|intro _|split)
theorem Jf_ (x0:_)(x1:_)(x2:_):Loc (appN x0 x1 x2):=by
 unfold appN
 repeat' (first|exact AA _|exact Az|exact AQ _|apply Ax|apply AI|apply AU|apply AG|apply AO|apply AN|apply AT|apply AY|apply AW|apply AM|intro _|split)
theorem Xx_ (x0:_)(x1:_)(x2:_)(x3:_):Loc (appL x0 x1 x2 x3):=by
 unfold appL
 repeat' (first|exact AA _|exact Az|exact AQ _|exact V1 _ _ _|apply Ax|apply AI|apply AU|apply AG|apply AO|apply AN|apply AT|apply AY|apply AW|apply AM|intro _|split)
theorem Wq_ (x0:_)(x1:_)(x2:_):Loc (oldL x0 x1 x2):=by
 unfold oldL
 repeat' (first|exact AA _|exact Az|exact AQ _|exact Fk _ _|apply Ax|apply AI|apply AU|apply AG|apply AO|apply AN|apply AT|apply AY|apply AW|apply AM|intro _|split)
theorem AeT_ (x0:_)(x1:_)(x2:_):Loc (E6 x0 x1 x2):=by
 unfold E6
 repeat' (first|exact AA _|exact Az|exact AQ _|exact WY _ _|apply Ax|apply AI|apply AU|apply AG|apply AO|apply AN|apply AT|apply AY|apply AW|apply AM|intro _|split)
theorem AdZ_ (x0:_)(x1:_)(x2:_)(x3:_):Loc (Dc x0 x1 x2 x3):=by
 unfold Dc
 repeat' (first|exact AA _|exact Az|exact AQ _|exact AeT_ _ _ _|exact Cs _ _|exact CU _|apply Ax|apply AI|apply AU|apply AG|apply AO|apply AN|apply AT|apply AY|apply AW|apply AM|intro _|split)
theorem AbP_ (x0:_)(x1:_)(x2:_)(x3:_)(x4:_)(x5:_)(x6:_)(x7:_):Loc (grow x0 x1 x2 x3 x4 x5 x6 x7):=by
 unfold grow
 repeat' (first|exact AA _|exact Az|exact AQ _|exact AdZ_ _ _ _ _|exact Wq_ _ _ _|exact HZ _ _ _|exact ES _|exact Cs _ _|apply Ax|apply AI|apply AU|apply AG|apply AO|apply AN|apply AT|apply AY|apply AW|apply AM|intro _|split)
theorem Kp_ (x0:_)(x1:_)(x2:_)(x3:_)(x4:_)(x5:_):Loc (EJ x0 x1 x2 x3 x4 x5):=by
 unfold EJ
 repeat' (first|exact AA _|exact Az|exact AQ _|exact HZ _ _ _|exact IS _ _|apply Ax|apply AI|apply AU|apply AG|apply AO|apply AN|apply AT|apply AY|apply AW|apply AM|intro _|split)
theorem UX_ (x0:_)(x1:_)(x2:_)(x3:_)(x4:_):Loc (Ck x0 x1 x2 x3 x4):=by
 unfold Ck
 repeat' (first|exact AA _|exact Az|exact AQ _|exact Kp_ _ _ _ _ _ _|exact AbP_ _ _ _ _ _ _ _ _|exact Xx_ _ _ _ _|exact Jf_ _ _ _|exact Bu _ _|apply Ax|apply AI|apply AU|apply AG|apply AO|apply AN|apply AT|apply AY|apply AW|apply AM|intro _|split)
theorem Ie_ (x0:_)(x1:_)(x2:_):Loc (Co x0 x1 x2):=by
 unfold Co
 repeat' (first|exact AA _|exact Az|exact AQ _|exact Bu _ _|apply Ax|apply AI|apply AU|apply AG|apply AO|apply AN|apply AT|apply AY|apply AW|apply AM|intro _|split)
theorem Qf_ (x0:_)(x1:_)(x2:_)(x3:_):Loc (Cp x0 x1 x2 x3):=by
 unfold Cp
 repeat' (first|exact AA _|exact Az|exact AQ _|exact Bu _ _|exact ES _|exact Cs _ _|apply Ax|apply AI|apply AU|apply AG|apply AO|apply AN|apply AT|apply AY|apply AW|apply AM|intro _|split)
theorem Sk (x0:_)(x1:_)(x2:_)(x3:_):Loc (EH x0 x1 x2 x3):=by
 unfold EH
 repeat' (first|exact AA _|exact Az|exact AQ _|exact Bu _ _|apply Ax|apply AI|apply AU|apply AG|apply AO|apply AN|apply AT|apply AY|apply AW|apply AM|intro _|split)
theorem WM_ (x0:_)(x1:_)(x2:_)(x3:_)(x4:_):Loc (EW x0 x1 x2 x3 x4):=by
 unfold EW
 repeat' (first|exact AA _|exact Az|exact AQ _|exact V1 _ _ _|exact LD _|exact LJ_ _|exact Bu _ _|exact IS _ _|apply Ax|apply AI|apply AU|apply AG|apply AO|apply AN|apply AT|apply AY|apply AW|apply AM|intro _|split)
theorem EF (x0:_):Loc (mapAt x0):=by
 unfold mapAt
 repeat' (first|exact AA _|exact Az|exact AQ _|exact CU _|apply Ax|apply AI|apply AU|apply AG|apply AO|apply AN|apply AT|apply AY|apply AW|apply AM|intro _|split)
theorem AaT_ (x0:_):Loc (Ej x0):=by
 unfold Ej
 repeat' (first|exact AA _|exact Az|exact AQ _|exact EF _|exact LD _|apply Ax|apply AI|apply AU|apply AG|apply AO|apply AN|apply AT|apply AY|apply AW|apply AM|intro _|split)
theorem AeL_ (x0:_)(x1:_)(x2:_):Loc (aLen x0 x1 x2):=by
 unfold aLen
 repeat' (first|exact AA _|exact Az|exact AQ _|exact AaT_ _|exact LD _|exact Bu _ _|apply Ax|apply AI|apply AU|apply AG|apply AO|apply AN|apply AT|apply AY|apply AW|apply AM|intro _|split)
theorem AeX_ (x0:_)(x1:_)(x2:_):Loc (aCap x0 x1 x2):=by
 unfold aCap
 repeat' (first|exact AA _|exact Az|exact AQ _|exact LD _|exact Bu _ _|apply Ax|apply AI|apply AU|apply AG|apply AO|apply AN|apply AT|apply AY|apply AW|apply AM|intro _|split)
theorem PI_ (x0:_)(x1:_)(x2:_):Loc (Gp x0 x1 x2):=by
 unfold Gp
 repeat' (first|exact AA _|exact Az|exact AQ _|exact Bu _ _|exact IS _ _|apply Ax|apply AI|apply AU|apply AG|apply AO|apply AN|apply AT|apply AY|apply AW|apply AM|intro _|split)
theorem WD (x0:_):Loc (zeroV x0):=by
 unfold zeroV
 repeat' (first|exact AA _|exact Az|exact AQ _|apply Ax|apply AI|apply AU|apply AG|apply AO|apply AN|apply AT|apply AY|apply AW|apply AM|intro _|split)
theorem GY (E:_)(e:_)(t:_)(k:_)(es:_):Loc (Cx E e t k es):=AI _ (AG _ fun _=>AA _)
theorem Qh (x0:_)(x1:_)(x2:_):Loc (DJ x0 x1 x2):=by
 unfold DJ
 repeat' (first|exact AA _|exact Az|exact AQ _|apply Ax|apply AI|apply AU|apply AG|apply AO|apply AN|apply AT|apply AY|apply AW|apply AM|intro _|split)
theorem RV (x0:_)(x1:_):Loc (zeroOf x0 x1):=by
 unfold zeroOf
 repeat' (first|exact AA _|exact Az|exact AQ _|exact WD _|exact Bu _ _|apply Ax|apply AI|apply AU|apply AG|apply AO|apply AN|apply AT|apply AY|apply AW|apply AM|intro _|split)
theorem AcF_ (E:_)(a:_)(b:_)(k:_)(c:_):Loc (Pu E a b k c):=Ax (GY _ _ _ _ _) fun r=>by
 cases r with
 |none=>exact Ax (RV _ _) fun _=>Qh _ _ _
 |some j=>exact Az
theorem Lj_ (E:_)(a:_)(b:_)(k:_)(c:_)(es:_):Loc (DI E a b k c es):=Ax (GY _ _ _ _ _) fun r=>by
 cases r with
 |none=>exact Ax (RV _ _) fun _=>Qh _ _ _
 |some j=>exact AG _ fun _=>Qh _ _ _
theorem Iy (x0:_)(x1:_):Loc (mapT x0 x1):=by
 unfold mapT
 repeat' (first|exact AA _|exact Az|exact AQ _|exact Bu _ _|apply Ax|apply AI|apply AU|apply AG|apply AO|apply AN|apply AT|apply AY|apply AW|apply AM|intro _|split)
theorem UK_ (E:_)(t:_)(c:_)(x:_)(k:_):Loc (CX E t c x k):=Ax (Iy _ _) fun ke=>by
 cases x with
 |map m=>
  cases m with
  |none=>exact AcF_ _ _ _ _ _
  |some l=>exact Ax (EF _) fun p=>Lj_ _ _ _ _ _ _
 |_=>exact Az
theorem Vf_ (E:_)(t:_)(k:_)(x:_)(l:_)(p:_):Loc (putE E t k x l p):=Ax (GY _ _ _ _ _) fun r=>by
 cases r with
 |none=>exact Cs _ _
 |some j=>exact AG _ fun _=>AI _ (Cs _ _)
theorem VJ (E:_)(t:_)(m:_)(k:_)(x:_):Loc (DU E t m k x):=Ax (Iy _ _) fun ke=>by
 cases m with
 |map m=>
  cases m with
  |none=>exact Az
  |some l=>exact Ax (EF _) fun p=>Ax (Vf_ _ _ _ _ _ _) fun _=>AA _
 |_=>exact Az
theorem Adq_ (E:_)(a:_)(b:_)(k:_)(l:_)(p:_):Loc (entE E a b k l p):=Ax (GY _ _ _ _ _) fun r=>by
 cases r with
 |none=>exact Ax (RV _ _) fun _=>Ax (Cs _ _) fun _=>AA _
 |some j=>exact AG _ fun _=>AI _ (Ax (Cs _ _) fun _=>AA _)
theorem QO_ (E:_)(t:_)(m:_)(k:_):Loc (H6 E t m k):=Ax (Iy _ _) fun ke=>by
 cases m with
 |map m=>
  cases m with
  |none=>exact Az
  |some l=>exact Ax (EF _) fun p=>Adq_ _ _ _ _ _ _
 |_=>exact Az
theorem TK_ (x0:_)(x1:_)(x2:_):Loc (Ei x0 x1 x2):=by
 unfold Ei
 repeat' (first|exact AA _|exact Az|exact AQ _|exact EF _|exact Cs _ _|apply Ax|apply AI|apply AU|apply AG|apply AO|apply AN|apply AT|apply AY|apply AW|apply AM|intro _|split)
theorem ZS:Loc (Dr):=by
 unfold Dr
 repeat' (first|exact AA _|exact Az|exact AQ _|exact Hk _|apply Ax|apply AI|apply AU|apply AG|apply AO|apply AN|apply AT|apply AY|apply AW|apply AM|intro _|split)
theorem GT_ (x0:_)(x1:_)(x2:_):Loc (Fh x0 x1 x2):=by
 unfold Fh
 repeat' (first|exact AA _|exact Az|exact AQ _|exact ZS|exact Iy _ _|apply Ax|apply AI|apply AU|apply AG|apply AO|apply AN|apply AT|apply AY|apply AW|apply AM|intro _|split)
theorem Sh_ (E:_)(t:_)(m:_)(k:_):Loc (kDel E t m k):=Ax (Iy _ _) fun ke=>by
 cases m with
 |map m=>
  cases m with
  |none=>exact Ax (GY _ _ _ _ _) fun _=>AA _
  |some l=>exact Ax (EF _) fun p=>Ax (GY _ _ _ _ _) fun r=>by cases r<;>exact Ax (Cs _ _) fun _=>AA _
 |_=>exact Az
theorem Lc_ (x0:_)(x1:_)(x2:_)(x3:_):Loc (A9 x0 x1 x2 x3):=by
 unfold A9
 repeat' (first|exact AA _|exact Az|exact AQ _|exact Sh_ _ _ _ _|exact PI_ _ _ _|exact AeX_ _ _ _|exact AeL_ _ _ _|exact WM_ _ _ _ _ _|exact UX_ _ _ _ _ _|exact I7 _|apply Ax|apply AI|apply AU|apply AG|apply AO|apply AN|apply AT|apply AY|apply AW|apply AM|intro _|split)
theorem JR_ (x0:_)(x1:_)(x2:_)(x3:_):Loc (idxN x0 x1 x2 x3):=by
 unfold idxN
 repeat' (first|exact AA _|exact Az|exact AQ _|exact SG _|exact Bu _ _|apply Ax|apply AI|apply AU|apply AG|apply AO|apply AN|apply AT|apply AY|apply AW|apply AM|intro _|split)
theorem OW (x0:_):Loc (asN x0):=by
 unfold asN
 repeat' (first|exact AA _|exact Az|exact AQ _|apply Ax|apply AI|apply AU|apply AG|apply AO|apply AN|apply AT|apply AY|apply AW|apply AM|intro _|split)
theorem RE_ (x0:_)(x1:_)(x2:_):Loc (Bj x0 x1 x2):=by
 unfold Bj
 repeat' (first|exact AA _|exact Az|exact AQ _|apply Ax|apply AI|apply AU|apply AG|apply AO|apply AN|apply AT|apply AY|apply AW|apply AM|intro _|split)
theorem XR (x0:_):Loc (ptrN x0):=by
 unfold ptrN
 repeat' (first|exact AA _|exact Az|exact AQ _|apply Ax|apply AI|apply AU|apply AG|apply AO|apply AN|apply AT|apply AY|apply AW|apply AM|intro _|split)
theorem AcO_ (x0:_)(x1:_):Loc (CL x0 x1):=by
 unfold CL
 repeat' (first|exact AA _|exact Az|exact AQ _|exact XR _|exact Bu _ _|exact ES _|apply Ax|apply AI|apply AU|apply AG|apply AO|apply AN|apply AT|apply AY|apply AW|apply AM|intro _|split)
theorem ZV_ (x0:_):Loc (kBox x0):=by
 unfold kBox
 repeat' (first|exact AA _|exact Az|exact AQ _|exact XR _|exact ES _|apply Ax|apply AI|apply AU|apply AG|apply AO|apply AN|apply AT|apply AY|apply AW|apply AM|intro _|split)
theorem Jw_ (x0:_)(x1:_)(x2:_):Loc (AE x0 x1 x2):=by
 unfold AE
 repeat' (first|exact AA _|exact Az|exact AQ _|exact Hm _|exact EC_ _ _ _|apply Ax|apply AI|apply AU|apply AG|apply AO|apply AN|apply AT|apply AY|apply AW|apply AM|intro _|split)
theorem Jm_ (x0:_)(x1:_)(x2:_)(x3:_):Loc (BK x0 x1 x2 x3):=by
 unfold BK
 repeat' (first|exact AA _|exact Az|exact AQ _|exact Hm _|exact JF_ _ _ _ _|apply Ax|apply AI|apply AU|apply AG|apply AO|apply AN|apply AT|apply AY|apply AW|apply AM|intro _|split)
theorem UA_ (x0:_):Loc (kNil x0):=by
 unfold kNil
 repeat' (first|exact AA _|exact Az|exact AQ _|apply Ax|apply AI|apply AU|apply AG|apply AO|apply AN|apply AT|apply AY|apply AW|apply AM|intro _|split)
theorem Add_ (b:Bool):Loc (pB b):=by cases b<;>exact AA _
theorem L8 (x0:_)(x1:_)(x2:_):Loc (C0 x0 x1 x2):=by
 unfold C0
 repeat' (first|exact AA _|exact Az|exact AQ _|exact I7 _|apply Ax|apply AI|apply AU|apply AG|apply AO|apply AN|apply AT|apply AY|apply AW|apply AM|intro _|split)
theorem Wn_ (P:Program)(v:Value):Loc (xorU P v):=by
 have h:=L8 P .xor v
 cases v with
 |int k n=>
  cases n with
  |negSucc m=>exact L8 P .xor (.int k (.negSucc m))
  |ofNat m=>
   show Loc (Option.rec (motive:=fun _=>M Value) (C0 P .xor (.int k (.ofNat m))) (fun x=>M.pure x) (notK k m))
   exact AM _ (L8 _ _ _) fun _=>AA _
 |_=>exact h
theorem MQ_ (x0:_)(x1:_)(x2:_):Loc (kUn x0 x1 x2):=by
 unfold kUn
 repeat' (first|exact AA _|exact Az|exact AQ _|exact Wn_ _ _|exact L8 _ _ _|exact Add_ _|apply Ax|apply AI|apply AU|apply AG|apply AO|apply AN|apply AT|apply AY|apply AW|apply AM|intro _|split)
theorem HR_ (x0:_)(x1:_):Loc (strOf x0 x1):=by
 unfold strOf
 repeat' (first|exact AA _|exact Az|exact AQ _|exact Fk _ _|apply Ax|apply AI|apply AU|apply AG|apply AO|apply AN|apply AT|apply AY|apply AW|apply AM|intro _|split)
theorem Ng_ (x0:_)(x1:_)(x2:_)(x3:_)(x4:_):Loc (Hy x0 x1 x2 x3 x4):=by
 unfold Hy
 repeat' (first|exact AA _|exact Az|exact AQ _|exact HR_ _ _|exact Bu _ _|apply Ax|apply AI|apply AU|apply AG|apply AO|apply AN|apply AT|apply AY|apply AW|apply AM|intro _|split)
theorem AaA_ (x0:_)(x1:_)(x2:_)(x3:_)(x4:_):Loc (EY x0 x1 x2 x3 x4):=by
 unfold EY
 repeat' (first|exact AA _|exact Az|exact AQ _|exact I7 _|exact Bu _ _|apply Ax|apply AI|apply AU|apply AG|apply AO|apply AN|apply AT|apply AY|apply AW|apply AM|intro _|split)
theorem RE (x0:_)(x1:_)(x2:_)(x3:_):Loc (D1 x0 x1 x2 x3):=by
 unfold D1
 repeat' (first|exact AA _|exact Az|exact AQ _|exact AaA_ _ _ _ _ _|exact Ng_ _ _ _ _ _|exact I7 _|apply Ax|apply AI|apply AU|apply AG|apply AO|apply AN|apply AT|apply AY|apply AW|apply AM|intro _|split)
theorem CP_ (x0:_)(x1:_):Loc (rowN x0 x1):=by
 unfold rowN
 repeat' (first|exact AA _|exact Az|exact AQ _|exact HZ _ _ _|exact ES _|exact Cs _ _|apply Ax|apply AI|apply AU|apply AG|apply AO|apply AN|apply AT|apply AY|apply AW|apply AM|intro _|split)
theorem Yx_ (l:List UInt8):Loc (E5 l):=by
 unfold E5
 rw[LJ]
 exact AO _ fun n=>CP_ _ _
theorem MN_ (x0:_)(x1:_)(x2:_)(x3:_):Loc (FN x0 x1 x2 x3):=by
 unfold FN
 repeat' (first|exact AA _|exact Az|exact AQ _|exact Yx_ _|exact RE _ _ _ _|exact Bu _ _|apply Ax|apply AI|apply AU|apply AG|apply AO|apply AN|apply AT|apply AY|apply AW|apply AM|intro _|split)
theorem IC_ (x0:_)(x1:_)(x2:_)(x3:_)(x4:_)(x5:_):Loc (Fd x0 x1 x2 x3 x4 x5):=by
 unfold Fd
 repeat' (first|exact AA _|exact Az|exact AQ _|exact RE _ _ _ _|exact Bu _ _|exact Fk _ _|exact CU _|apply Ax|apply AI|apply AU|apply AG|apply AO|apply AN|apply AT|apply AY|apply AW|apply AM|intro _|split)
theorem Jb_ (x0:_)(x1:_)(x2:_)(x3:_):Loc (BR x0 x1 x2 x3):=by
 unfold BR
 repeat' (first|exact AA _|exact Az|exact AQ _|exact IC_ _ _ _ _ _ _|exact MN_ _ _ _ _|exact RE _ _ _ _|apply Ax|apply AI|apply AU|apply AG|apply AO|apply AN|apply AT|apply AY|apply AW|apply AM|intro _|split)
theorem YA_ (x0:_)(x1:_):Loc (Gy x0 x1):=by
 unfold Gy
 repeat' (first|exact AA _|exact Az|exact AQ _|apply Ax|apply AI|apply AU|apply AG|apply AO|apply AN|apply AT|apply AY|apply AW|apply AM|intro _|split)
theorem KI_ (x0:_)(x1:_)(x2:_):Loc (Fc x0 x1 x2):=by
 unfold Fc
 repeat' (first|exact AA _|exact Az|exact AQ _|exact YA_ _ _|exact Bu _ _|apply Ax|apply AI|apply AU|apply AG|apply AO|apply AN|apply AT|apply AY|apply AW|apply AM|intro _|split)
theorem WJ_ (x0:_)(x1:_)(x2:_):Loc (FE x0 x1 x2):=by
 unfold FE
 repeat' (first|exact AA _|exact Az|exact AQ _|exact Bu _ _|apply Ax|apply AI|apply AU|apply AG|apply AO|apply AN|apply AT|apply AY|apply AW|apply AM|intro _|split)
theorem Jc_ (x0:_)(x1:_)(x2:_)(x3:_):Loc (mkSl x0 x1 x2 x3):=by
 unfold mkSl
 repeat' (first|exact AA _|exact Az|exact AQ _|exact Bu _ _|exact ES _|apply Ax|apply AI|apply AU|apply AG|apply AO|apply AN|apply AT|apply AY|apply AW|apply AM|intro _|split)
theorem Aff_ (x0:_)(x1:_)(x2:_)(x3:_):Loc (EQ x0 x1 x2 x3):=by
 unfold EQ
 repeat' (first|exact AA _|exact Az|exact AQ _|exact Jc_ _ _ _ _|exact OW _|exact Bu _ _|apply Ax|apply AI|apply AU|apply AG|apply AO|apply AN|apply AT|apply AY|apply AW|apply AM|intro _|split)
theorem NC (x0:_)(x1:_)(x2:_):Loc (CZ x0 x1 x2):=by
 unfold CZ
 repeat' (first|exact AA _|exact Az|exact AQ _|exact Bu _ _|apply Ax|apply AI|apply AU|apply AG|apply AO|apply AN|apply AT|apply AY|apply AW|apply AM|intro _|split)
theorem AbD_ (x0:_)(x1:_)(x2:_)(x3:_):Loc (kFld x0 x1 x2 x3):=by
 unfold kFld
 repeat' (first|exact AA _|exact Az|exact AQ _|exact NC _ _ _|exact SG _|exact Hm _|exact Bu _ _|apply Ax|apply AI|apply AU|apply AG|apply AO|apply AN|apply AT|apply AY|apply AW|apply AM|intro _|split)
theorem Gx_ (x0:_):Loc (asCs x0):=by
 unfold asCs
 repeat' (first|exact AA _|exact Az|exact AQ _|apply Ax|apply AI|apply AU|apply AG|apply AO|apply AN|apply AT|apply AY|apply AW|apply AM|intro _|split)
theorem JX_ (x0:_)(x1:_)(x2:_)(x3:_):Loc (EU x0 x1 x2 x3):=by
 unfold EU
 repeat' (first|exact AA _|exact Az|exact AQ _|exact Gx_ _|exact NC _ _ _|exact Sk _ _ _ _|exact Bu _ _|apply Ax|apply AI|apply AU|apply AG|apply AO|apply AN|apply AT|apply AY|apply AW|apply AM|intro _|split)
theorem Zm_ (x0:_)(x1:_)(x2:_)(x3:_):Loc (BN x0 x1 x2 x3):=by
 unfold BN
 repeat' (first|exact AA _|exact Az|exact AQ _|exact OW _|exact JR_ _ _ _ _|exact Bu _ _|apply Ax|apply AI|apply AU|apply AG|apply AO|apply AN|apply AT|apply AY|apply AW|apply AM|intro _|split)
theorem Qd_ (x0:_)(x1:_)(x2:_)(x3:_):Loc (idxV x0 x1 x2 x3):=by
 unfold idxV
 repeat' (first|exact AA _|exact Az|exact AQ _|exact Sk _ _ _ _|exact Bu _ _|apply Ax|apply AI|apply AU|apply AG|apply AO|apply AN|apply AT|apply AY|apply AW|apply AM|intro _|split)
theorem RR_ (x0:_)(x1:_)(x2:_)(x3:_):Loc (kIdx x0 x1 x2 x3):=by
 unfold kIdx
 repeat' (first|exact AA _|exact Az|exact AQ _|exact Qd_ _ _ _ _|exact OW _|exact Bu _ _|apply Ax|apply AI|apply AU|apply AG|apply AO|apply AN|apply AT|apply AY|apply AW|apply AM|intro _|split)
theorem NQ_ (x0:_)(x1:_):Loc (kExt x0 x1):=by
 unfold kExt
 repeat' (first|exact AA _|exact Az|exact AQ _|apply Ax|apply AI|apply AU|apply AG|apply AO|apply AN|apply AT|apply AY|apply AW|apply AM|intro _|split)
theorem Qm_ (x0:_)(x1:_)(x2:_):Loc (okV x0 x1 x2):=by
 unfold okV
 repeat' (first|exact AA _|exact Az|exact AQ _|apply Ax|apply AI|apply AU|apply AG|apply AO|apply AN|apply AT|apply AY|apply AW|apply AM|intro _|split)
theorem ZT_ (x0:_)(x1:_)(x2:_):Loc (EX x0 x1 x2):=by
 unfold EX
 repeat' (first|exact AA _|exact Az|exact AQ _|exact Bu _ _|exact Hk _|apply Ax|apply AI|apply AU|apply AG|apply AO|apply AN|apply AT|apply AY|apply AW|apply AM|intro _|split)
theorem Ii_ (x0:_)(x1:_)(x2:_):Loc (sitN x0 x1 x2):=by
 unfold sitN
 repeat' (first|exact AA _|exact Az|exact AQ _|exact Cs _ _|apply Ax|apply AI|apply AU|apply AG|apply AO|apply AN|apply AT|apply AY|apply AW|apply AM|intro _|split)
theorem Uv_ (x0:_):Loc (ER x0):=by
 unfold ER
 repeat' (first|exact AA _|exact Az|exact AQ _|exact Ii_ _ _ _|exact CU _|apply Ax|apply AI|apply AU|apply AG|apply AO|apply AN|apply AT|apply AY|apply AW|apply AM|intro _|split)
theorem AbO_ (x0:_)(x1:_)(x2:_)(x3:_):Loc (Ff x0 x1 x2 x3):=by
 unfold Ff
 repeat' (first|exact AA _|exact Az|exact AQ _|exact Qm_ _ _ _|exact WD _|exact Bu _ _|apply Ax|apply AI|apply AU|apply AG|apply AO|apply AN|apply AT|apply AY|apply AW|apply AM|intro _|split)
theorem Abm_:Loc (G1):=by
 unfold G1
 repeat' (first|exact AA _|exact Az|exact AQ _|exact KN _|exact IY|apply Ax|apply AI|apply AU|apply AG|apply AO|apply AN|apply AT|apply AY|apply AW|apply AM|intro _|split)
theorem Aar_ (x0:_)(x1:_):Loc (GA x0 x1):=by
 unfold GA
 repeat' (first|exact AA _|exact Az|exact AQ _|exact KN _|exact IY|apply Ax|apply AI|apply AU|apply AG|apply AO|apply AN|apply AT|apply AY|apply AW|apply AM|intro _|split)
end Go.Proofs.YtndednnianphoaaGreatDoor.Am
