/- Slots:what the evaluator knows of a frame's,and what an operand comes to. -/
import Derived.Test.YtapojfiplajfaaaGreatDoorWnn05
import Derived.Calls
namespace Go.Proofs.YtapojfiplajfaaaGreatDoor.Am
open Go.RowKit
/-- What is known of a frame's slots. -/
def TmR (r:Inj)(glob:Nat)(tm:T Value)(tmps:Array Value):Prop:= ∀t v,T.get tm t=some v→Nat.testBit glob t=true∧ ∃v',tmps[t]?=some v'∧VR r v v'
/-- The same within a region,of the slots in U:those that it has filled,the last one first. -/
structure SlR (r:Inj)(U:Nat→Prop)(ds:List Nat)(rho:Rho)(tm:T Value)(tmps:Array Value):Prop where
 loc: ∀(i d:Nat) (v:Value),U d→ds[i]?=some d→rho[i]?=some v→ ∃v',tmps[d]?=some v'∧VR r v v'
 tm: ∀(t:Nat) (v:Value),U t→T.get tm t=some v→ ∃v',tmps[t]?=some v'∧VR r v v'
theorem TmR.mono {r r':Inj}(h:r.le r'){g:Nat}{tm:T Value}{tmps:Array Value}(k:TmR r g tm tmps):TmR r' g tm tmps:=fun t v e=>let ⟨q,v',a,b⟩:=k t v e;⟨q,v',a,b.mono h⟩
theorem SlR.mono {r r':Inj}(h:r.le r'){U:Nat→Prop}{ds:List Nat}{rho:Rho}{tm:T Value}{tmps:Array Value}(k:SlR r U ds rho tm tmps):SlR r' U ds rho tm tmps:=
 ⟨fun i d v u a b=>let ⟨v',p,q⟩:=k.loc i d v u a b;⟨v',p,q.mono h⟩,fun t v u a=>let ⟨v',p,q⟩:=k.tm t v u a;⟨v',p,q.mono h⟩⟩
theorem nth0_eq (l:Rho):nth0 l=l[0]?:=by cases l<;>rfl
theorem nthC_eq: ∀(d:Nat),∃g,nthC d= .mk g∧ ∀l,g l=l[d]?
 |0=>⟨nth0,rfl,nth0_eq⟩
 |d+1=>by
  obtain⟨g,h1,h2⟩:=nthC_eq d
  refine⟨fun l=>List.rec (motive:=fun _=>Option Value) none (fun _ r _=>g r) l, ?_,fun l=> ?_⟩
  ·show Cl.rec (motive:=fun _=>Cl (Rho→Option Value)) (fun g=> .mk fun l=>List.rec (motive:=fun _=>Option Value) none (fun _ r _=>g r) l) (nthC d)=_
   rw[h1]
  ·cases l with
   |nil=>rfl
   |cons v l=>exact h2 l
theorem whereT_some {t:Nat}: ∀{ds:List Nat} {n:Nat},whereT t ds=some n→ds[n]?=some t
 |[],n,h=>by cases h
 |d::ds,n,h=>by
  have h0:Bool.rec (motive:=fun _=>Option Nat) (Option.rec (motive:=fun _=>Option Nat) none (fun n=>some (Nat.succ n)) (whereT t ds)) (some 0) (Nat.beq d t)=some n:=h
  cases e:Nat.beq d t with
  |true=>
   rw[e]at h0
   cases h0
   rw[←Nat.eq_of_beq_eq_true e];rfl
  |false=>
   rw[e]at h0
   cases e2:whereT t ds with
   |none=>rw[e2]at h0;cases h0
   |some m=>
    rw[e2]at h0
    cases h0
    have:=whereT_some (ds:=ds) e2
    simpa using this
/-- A compiled part:what it gives is what the model reckons. -/
def Gives {α β:Type}(c:Cl (G α))(ds:List Nat)(us:List Operand)(R:Inj→α→β→Prop)(f:Act→β):Prop:=
 ∃g,c= .mk g∧ ∀r U rho tm a v,SlR r U ds rho tm a.tmps→(∀t,Operand.tmp t∈us→U t)→g rho tm=some v→R r v (f a)
theorem compT_ok (ds:List Nat)(t:Nat):Gives (compT ds t) ds [.tmp t] VR (fun a=>a.eval (.tmp t)):=by
 unfold compT
 cases e:whereT t ds with
 |none=>
  refine⟨_,rfl,fun r U rho tm a v hs hu h=> ?_⟩
  obtain⟨v',h1,h2⟩:=hs.tm t v (hu t (by simp)) h
  simp only[Act.eval,Array.getD_eq_getD_getElem?,h1]
  exact h2
 |some d=>
  obtain⟨g,h1,h2⟩:=nthC_eq d
  simp only[h1]
  refine⟨_,rfl,fun r U rho tm a v hs hu h=> ?_⟩
  rw[h2]at h
  obtain⟨v',h3,h4⟩:=hs.loc d t v (hu t (by simp)) (whereT_some e) h
  simp only[Act.eval,Array.getD_eq_getD_getElem?,h3]
  exact h4
theorem compO_ok (ds:List Nat)(x:Operand):Gives (compO ds x) ds [x] VR (fun a=>a.eval x):=by
 cases x with
 |tmp t=>exact compT_ok ds t
 |const v=>
  unfold compO
  simp only
  cases e:plain v with
  |false=>exact⟨_,rfl,fun r U rho tm a v hs hu h=>by cases h⟩
  |true=>exact⟨_,rfl,fun r U rho tm a v hs hu h=>by cases h;exact .of_plain e⟩
 |global g=>exact⟨_,rfl,fun r U rho tm a v hs hu h=>by cases h⟩
 |func f=>exact⟨_,rfl,fun r U rho tm a v hs hu h=>by cases h;exact .func rfl rfl (fun i v v' e=>by simp at e) rfl (fun i v v' e=>by simp at e)⟩
theorem compL_ok (ds:List Nat): ∀(l:List Operand),Gives (compL ds l) ds l VRs (fun a=>l.map a.eval)
 |[]=>⟨_,rfl,fun r U rho tm a v hs hu h=>by cases h;exact .nil⟩
 |x::l=>by
  obtain⟨g,h1,h2⟩:=compO_ok ds x
  obtain⟨g',h3,h4⟩:=compL_ok ds l
  have h0:compL ds (x::l)=Cl.rec (motive:=fun _=>Cl (G (List Value))) (fun g=>Cl.rec (motive:=fun _=>Cl (G (List Value))) (fun h=> .mk fun r tm=>onO (g r tm) fun v=>onO (h r tm) fun l=>some (v::l)) (compL ds l)) (compO ds x):=rfl
  rw[h0,h1,h3]
  refine⟨_,rfl,fun r U rho tm a v hs hu h=> ?_⟩
  obtain⟨y,e1,e2⟩:=onO_some h
  obtain⟨ys,e3,e4⟩:=onO_some e2
  cases e4
  exact .cons (h2 r U rho tm a y hs (fun t q=>hu t (by simp at q ⊢;simp[q])) e1) (h4 r U rho tm a ys hs (fun t q=>hu t (by simp at q ⊢;simp[q])) e3)
theorem compP_ok (ds:List Nat): ∀(l:List (Nat×Operand)),Gives (compP ds l) ds (l.map (·.2)) PRs (fun a=>l.map fun p=>(p.1,a.eval p.2))
 |[]=>⟨_,rfl,fun r U rho tm a v hs hu h=>by cases h;exact True.intro⟩
 |x::l=>by
  obtain⟨g,h1,h2⟩:=compO_ok ds x.2
  obtain⟨g',h3,h4⟩:=compP_ok ds l
  have h0:compP ds (x::l)=Cl.rec (motive:=fun _=>Cl (G (List (Nat×Value)))) (fun g=>Cl.rec (motive:=fun _=>Cl (G (List (Nat×Value)))) (fun h=> .mk fun r tm=>onO (g r tm) fun v=>onO (h r tm) fun l=>some ((x.1,v)::l)) (compP ds l)) (compO ds x.2):=rfl
  rw[h0,h1,h3]
  refine⟨_,rfl,fun r U rho tm a v hs hu h=> ?_⟩
  obtain⟨y,e1,e2⟩:=onO_some h
  obtain⟨ys,e3,e4⟩:=onO_some e2
  cases e4
  exact⟨rfl,h2 r U rho tm a y hs (fun t q=>hu t (by simp at q ⊢;simp[q])) e1,h4 r U rho tm a ys hs (fun t q=>hu t (by simp at q ⊢;simp[q])) e3⟩
theorem compM_ok (ds:List Nat)(x:Option Operand):Gives (compM ds x) ds x.toList VRo (fun a=>x.map a.eval):=by
 cases x with
 |none=>exact⟨_,rfl,fun r U rho tm a v hs hu h=>by cases h;exact True.intro⟩
 |some x=>
  obtain⟨g,h1,h2⟩:=compO_ok ds x
  have h0:compM ds (some x)=Cl.rec (motive:=fun _=>Cl (G (Option Value))) (fun g=> .mk fun r tm=>onO (g r tm) fun v=>some (some v)) (compO ds x):=rfl
  rw[h0,h1]
  refine⟨_,rfl,fun r U rho tm a v hs hu h=> ?_⟩
  obtain⟨y,e1,e2⟩:=onO_some h
  cases e2
  exact h2 r U rho tm a y hs (fun t q=>hu t (by simp at q ⊢;simp[q])) e1
end Go.Proofs.YtapojfiplajfaaaGreatDoor.Am
/- Which parts of the evaluator never panic. -/
namespace Go.Proofs.YtapojfiplajfaaaGreatDoor.Am
structure NoPan {α:Type}(m:M α):Prop where
 no: ∀s c s',m s= .pan c s'→False
theorem np_pure {α:Type}(a:α):NoPan (M.pure a):=⟨fun s c s' h=>by cases h⟩
theorem np_fail {α:Type}:NoPan (M.fail:M α):=⟨fun s c s' h=>by cases h⟩
theorem np_ofOpt {α:Type}(x:Option α):NoPan (M.ofOpt x):=⟨fun s c s' h=>by cases x<;>cases h⟩
theorem np_bind {α β:Type}{m:M α}{f:α→M β}(h:NoPan m)(k: ∀a,NoPan (f a)):NoPan (M.bind m f):=⟨fun s c s' e=>by
 rcases bind_pan e with e|⟨a,s1,_,e⟩
 ·exact h.no _ _ _ e
 ·exact(k a).no _ _ _ e⟩
theorem np_chk {α:Type}(b:Bool){m:M α}(h:NoPan m):NoPan (M.chk b m):=⟨fun s c s' e=>by
 cases b with
 |false=>cases e
 |true=>exact h.no _ _ _ e⟩
theorem np_if {α:Type}(b:Bool){m n:M α}(h:NoPan m)(k:NoPan n):NoPan (M.if b m n):=by cases b<;>assumption
theorem np_on {α β:Type}(x:Option α){f:α→M β}(k: ∀a,NoPan (f a)):NoPan (M.on x f):=by
 cases x with
 |none=>exact np_fail
 |some a=>exact k a
theorem np_fN {α:Type}(n:Nat){f:Nat→M α}(k: ∀a,NoPan (f a)):NoPan (fN n f):=by rw[fN_eq];exact k _
theorem np_fI {α:Type}(n:Int){f:Int→M α}(k: ∀a,NoPan (f a)):NoPan (fI n f):=by rw[fI_eq];exact k _
theorem np_fA {α:Type}(n:Addr){f:Addr→M α}(k: ∀a,NoPan (f a)):NoPan (fA n f):=by rw[fA_eq];exact k _
theorem np_caseI {α:Type}(v:Value){f:IntKind→Int→M α}{d:M α}(h: ∀k n,NoPan (f k n))(k:NoPan d):NoPan (caseI v f d):=by
 cases v<;>first|exact h _ _|exact k
theorem np_bool {α:Type}(b:Bool){m n:M α}(h:NoPan m)(k:NoPan n):NoPan (Bool.rec (motive:=fun _=>M α) m n b):=by cases b<;>assumption
theorem np_opt {α β:Type}(x:Option α){m:M β}{f:α→M β}(h:NoPan m)(k: ∀a,NoPan (f a)):NoPan (Option.rec (motive:=fun _=>M β) m (fun a=>f a) x):=by
 cases x with
 |none=>exact h
 |some a=>exact k a
theorem np_rdC (loc:Nat):NoPan (rdC loc):= .mk fun s c s' h=>by
 obtain⟨mem,next,lim,rd,wr,cx⟩:=s
 unfold rdC at h
 simp only at h
 cases hb:Nat.blt loc next<;>rw[hb]at h
 ·cases h
 ·cases e:T.get mem loc<;>rw[e]at h<;>cases h
theorem np_wrC (loc:Nat)(x:Cell):NoPan (wrC loc x):= .mk fun s c s' h=>by
 obtain⟨mem,next,lim,rd,wr,cx⟩:=s
 unfold wrC at h
 obtain⟨v,l,r,e⟩:=T.set_N mem loc x
 simp only[e]at h
 cases hb:Nat.blt loc next<;>rw[hb]at h<;>cases h
theorem np_delC (loc:Nat):NoPan (delC loc):= .mk fun s c s' h=>by
 obtain⟨mem,next,lim,rd,wr,cx⟩:=s
 unfold delC at h
 simp only at h
 cases hb:Nat.blt loc next<;>rw[hb]at h<;>cases h
theorem np_newL (vs:List Value):NoPan (newL vs):= .mk fun s c s' h=>by
 obtain⟨mem,next,lim,rd,wr,cx⟩:=s
 have h0:newL vs ⟨mem,next,lim,rd,wr,cx⟩=fN next fun b=>fN (Nat.succ (Nat.add b vs.length)) fun n=>R.some b (St.mk (layL b vs b mem) n lim rd wr cx):=rfl
 rw[h0,fN_eq,fN_eq]at h
 cases h
theorem np_newO (o:AObj):NoPan (newO o):= .mk fun s c s' h=>by
 obtain⟨mem,next,lim,rd,wr,cx⟩:=s
 have h0:newO o ⟨mem,next,lim,rd,wr,cx⟩=fN next fun b=>fN (Nat.succ b) fun n=>R.some b (St.mk (T.set mem b (.O o)) n lim rd wr cx):=rfl
 rw[h0,fN_eq,fN_eq]at h
 cases h
theorem np_getCx:NoPan getCx:= .mk fun s c s' h=>by
 obtain⟨mem,next,lim,rd,wr,cx⟩:=s
 cases h
theorem np_putCx (x:Ctx):NoPan (putCx x):= .mk fun s c s' h=>by
 obtain⟨mem,next,lim,rd,wr,cx⟩:=s
 cases h
theorem np_rdV (a:Addr):NoPan (rdV a):=by
 obtain⟨b,o,s⟩:=a
 cases s with
 |some x=>exact np_fail
 |none=>exact np_bind (np_rdC _) fun c=>np_ofOpt _
theorem np_wrV (a:Addr)(v:Value):NoPan (wrV a v):=by
 obtain⟨b,o,s⟩:=a
 cases s with
 |some x=>exact np_fail
 |none=>exact np_bind (np_rdC _) fun c=>np_chk _ (np_wrC _ _)
theorem np_rdL: ∀(n:Nat) (a:Addr),NoPan (rdL n a)
 |0,_=>np_pure _
 |n+1,a=>by
  have h0:rdL (n+1) a=fA a fun a=>M.bind (rdV a) fun v=>M.bind (rdL n ⟨a.block,Nat.succ a.off,a.spot⟩) fun l=>M.pure (v::l):=rfl
  rw[h0]
  exact np_fA _ fun a=>np_bind (np_rdV a) fun v=>np_bind (np_rdL n _) fun l=>np_pure _
theorem np_wrL: ∀(vs:List Value) (a:Addr),NoPan (wrL vs a)
 |[],_=>np_pure _
 |v::vs,a=>by
  have h0:wrL (v::vs) a=fA a fun a=>M.bind (wrV a v) fun _=>wrL vs ⟨a.block,Nat.succ a.off,a.spot⟩:=rfl
  rw[h0]
  exact np_fA _ fun a=>np_bind (np_wrV a v) fun v=>np_wrL vs _
theorem np_letGo: ∀(n l:Nat),NoPan (letGo n l)
 |0,_=>np_pure _
 |n+1,l=>by
  have h0:letGo (n+1) l=M.bind (delC l) fun _=>letGo n (l+1):=rfl
  rw[h0]
  exact np_bind (np_delC l) fun _=>np_letGo n _
theorem np_ti (x0:_)(x1:_):NoPan (ti x0 x1):=by
 unfold ti
 repeat' (first|exact np_pure _|exact np_fail|exact np_ofOpt _|apply np_bind|apply np_chk|apply np_if|apply np_on|apply np_fN|apply np_fI|apply np_fA|apply np_caseI|apply np_bool|apply np_opt|intro _|split)
theorem np_pV (x0:_):NoPan (pV x0):=by
 unfold pV
 repeat' (first|exact np_pure _|exact np_fail|exact np_ofOpt _|apply np_bind|apply np_chk|apply np_if|apply np_on|apply np_fN|apply np_fI|apply np_fA|apply np_caseI|apply np_bool|apply np_opt|intro _|split)
theorem np_refEq (x0:_)(x1:_)(x2:_)(x3:_)(x4:_):NoPan (refEq x0 x1 x2 x3 x4):=by
 unfold refEq
 repeat' (first|exact np_pure _|exact np_fail|exact np_ofOpt _|exact np_ti _ _|apply np_bind|apply np_chk|apply np_if|apply np_on|apply np_fN|apply np_fI|apply np_fA|apply np_caseI|apply np_bool|apply np_opt|intro _|split)
theorem np_unkOp (x0:_)(x1:_):NoPan (unkOp x0 x1):=by
 unfold unkOp
 repeat' (first|exact np_pure _|exact np_fail|exact np_ofOpt _|apply np_bind|apply np_chk|apply np_if|apply np_on|apply np_fN|apply np_fI|apply np_fA|apply np_caseI|apply np_bool|apply np_opt|intro _|split)
theorem np_unkBin (x0:_)(x1:_)(x2:_):NoPan (unkBin x0 x1 x2):=by
 unfold unkBin
 repeat' (first|exact np_pure _|exact np_fail|exact np_ofOpt _|exact np_unkOp _ _|apply np_bind|apply np_chk|apply np_if|apply np_on|apply np_fN|apply np_fI|apply np_fA|apply np_caseI|apply np_bool|apply np_opt|intro _|split)
theorem np_binSlow (x0:_)(x1:_)(x2:_)(x3:_)(x4:_)(x5:_)(x6:_):NoPan (binSlow x0 x1 x2 x3 x4 x5 x6):=by
 unfold binSlow
 repeat' (first|exact np_pure _|exact np_fail|exact np_ofOpt _|exact np_unkBin _ _ _|exact np_refEq _ _ _ _ _|exact np_pV _|apply np_bind|apply np_chk|apply np_if|apply np_on|apply np_fN|apply np_fI|apply np_fA|apply np_caseI|apply np_bool|apply np_opt|intro _|split)
theorem np_lenOf (x0:_):NoPan (lenOf x0):=by
 unfold lenOf
 repeat' (first|exact np_pure _|exact np_fail|exact np_ofOpt _|apply np_bind|apply np_chk|apply np_if|apply np_on|apply np_fN|apply np_fI|apply np_fA|apply np_caseI|apply np_bool|apply np_opt|intro _|split)
theorem np_aLoad (x0:_)(x1:_)(x2:_):NoPan (aLoad x0 x1 x2):=by
 unfold aLoad
 repeat' (first|exact np_pure _|exact np_fail|exact np_ofOpt _|exact np_ti _ _|exact np_rdL _ _|exact np_rdV _|apply np_bind|apply np_chk|apply np_if|apply np_on|apply np_fN|apply np_fI|apply np_fA|apply np_caseI|apply np_bool|apply np_opt|intro _|split)
theorem np_aStore (x0:_)(x1:_)(x2:_)(x3:_):NoPan (aStore x0 x1 x2 x3):=by
 unfold aStore
 repeat' (first|exact np_pure _|exact np_fail|exact np_ofOpt _|exact np_ti _ _|exact np_wrL _ _|apply np_bind|apply np_chk|apply np_if|apply np_on|apply np_fN|apply np_fI|apply np_fA|apply np_caseI|apply np_bool|apply np_opt|intro _|split)
theorem np_asA (x0:_):NoPan (asA x0):=by
 unfold asA
 repeat' (first|exact np_pure _|exact np_fail|exact np_ofOpt _|apply np_bind|apply np_chk|apply np_if|apply np_on|apply np_fN|apply np_fI|apply np_fA|apply np_caseI|apply np_bool|apply np_opt|intro _|split)
theorem np_bnd (x0:_)(x1:_)(x2:_):NoPan (bnd x0 x1 x2):=by
 unfold bnd
 repeat' (first|exact np_pure _|exact np_fail|exact np_ofOpt _|apply np_bind|apply np_chk|apply np_if|apply np_on|apply np_fN|apply np_fI|apply np_fA|apply np_caseI|apply np_bool|apply np_opt|intro _|split)
theorem np_ptrA (x0:_):NoPan (ptrA x0):=by
 unfold ptrA
 repeat' (first|exact np_pure _|exact np_fail|exact np_ofOpt _|apply np_bind|apply np_chk|apply np_if|apply np_on|apply np_fN|apply np_fI|apply np_fA|apply np_caseI|apply np_bool|apply np_opt|intro _|split)
theorem np_pSl (x0:_)(x1:_)(x2:_):NoPan (pSl x0 x1 x2):=by
 unfold pSl
 repeat' (first|exact np_pure _|exact np_fail|exact np_ofOpt _|apply np_bind|apply np_chk|apply np_if|apply np_on|apply np_fN|apply np_fI|apply np_fA|apply np_caseI|apply np_bool|apply np_opt|intro _|split)
theorem np_pN (x0:_):NoPan (pN x0):=by
 unfold pN
 repeat' (first|exact np_pure _|exact np_fail|exact np_ofOpt _|apply np_bind|apply np_chk|apply np_if|apply np_on|apply np_fN|apply np_fI|apply np_fA|apply np_caseI|apply np_bool|apply np_opt|intro _|split)
theorem np_slArr (x0:_)(x1:_)(x2:_)(x3:_)(x4:_):NoPan (slArr x0 x1 x2 x3 x4):=by
 unfold slArr
 repeat' (first|exact np_pure _|exact np_fail|exact np_ofOpt _|exact np_pSl _ _ _|exact np_bnd _ _ _|apply np_bind|apply np_chk|apply np_if|apply np_on|apply np_fN|apply np_fI|apply np_fA|apply np_caseI|apply np_bool|apply np_opt|intro _|split)
theorem np_slSl (x0:_)(x1:_)(x2:_)(x3:_)(x4:_)(x5:_):NoPan (slSl x0 x1 x2 x3 x4 x5):=by
 unfold slSl
 repeat' (first|exact np_pure _|exact np_fail|exact np_ofOpt _|exact np_pSl _ _ _|exact np_bnd _ _ _|apply np_bind|apply np_chk|apply np_if|apply np_on|apply np_fN|apply np_fI|apply np_fA|apply np_caseI|apply np_bool|apply np_opt|intro _|split)
theorem np_slStr (x0:_)(x1:_)(x2:_):NoPan (slStr x0 x1 x2):=by
 unfold slStr
 repeat' (first|exact np_pure _|exact np_fail|exact np_ofOpt _|exact np_bnd _ _ _|apply np_bind|apply np_chk|apply np_if|apply np_on|apply np_fN|apply np_fI|apply np_fA|apply np_caseI|apply np_bool|apply np_opt|intro _|split)
theorem np_aSlice (x0:_)(x1:_)(x2:_)(x3:_)(x4:_):NoPan (aSlice x0 x1 x2 x3 x4):=by
 unfold aSlice
 repeat' (first|exact np_pure _|exact np_fail|exact np_ofOpt _|exact np_slStr _ _ _|exact np_slSl _ _ _ _ _ _|exact np_slArr _ _ _ _ _|exact np_bnd _ _ _|exact np_ti _ _|apply np_bind|apply np_chk|apply np_if|apply np_on|apply np_fN|apply np_fI|apply np_fA|apply np_caseI|apply np_bool|apply np_opt|intro _|split)
theorem np_srcL (x0:_)(x1:_)(x2:_):NoPan (srcL x0 x1 x2):=by
 unfold srcL
 repeat' (first|exact np_pure _|exact np_fail|exact np_ofOpt _|exact np_rdL _ _|apply np_bind|apply np_chk|apply np_if|apply np_on|apply np_fN|apply np_fI|apply np_fA|apply np_caseI|apply np_bool|apply np_opt|intro _|split)
theorem np_appN (x0:_)(x1:_)(x2:_):NoPan (appN x0 x1 x2):=by
 unfold appN
 repeat' (first|exact np_pure _|exact np_fail|exact np_ofOpt _|apply np_bind|apply np_chk|apply np_if|apply np_on|apply np_fN|apply np_fI|apply np_fA|apply np_caseI|apply np_bool|apply np_opt|intro _|split)
theorem np_appL (x0:_)(x1:_)(x2:_)(x3:_):NoPan (appL x0 x1 x2 x3):=by
 unfold appL
 repeat' (first|exact np_pure _|exact np_fail|exact np_ofOpt _|exact np_srcL _ _ _|apply np_bind|apply np_chk|apply np_if|apply np_on|apply np_fN|apply np_fI|apply np_fA|apply np_caseI|apply np_bool|apply np_opt|intro _|split)
theorem np_oldL (x0:_)(x1:_)(x2:_):NoPan (oldL x0 x1 x2):=by
 unfold oldL
 repeat' (first|exact np_pure _|exact np_fail|exact np_ofOpt _|exact np_rdL _ _|apply np_bind|apply np_chk|apply np_if|apply np_on|apply np_fN|apply np_fI|apply np_fA|apply np_caseI|apply np_bool|apply np_opt|intro _|split)
theorem np_goOld (x0:_)(x1:_)(x2:_):NoPan (goOld x0 x1 x2):=by
 unfold goOld
 repeat' (first|exact np_pure _|exact np_fail|exact np_ofOpt _|exact np_letGo _ _|apply np_bind|apply np_chk|apply np_if|apply np_on|apply np_fN|apply np_fI|apply np_fA|apply np_caseI|apply np_bool|apply np_opt|intro _|split)
theorem np_useUp (x0:_)(x1:_)(x2:_)(x3:_):NoPan (useUp x0 x1 x2 x3):=by
 unfold useUp
 repeat' (first|exact np_pure _|exact np_fail|exact np_ofOpt _|exact np_goOld _ _ _|exact np_wrC _ _|exact np_rdC _|apply np_bind|apply np_chk|apply np_if|apply np_on|apply np_fN|apply np_fI|apply np_fA|apply np_caseI|apply np_bool|apply np_opt|intro _|split)
theorem np_grow (x0:_)(x1:_)(x2:_)(x3:_)(x4:_)(x5:_)(x6:_)(x7:_):NoPan (grow x0 x1 x2 x3 x4 x5 x6 x7):=by
 unfold grow
 repeat' (first|exact np_pure _|exact np_fail|exact np_ofOpt _|exact np_useUp _ _ _ _|exact np_oldL _ _ _|exact np_pSl _ _ _|exact np_newL _|exact np_wrC _ _|apply np_bind|apply np_chk|apply np_if|apply np_on|apply np_fN|apply np_fI|apply np_fA|apply np_caseI|apply np_bool|apply np_opt|intro _|split)
theorem np_inRoom (x0:_)(x1:_)(x2:_)(x3:_)(x4:_)(x5:_):NoPan (inRoom x0 x1 x2 x3 x4 x5):=by
 unfold inRoom
 repeat' (first|exact np_pure _|exact np_fail|exact np_ofOpt _|exact np_pSl _ _ _|exact np_wrL _ _|apply np_bind|apply np_chk|apply np_if|apply np_on|apply np_fN|apply np_fI|apply np_fA|apply np_caseI|apply np_bool|apply np_opt|intro _|split)
theorem np_aAppend (x0:_)(x1:_)(x2:_)(x3:_)(x4:_):NoPan (aAppend x0 x1 x2 x3 x4):=by
 unfold aAppend
 repeat' (first|exact np_pure _|exact np_fail|exact np_ofOpt _|exact np_inRoom _ _ _ _ _ _|exact np_grow _ _ _ _ _ _ _ _|exact np_appL _ _ _ _|exact np_appN _ _ _|exact np_ti _ _|apply np_bind|apply np_chk|apply np_if|apply np_on|apply np_fN|apply np_fI|apply np_fA|apply np_caseI|apply np_bool|apply np_opt|intro _|split)
theorem np_aBuild (x0:_)(x1:_)(x2:_):NoPan (aBuild x0 x1 x2):=by
 unfold aBuild
 repeat' (first|exact np_pure _|exact np_fail|exact np_ofOpt _|exact np_ti _ _|apply np_bind|apply np_chk|apply np_if|apply np_on|apply np_fN|apply np_fI|apply np_fA|apply np_caseI|apply np_bool|apply np_opt|intro _|split)
theorem np_aBuildS (x0:_)(x1:_)(x2:_)(x3:_):NoPan (aBuildS x0 x1 x2 x3):=by
 unfold aBuildS
 repeat' (first|exact np_pure _|exact np_fail|exact np_ofOpt _|exact np_ti _ _|exact np_newL _|exact np_wrC _ _|apply np_bind|apply np_chk|apply np_if|apply np_on|apply np_fN|apply np_fI|apply np_fA|apply np_caseI|apply np_bool|apply np_opt|intro _|split)
theorem np_partV (x0:_)(x1:_)(x2:_)(x3:_):NoPan (partV x0 x1 x2 x3):=by
 unfold partV
 repeat' (first|exact np_pure _|exact np_fail|exact np_ofOpt _|exact np_ti _ _|apply np_bind|apply np_chk|apply np_if|apply np_on|apply np_fN|apply np_fI|apply np_fA|apply np_caseI|apply np_bool|apply np_opt|intro _|split)
theorem np_aCopy (x0:_)(x1:_)(x2:_)(x3:_)(x4:_):NoPan (aCopy x0 x1 x2 x3 x4):=by
 unfold aCopy
 repeat' (first|exact np_pure _|exact np_fail|exact np_ofOpt _|exact np_srcL _ _ _|exact np_pN _|exact np_lenOf _|exact np_ti _ _|exact np_wrL _ _|apply np_bind|apply np_chk|apply np_if|apply np_on|apply np_fN|apply np_fI|apply np_fA|apply np_caseI|apply np_bool|apply np_opt|intro _|split)
theorem np_mapAt (x0:_):NoPan (mapAt x0):=by
 unfold mapAt
 repeat' (first|exact np_pure _|exact np_fail|exact np_ofOpt _|exact np_rdC _|apply np_bind|apply np_chk|apply np_if|apply np_on|apply np_fN|apply np_fI|apply np_fA|apply np_caseI|apply np_bool|apply np_opt|intro _|split)
theorem np_kLenM (x0:_):NoPan (kLenM x0):=by
 unfold kLenM
 repeat' (first|exact np_pure _|exact np_fail|exact np_ofOpt _|exact np_mapAt _|exact np_pN _|apply np_bind|apply np_chk|apply np_if|apply np_on|apply np_fN|apply np_fI|apply np_fA|apply np_caseI|apply np_bool|apply np_opt|intro _|split)
theorem np_aLen (x0:_)(x1:_)(x2:_):NoPan (aLen x0 x1 x2):=by
 unfold aLen
 repeat' (first|exact np_pure _|exact np_fail|exact np_ofOpt _|exact np_kLenM _|exact np_pN _|exact np_ti _ _|apply np_bind|apply np_chk|apply np_if|apply np_on|apply np_fN|apply np_fI|apply np_fA|apply np_caseI|apply np_bool|apply np_opt|intro _|split)
theorem np_aCap (x0:_)(x1:_)(x2:_):NoPan (aCap x0 x1 x2):=by
 unfold aCap
 repeat' (first|exact np_pure _|exact np_fail|exact np_ofOpt _|exact np_pN _|exact np_ti _ _|apply np_bind|apply np_chk|apply np_if|apply np_on|apply np_fN|apply np_fI|apply np_fA|apply np_caseI|apply np_bool|apply np_opt|intro _|split)
theorem np_kClear (x0:_)(x1:_)(x2:_):NoPan (kClear x0 x1 x2):=by
 unfold kClear
 repeat' (first|exact np_pure _|exact np_fail|exact np_ofOpt _|exact np_ti _ _|exact np_wrL _ _|apply np_bind|apply np_chk|apply np_if|apply np_on|apply np_fN|apply np_fI|apply np_fA|apply np_caseI|apply np_bool|apply np_opt|intro _|split)
theorem np_zeroV (x0:_):NoPan (zeroV x0):=by
 unfold zeroV
 repeat' (first|exact np_pure _|exact np_fail|exact np_ofOpt _|apply np_bind|apply np_chk|apply np_if|apply np_on|apply np_fN|apply np_fI|apply np_fA|apply np_caseI|apply np_bool|apply np_opt|intro _|split)
theorem np_findM (E:_)(e:_)(t:_)(k:_)(es:_):NoPan (findM E e t k es):=np_chk _ (np_on _ fun _=>np_pure _)
theorem np_pickOk (x0:_)(x1:_)(x2:_):NoPan (pickOk x0 x1 x2):=by
 unfold pickOk
 repeat' (first|exact np_pure _|exact np_fail|exact np_ofOpt _|apply np_bind|apply np_chk|apply np_if|apply np_on|apply np_fN|apply np_fI|apply np_fA|apply np_caseI|apply np_bool|apply np_opt|intro _|split)
theorem np_zeroOf (x0:_)(x1:_):NoPan (zeroOf x0 x1):=by
 unfold zeroOf
 repeat' (first|exact np_pure _|exact np_fail|exact np_ofOpt _|exact np_zeroV _|exact np_ti _ _|apply np_bind|apply np_chk|apply np_if|apply np_on|apply np_fN|apply np_fI|apply np_fA|apply np_caseI|apply np_bool|apply np_opt|intro _|split)
theorem np_kLookN (E:_)(a:_)(b:_)(k:_)(c:_):NoPan (kLookN E a b k c):=np_bind (np_findM _ _ _ _ _) fun r=>by
 cases r with
 |none=>exact np_bind (np_zeroOf _ _) fun _=>np_pickOk _ _ _
 |some j=>exact np_fail
theorem np_kLookL (E:_)(a:_)(b:_)(k:_)(c:_)(es:_):NoPan (kLookL E a b k c es):=np_bind (np_findM _ _ _ _ _) fun r=>by
 cases r with
 |none=>exact np_bind (np_zeroOf _ _) fun _=>np_pickOk _ _ _
 |some j=>exact np_on _ fun _=>np_pickOk _ _ _
theorem np_mapT (x0:_)(x1:_):NoPan (mapT x0 x1):=by
 unfold mapT
 repeat' (first|exact np_pure _|exact np_fail|exact np_ofOpt _|exact np_ti _ _|apply np_bind|apply np_chk|apply np_if|apply np_on|apply np_fN|apply np_fI|apply np_fA|apply np_caseI|apply np_bool|apply np_opt|intro _|split)
theorem np_kLook (E:_)(t:_)(c:_)(x:_)(k:_):NoPan (kLook E t c x k):=np_bind (np_mapT _ _) fun ke=>by
 cases x with
 |map m=>
  cases m with
  |none=>exact np_kLookN _ _ _ _ _
  |some l=>exact np_bind (np_mapAt _) fun p=>np_kLookL _ _ _ _ _ _
 |_=>exact np_fail
theorem np_putE (E:_)(t:_)(k:_)(x:_)(l:_)(p:_):NoPan (putE E t k x l p):=np_bind (np_findM _ _ _ _ _) fun r=>by
 cases r with
 |none=>exact np_wrC _ _
 |some j=>exact np_on _ fun _=>np_chk _ (np_wrC _ _)
theorem np_kMapUp (E:_)(t:_)(m:_)(k:_)(x:_):NoPan (kMapUp E t m k x):=np_bind (np_mapT _ _) fun ke=>by
 cases m with
 |map m=>
  cases m with
  |none=>exact np_fail
  |some l=>exact np_bind (np_mapAt _) fun p=>np_bind (np_putE _ _ _ _ _ _) fun _=>np_pure _
 |_=>exact np_fail
theorem np_entE (E:_)(a:_)(b:_)(k:_)(l:_)(p:_):NoPan (entE E a b k l p):=np_bind (np_findM _ _ _ _ _) fun r=>by
 cases r with
 |none=>exact np_bind (np_zeroOf _ _) fun _=>np_bind (np_wrC _ _) fun _=>np_pure _
 |some j=>exact np_on _ fun _=>np_chk _ (np_bind (np_wrC _ _) fun _=>np_pure _)
theorem np_kMapEnt (E:_)(t:_)(m:_)(k:_):NoPan (kMapEnt E t m k):=np_bind (np_mapT _ _) fun ke=>by
 cases m with
 |map m=>
  cases m with
  |none=>exact np_fail
  |some l=>exact np_bind (np_mapAt _) fun p=>np_entE _ _ _ _ _ _
 |_=>exact np_fail
theorem np_kEntSt (x0:_)(x1:_)(x2:_):NoPan (kEntSt x0 x1 x2):=by
 unfold kEntSt
 repeat' (first|exact np_pure _|exact np_fail|exact np_ofOpt _|exact np_mapAt _|exact np_wrC _ _|apply np_bind|apply np_chk|apply np_if|apply np_on|apply np_fN|apply np_fI|apply np_fA|apply np_caseI|apply np_bool|apply np_opt|intro _|split)
theorem np_kMkMap:NoPan (kMkMap):=by
 unfold kMkMap
 repeat' (first|exact np_pure _|exact np_fail|exact np_ofOpt _|exact np_newO _|apply np_bind|apply np_chk|apply np_if|apply np_on|apply np_fN|apply np_fI|apply np_fA|apply np_caseI|apply np_bool|apply np_opt|intro _|split)
theorem np_kMkMapR (x0:_)(x1:_)(x2:_):NoPan (kMkMapR x0 x1 x2):=by
 unfold kMkMapR
 repeat' (first|exact np_pure _|exact np_fail|exact np_ofOpt _|exact np_kMkMap|exact np_mapT _ _|apply np_bind|apply np_chk|apply np_if|apply np_on|apply np_fN|apply np_fI|apply np_fA|apply np_caseI|apply np_bool|apply np_opt|intro _|split)
theorem np_kDel (E:_)(t:_)(m:_)(k:_):NoPan (kDel E t m k):=np_bind (np_mapT _ _) fun ke=>by
 cases m with
 |map m=>
  cases m with
  |none=>exact np_bind (np_findM _ _ _ _ _) fun _=>np_pure _
  |some l=>exact np_bind (np_mapAt _) fun p=>np_bind (np_findM _ _ _ _ _) fun r=>by cases r<;>exact np_bind (np_wrC _ _) fun _=>np_pure _
 |_=>exact np_fail
theorem np_aBuiltin (x0:_)(x1:_)(x2:_)(x3:_):NoPan (aBuiltin x0 x1 x2 x3):=by
 unfold aBuiltin
 repeat' (first|exact np_pure _|exact np_fail|exact np_ofOpt _|exact np_kDel _ _ _ _|exact np_kClear _ _ _|exact np_aCap _ _ _|exact np_aLen _ _ _|exact np_aCopy _ _ _ _ _|exact np_aAppend _ _ _ _ _|exact np_pV _|apply np_bind|apply np_chk|apply np_if|apply np_on|apply np_fN|apply np_fI|apply np_fA|apply np_caseI|apply np_bool|apply np_opt|intro _|split)
theorem np_idxN (x0:_)(x1:_)(x2:_)(x3:_):NoPan (idxN x0 x1 x2 x3):=by
 unfold idxN
 repeat' (first|exact np_pure _|exact np_fail|exact np_ofOpt _|exact np_ptrA _|exact np_ti _ _|apply np_bind|apply np_chk|apply np_if|apply np_on|apply np_fN|apply np_fI|apply np_fA|apply np_caseI|apply np_bool|apply np_opt|intro _|split)
theorem np_asN (x0:_):NoPan (asN x0):=by
 unfold asN
 repeat' (first|exact np_pure _|exact np_fail|exact np_ofOpt _|apply np_bind|apply np_chk|apply np_if|apply np_on|apply np_fN|apply np_fI|apply np_fA|apply np_caseI|apply np_bool|apply np_opt|intro _|split)
theorem np_kPick (x0:_)(x1:_)(x2:_):NoPan (kPick x0 x1 x2):=by
 unfold kPick
 repeat' (first|exact np_pure _|exact np_fail|exact np_ofOpt _|apply np_bind|apply np_chk|apply np_if|apply np_on|apply np_fN|apply np_fI|apply np_fA|apply np_caseI|apply np_bool|apply np_opt|intro _|split)
theorem np_ptrN (x0:_):NoPan (ptrN x0):=by
 unfold ptrN
 repeat' (first|exact np_pure _|exact np_fail|exact np_ofOpt _|apply np_bind|apply np_chk|apply np_if|apply np_on|apply np_fN|apply np_fI|apply np_fA|apply np_caseI|apply np_bool|apply np_opt|intro _|split)
theorem np_kAlloc (x0:_)(x1:_):NoPan (kAlloc x0 x1):=by
 unfold kAlloc
 repeat' (first|exact np_pure _|exact np_fail|exact np_ofOpt _|exact np_ptrN _|exact np_ti _ _|exact np_newL _|apply np_bind|apply np_chk|apply np_if|apply np_on|apply np_fN|apply np_fI|apply np_fA|apply np_caseI|apply np_bool|apply np_opt|intro _|split)
theorem np_kBox (x0:_):NoPan (kBox x0):=by
 unfold kBox
 repeat' (first|exact np_pure _|exact np_fail|exact np_ofOpt _|exact np_ptrN _|exact np_newL _|apply np_bind|apply np_chk|apply np_if|apply np_on|apply np_fN|apply np_fI|apply np_fA|apply np_caseI|apply np_bool|apply np_opt|intro _|split)
theorem np_kLoad (x0:_)(x1:_)(x2:_):NoPan (kLoad x0 x1 x2):=by
 unfold kLoad
 repeat' (first|exact np_pure _|exact np_fail|exact np_ofOpt _|exact np_asA _|exact np_aLoad _ _ _|apply np_bind|apply np_chk|apply np_if|apply np_on|apply np_fN|apply np_fI|apply np_fA|apply np_caseI|apply np_bool|apply np_opt|intro _|split)
theorem np_kStore (x0:_)(x1:_)(x2:_)(x3:_):NoPan (kStore x0 x1 x2 x3):=by
 unfold kStore
 repeat' (first|exact np_pure _|exact np_fail|exact np_ofOpt _|exact np_asA _|exact np_aStore _ _ _ _|apply np_bind|apply np_chk|apply np_if|apply np_on|apply np_fN|apply np_fI|apply np_fA|apply np_caseI|apply np_bool|apply np_opt|intro _|split)
theorem np_kNil (x0:_):NoPan (kNil x0):=by
 unfold kNil
 repeat' (first|exact np_pure _|exact np_fail|exact np_ofOpt _|apply np_bind|apply np_chk|apply np_if|apply np_on|apply np_fN|apply np_fI|apply np_fA|apply np_caseI|apply np_bool|apply np_opt|intro _|split)
theorem np_pB (b:Bool):NoPan (pB b):=⟨fun s c s' h=>by cases b<;>cases h⟩
theorem np_unSlow (x0:_)(x1:_)(x2:_):NoPan (unSlow x0 x1 x2):=by
 unfold unSlow
 repeat' (first|exact np_pure _|exact np_fail|exact np_ofOpt _|exact np_pV _|apply np_bind|apply np_chk|apply np_if|apply np_on|apply np_fN|apply np_fI|apply np_fA|apply np_caseI|apply np_bool|apply np_opt|intro _|split)
theorem np_xorU (P:Program)(v:Value):NoPan (xorU P v):=by
 have h:=np_unSlow P .xor v
 cases v with
 |int k n=>
  cases n with
  |negSucc m=>exact np_unSlow P .xor (.int k (.negSucc m))
  |ofNat m=>
   show NoPan (Option.rec (motive:=fun _=>M Value) (unSlow P .xor (.int k (.ofNat m))) (fun x=>M.pure x) (notK k m))
   exact np_opt _ (np_unSlow _ _ _) fun _=>np_pure _
 |_=>exact h
theorem np_kUn (x0:_)(x1:_)(x2:_):NoPan (kUn x0 x1 x2):=by
 unfold kUn
 repeat' (first|exact np_pure _|exact np_fail|exact np_ofOpt _|exact np_xorU _ _|exact np_unSlow _ _ _|exact np_pB _|apply np_bind|apply np_chk|apply np_if|apply np_on|apply np_fN|apply np_fI|apply np_fA|apply np_caseI|apply np_bool|apply np_opt|intro _|split)
theorem np_strOf (x0:_)(x1:_):NoPan (strOf x0 x1):=by
 unfold strOf
 repeat' (first|exact np_pure _|exact np_fail|exact np_ofOpt _|exact np_rdL _ _|apply np_bind|apply np_chk|apply np_if|apply np_on|apply np_fN|apply np_fI|apply np_fA|apply np_caseI|apply np_bool|apply np_opt|intro _|split)
theorem np_convSl (x0:_)(x1:_)(x2:_)(x3:_)(x4:_):NoPan (convSl x0 x1 x2 x3 x4):=by
 unfold convSl
 repeat' (first|exact np_pure _|exact np_fail|exact np_ofOpt _|exact np_strOf _ _|exact np_ti _ _|apply np_bind|apply np_chk|apply np_if|apply np_on|apply np_fN|apply np_fI|apply np_fA|apply np_caseI|apply np_bool|apply np_opt|intro _|split)
theorem np_convI (x0:_)(x1:_)(x2:_)(x3:_)(x4:_):NoPan (convI x0 x1 x2 x3 x4):=by
 unfold convI
 repeat' (first|exact np_pure _|exact np_fail|exact np_ofOpt _|exact np_pV _|exact np_ti _ _|apply np_bind|apply np_chk|apply np_if|apply np_on|apply np_fN|apply np_fI|apply np_fA|apply np_caseI|apply np_bool|apply np_opt|intro _|split)
theorem np_kConv (x0:_)(x1:_)(x2:_)(x3:_):NoPan (kConv x0 x1 x2 x3):=by
 unfold kConv
 repeat' (first|exact np_pure _|exact np_fail|exact np_ofOpt _|exact np_convI _ _ _ _ _|exact np_convSl _ _ _ _ _|exact np_pV _|apply np_bind|apply np_chk|apply np_if|apply np_on|apply np_fN|apply np_fI|apply np_fA|apply np_caseI|apply np_bool|apply np_opt|intro _|split)
theorem np_rowN (x0:_)(x1:_):NoPan (rowN x0 x1):=by
 unfold rowN
 repeat' (first|exact np_pure _|exact np_fail|exact np_ofOpt _|exact np_pSl _ _ _|exact np_newL _|exact np_wrC _ _|apply np_bind|apply np_chk|apply np_if|apply np_on|apply np_fN|apply np_fI|apply np_fA|apply np_caseI|apply np_bool|apply np_opt|intro _|split)
theorem np_strBs (l:List UInt8):NoPan (strBs l):=by
 unfold strBs
 rw[fBs_eq]
 exact np_fN _ fun n=>np_rowN _ _
theorem np_convStr (x0:_)(x1:_)(x2:_)(x3:_):NoPan (convStr x0 x1 x2 x3):=by
 unfold convStr
 repeat' (first|exact np_pure _|exact np_fail|exact np_ofOpt _|exact np_strBs _|exact np_kConv _ _ _ _|exact np_ti _ _|apply np_bind|apply np_chk|apply np_if|apply np_on|apply np_fN|apply np_fI|apply np_fA|apply np_caseI|apply np_bool|apply np_opt|intro _|split)
theorem np_convSS (x0:_)(x1:_)(x2:_)(x3:_)(x4:_)(x5:_):NoPan (convSS x0 x1 x2 x3 x4 x5):=by
 unfold convSS
 repeat' (first|exact np_pure _|exact np_fail|exact np_ofOpt _|exact np_kConv _ _ _ _|exact np_ti _ _|exact np_rdL _ _|exact np_rdC _|apply np_bind|apply np_chk|apply np_if|apply np_on|apply np_fN|apply np_fI|apply np_fA|apply np_caseI|apply np_bool|apply np_opt|intro _|split)
theorem np_kConvB (x0:_)(x1:_)(x2:_)(x3:_):NoPan (kConvB x0 x1 x2 x3):=by
 unfold kConvB
 repeat' (first|exact np_pure _|exact np_fail|exact np_ofOpt _|exact np_convSS _ _ _ _ _ _|exact np_convStr _ _ _ _|exact np_kConv _ _ _ _|apply np_bind|apply np_chk|apply np_if|apply np_on|apply np_fN|apply np_fI|apply np_fA|apply np_caseI|apply np_bool|apply np_opt|intro _|split)
theorem np_slArrP (x0:_)(x1:_):NoPan (slArrP x0 x1):=by
 unfold slArrP
 repeat' (first|exact np_pure _|exact np_fail|exact np_ofOpt _|apply np_bind|apply np_chk|apply np_if|apply np_on|apply np_fN|apply np_fI|apply np_fA|apply np_caseI|apply np_bool|apply np_opt|intro _|split)
theorem np_kSlArr (x0:_)(x1:_)(x2:_):NoPan (kSlArr x0 x1 x2):=by
 unfold kSlArr
 repeat' (first|exact np_pure _|exact np_fail|exact np_ofOpt _|exact np_slArrP _ _|exact np_ti _ _|apply np_bind|apply np_chk|apply np_if|apply np_on|apply np_fN|apply np_fI|apply np_fA|apply np_caseI|apply np_bool|apply np_opt|intro _|split)
theorem np_kIface (x0:_)(x1:_)(x2:_):NoPan (kIface x0 x1 x2):=by
 unfold kIface
 repeat' (first|exact np_pure _|exact np_fail|exact np_ofOpt _|exact np_ti _ _|apply np_bind|apply np_chk|apply np_if|apply np_on|apply np_fN|apply np_fI|apply np_fA|apply np_caseI|apply np_bool|apply np_opt|intro _|split)
theorem np_mkSl (x0:_)(x1:_)(x2:_)(x3:_):NoPan (mkSl x0 x1 x2 x3):=by
 unfold mkSl
 repeat' (first|exact np_pure _|exact np_fail|exact np_ofOpt _|exact np_ti _ _|exact np_newL _|apply np_bind|apply np_chk|apply np_if|apply np_on|apply np_fN|apply np_fI|apply np_fA|apply np_caseI|apply np_bool|apply np_opt|intro _|split)
theorem np_kMkSl (x0:_)(x1:_)(x2:_)(x3:_):NoPan (kMkSl x0 x1 x2 x3):=by
 unfold kMkSl
 repeat' (first|exact np_pure _|exact np_fail|exact np_ofOpt _|exact np_mkSl _ _ _ _|exact np_asN _|exact np_ti _ _|apply np_bind|apply np_chk|apply np_if|apply np_on|apply np_fN|apply np_fI|apply np_fA|apply np_caseI|apply np_bool|apply np_opt|intro _|split)
theorem np_fldOf (x0:_)(x1:_)(x2:_):NoPan (fldOf x0 x1 x2):=by
 unfold fldOf
 repeat' (first|exact np_pure _|exact np_fail|exact np_ofOpt _|exact np_ti _ _|apply np_bind|apply np_chk|apply np_if|apply np_on|apply np_fN|apply np_fI|apply np_fA|apply np_caseI|apply np_bool|apply np_opt|intro _|split)
theorem np_kFld (x0:_)(x1:_)(x2:_)(x3:_):NoPan (kFld x0 x1 x2 x3):=by
 unfold kFld
 repeat' (first|exact np_pure _|exact np_fail|exact np_ofOpt _|exact np_fldOf _ _ _|exact np_ptrA _|exact np_asA _|exact np_ti _ _|apply np_bind|apply np_chk|apply np_if|apply np_on|apply np_fN|apply np_fI|apply np_fA|apply np_caseI|apply np_bool|apply np_opt|intro _|split)
theorem np_asCs (x0:_):NoPan (asCs x0):=by
 unfold asCs
 repeat' (first|exact np_pure _|exact np_fail|exact np_ofOpt _|apply np_bind|apply np_chk|apply np_if|apply np_on|apply np_fN|apply np_fI|apply np_fA|apply np_caseI|apply np_bool|apply np_opt|intro _|split)
theorem np_kField (x0:_)(x1:_)(x2:_)(x3:_):NoPan (kField x0 x1 x2 x3):=by
 unfold kField
 repeat' (first|exact np_pure _|exact np_fail|exact np_ofOpt _|exact np_asCs _|exact np_fldOf _ _ _|exact np_partV _ _ _ _|exact np_ti _ _|apply np_bind|apply np_chk|apply np_if|apply np_on|apply np_fN|apply np_fI|apply np_fA|apply np_caseI|apply np_bool|apply np_opt|intro _|split)
theorem np_kIdxA (x0:_)(x1:_)(x2:_)(x3:_):NoPan (kIdxA x0 x1 x2 x3):=by
 unfold kIdxA
 repeat' (first|exact np_pure _|exact np_fail|exact np_ofOpt _|exact np_asN _|exact np_idxN _ _ _ _|exact np_ti _ _|apply np_bind|apply np_chk|apply np_if|apply np_on|apply np_fN|apply np_fI|apply np_fA|apply np_caseI|apply np_bool|apply np_opt|intro _|split)
theorem np_idxV (x0:_)(x1:_)(x2:_)(x3:_):NoPan (idxV x0 x1 x2 x3):=by
 unfold idxV
 repeat' (first|exact np_pure _|exact np_fail|exact np_ofOpt _|exact np_partV _ _ _ _|exact np_ti _ _|apply np_bind|apply np_chk|apply np_if|apply np_on|apply np_fN|apply np_fI|apply np_fA|apply np_caseI|apply np_bool|apply np_opt|intro _|split)
theorem np_kIdx (x0:_)(x1:_)(x2:_)(x3:_):NoPan (kIdx x0 x1 x2 x3):=by
 unfold kIdx
 repeat' (first|exact np_pure _|exact np_fail|exact np_ofOpt _|exact np_idxV _ _ _ _|exact np_asN _|exact np_ti _ _|apply np_bind|apply np_chk|apply np_if|apply np_on|apply np_fN|apply np_fI|apply np_fA|apply np_caseI|apply np_bool|apply np_opt|intro _|split)
theorem np_kExt (x0:_)(x1:_):NoPan (kExt x0 x1):=by
 unfold kExt
 repeat' (first|exact np_pure _|exact np_fail|exact np_ofOpt _|apply np_bind|apply np_chk|apply np_if|apply np_on|apply np_fN|apply np_fI|apply np_fA|apply np_caseI|apply np_bool|apply np_opt|intro _|split)
theorem np_okV (x0:_)(x1:_)(x2:_):NoPan (okV x0 x1 x2):=by
 unfold okV
 repeat' (first|exact np_pure _|exact np_fail|exact np_ofOpt _|apply np_bind|apply np_chk|apply np_if|apply np_on|apply np_fN|apply np_fI|apply np_fA|apply np_caseI|apply np_bool|apply np_opt|intro _|split)
theorem np_kRange (x0:_)(x1:_)(x2:_):NoPan (kRange x0 x1 x2):=by
 unfold kRange
 repeat' (first|exact np_pure _|exact np_mapAt _|exact np_fail|exact np_ofOpt _|exact np_ti _ _|exact np_newO _|apply np_bind|apply np_chk|apply np_if|apply np_on|apply np_fN|apply np_fI|apply np_fA|apply np_caseI|apply np_bool|apply np_opt|intro _|split)
theorem np_sitN (x0:_)(x1:_)(x2:_):NoPan (sitN x0 x1 x2):=by
 unfold sitN
 repeat' (first|exact np_pure _|exact np_fail|exact np_ofOpt _|exact np_wrC _ _|apply np_bind|apply np_chk|apply np_if|apply np_on|apply np_fN|apply np_fI|apply np_fA|apply np_caseI|apply np_bool|apply np_opt|intro _|split)
theorem np_mitN (x0:_)(x1:_)(x2:_)(x3:_)(x4:_):NoPan (mitN x0 x1 x2 x3 x4):=by
 unfold mitN
 refine np_chk _ ?_
 split
 ·exact np_pure _
 ·exact np_fN _ fun _=>np_bind (np_wrC _ _) fun _=>np_pure _
 ·exact np_fail
theorem np_kNextM (x0:_):NoPan (kNextM x0):=by
 unfold kNextM
 split
 ·refine np_bind (np_rdC _) fun c=> ?_
  split
  ·exact np_bind (np_mapAt _) fun _=>np_mitN _ _ _ _ _
  ·exact np_fail
 ·exact np_fail
theorem np_mitE (x0:_)(x1:_)(x2:_):NoPan (mitE x0 x1 x2):=by
 unfold mitE
 exact np_chk _ (np_on _ fun _=>np_on _ fun _=>np_pure _)
theorem np_kEntry (x0:_):NoPan (kEntry x0):=by
 unfold kEntry
 split
 ·refine np_bind (np_rdC _) fun c=> ?_
  split
  ·exact np_bind (np_mapAt _) fun _=>np_mitE _ _ _
  ·exact np_fail
 ·exact np_fail
theorem np_kNext (x0:_):NoPan (kNext x0):=by
 unfold kNext
 repeat' (first|exact np_pure _|exact np_fail|exact np_ofOpt _|exact np_sitN _ _ _|exact np_rdC _|apply np_bind|apply np_chk|apply np_if|apply np_on|apply np_fN|apply np_fI|apply np_fA|apply np_caseI|apply np_bool|apply np_opt|intro _|split)
theorem np_kAssert (x0:_)(x1:_)(x2:_)(x3:_):NoPan (kAssert x0 x1 x2 x3):=by
 unfold kAssert
 repeat' (first|exact np_pure _|exact np_fail|exact np_ofOpt _|exact np_okV _ _ _|exact np_zeroV _|exact np_ti _ _|apply np_bind|apply np_chk|apply np_if|apply np_on|apply np_fN|apply np_fI|apply np_fA|apply np_caseI|apply np_bool|apply np_opt|intro _|split)
end Go.Proofs.YtapojfiplajfaaaGreatDoor.Am
/- One operation of the evaluator against the model's:those that give a value at once. -/
namespace Go.Proofs.YtapojfiplajfaaaGreatDoor.Am
open Go.RowKit
/-- An operation that gives a value,or nothing,at once,and never panics. -/
def OpV (E:Env)(o:Oper)(c:Cl OpT)(ds:List Nat):Prop:=
 ∃f,c= .mk f∧(∀call round rho tm,NoPan (f call round rho tm))∧
  ∀call round (w0 w:World) (r:Inj) (U:Nat→Prop) rho tm (a:Act) s v s',SlR r U ds rho tm a.tmps→(∀t,Operand.tmp t∈o.op.operands.toList→U t)→Rel w0 r s.mem w→f call round rho tm s= .some v s'→Fresh r s.next s'.next→
   ∃v' w' r',((execOp a.eval o).run E.P w= .ok (.value v') w'∨((execOp a.eval o).run E.P w= .ok .skip w'∧v'=undef))∧Goes w0 r s s' r' w'∧VR r' v v'∧s'.lim=s.lim∧s'.cx=s.cx
section
variable {E:Env}{ds:List Nat}{o:Oper}
def valOf (m:Sem Value):Sem Next:=do pure (.value (←m))
theorem Yields.val {w0 w:World}{r:Inj}{s s':St}{v:Value}{m:Sem Value}(h:Yields E w0 r s s' v w m){n:Sem Next}(hn:n=valOf m):
  ∃v' w' r',(n.run E.P w= .ok (.value v') w'∨(n.run E.P w= .ok .skip w'∧v'=undef))∧Goes w0 r s s' r' w'∧VR r' v v'∧s'.lim=s.lim∧s'.cx=s.cx:=by
 obtain⟨v',w',r',h1,h2,h3,h4,h5⟩:=h
 exact⟨v',w',r', .inl (by rw[hn];simp[valOf,h1]),h2,h3,h4,h5⟩
theorem optRec_some {α:Type}{x:Option α}{f:α→St→R Value}{s s':St}{v:Value}(h:Option.rec (motive:=fun _=>R Value) .none (fun a=>f a s) x= .some v s'): ∃a,x=some a∧f a s= .some v s':=by
 cases x with
 |none=>cases h
 |some a=>exact⟨a,rfl,h⟩
theorem np_rec {α:Type}{g:Option α}{f:α→M Value}(h: ∀a,NoPan (f a)):NoPan (fun s=>Option.rec (motive:=fun _=>R Value) .none (fun a=>f a s) g):=⟨fun s c s' e=>by
 cases g with
 |none=>cases e
 |some a=>exact(h a).no _ _ _ e⟩
theorem with0_ok {x:Operand}(hx:o.op.operands.toList=[x])(ho: ∀a:Act,execOp a.eval o=pure (.value (a.eval x))):OpV E o (with0 ds x) ds:=by
 obtain⟨g,h1,h2⟩:=compO_ok ds x
 refine⟨_,by unfold with0;rw[h1],fun _ _ rho tm=>np_rec (f:=fun a s=> .some a s) (g:=g rho tm) fun a=>np_pure a, ?_⟩
 intro call round w0 w r U rho tm a s v s' hs hu hr h hf
 obtain⟨y,e1,e2⟩:=optRec_some (f:=fun a s=> .some a s) h
 cases e2
 exact⟨_,w,r, .inl (by rw[ho];rfl), .of_rel rfl hr,h2 _ _ _ _ _ _ hs (fun t q=>hu t (by first|(rw[hx];simp at q ⊢;simp[q])|exact hx _ q)) e1,rfl,rfl⟩
theorem with1_ok {x:Operand}{k:Value→M Value}{m:Value→Sem Value}(hx:o.op.operands.toList=[x])(ho: ∀a:Act,execOp a.eval o=valOf (m (a.eval x)))(np: ∀y,NoPan (k y))
  (hk: ∀{w0 w:World} {r:Inj} {y y':Value} {s v s'},k y s= .some v s'→Rel w0 r s.mem w→Fresh r s.next s'.next→VR r y y'→Yields E w0 r s s' v w (m y')):OpV E o (with1 ds x k) ds:=by
 obtain⟨g,h1,h2⟩:=compO_ok ds x
 refine⟨_,by unfold with1;rw[h1],fun _ _ rho tm=>np_rec (g:=g rho tm) np, ?_⟩
 intro call round w0 w r U rho tm a s v s' hs hu hr h hf
 obtain⟨y,e1,e2⟩:=optRec_some h
 exact(hk e2 hr hf (h2 _ _ _ _ _ _ hs (fun t q=>hu t (by first|(rw[hx];simp at q ⊢;simp[q])|exact hx _ q)) e1)).val (ho a)
theorem with2_ok {x y:Operand}{k:Value→Value→M Value}{m:Value→Value→Sem Value}(hx:o.op.operands.toList=[x,y])(ho: ∀a:Act,execOp a.eval o=valOf (m (a.eval x) (a.eval y)))(np: ∀y z,NoPan (k y z))
  (hk: ∀{w0 w:World} {r:Inj} {y y' z z':Value} {s v s'},k y z s= .some v s'→Rel w0 r s.mem w→Fresh r s.next s'.next→VR r y y'→VR r z z'→Yields E w0 r s s' v w (m y' z')):OpV E o (with2 ds x y k) ds:=by
 obtain⟨g,h1,h2⟩:=compO_ok ds x
 obtain⟨g',h3,h4⟩:=compO_ok ds y
 refine⟨_,by unfold with2;rw[h1,h3],fun _ _ rho tm=>np_rec (g:=g rho tm) (f:=fun a s=>Option.rec (motive:=fun _=>R Value) .none (fun b=>k a b s) (g' rho tm)) fun a=>np_rec (np a), ?_⟩
 intro call round w0 w r U rho tm a s v s' hs hu hr h hf
 obtain⟨y,e1,e2⟩:=optRec_some (f:=fun a s=>Option.rec (motive:=fun _=>R Value) .none (fun b=>k a b s) (g' rho tm)) h
 obtain⟨z,e3,e4⟩:=optRec_some e2
 exact(hk e4 hr hf (h2 _ _ _ _ _ _ hs (fun t q=>hu t (by first|(rw[hx];simp at q ⊢;simp[q])|exact hx _ q)) e1) (h4 _ _ _ _ _ _ hs (fun t q=>hu t (by rw[hx];simp at q ⊢;simp[q])) e3)).val (ho a)
theorem withP_ok {l:List (Nat×Operand)}{k:List (Nat×Value)→M Value}{m:List (Nat×Value)→Sem Value}(hx:o.op.operands.toList=l.map (·.2))(ho: ∀a:Act,execOp a.eval o=valOf (m (l.map fun p=>(p.1,a.eval p.2))))(np: ∀y,NoPan (k y))
  (hk: ∀{w0 w:World} {r:Inj} {y y':List (Nat×Value)} {s v s'},k y s= .some v s'→Rel w0 r s.mem w→Fresh r s.next s'.next→PRs r y y'→Yields E w0 r s s' v w (m y')):OpV E o (withP ds l k) ds:=by
 obtain⟨g,h1,h2⟩:=compP_ok ds l
 refine⟨_,by unfold withP;rw[h1],fun _ _ rho tm=>np_rec (g:=g rho tm) np, ?_⟩
 intro call round w0 w r U rho tm a s v s' hs hu hr h hf
 obtain⟨y,e1,e2⟩:=optRec_some h
 exact(hk e2 hr hf (h2 _ _ _ _ _ _ hs (fun t q=>hu t (by first|(rw[hx];simp at q ⊢;simp[q])|exact hx _ q)) e1)).val (ho a)
end
end Go.Proofs.YtapojfiplajfaaaGreatDoor.Am
/- The operations that give a value at once,each by its name. -/
namespace Go.Proofs.YtapojfiplajfaaaGreatDoor.Am
open Go.RowKit
section
variable {E:Env}{ds:List Nat}{o:Oper}
theorem op_move {x:Operand}(ho:o.op= .move x):OpV E o (with0 ds x) ds:=with0_ok (by simp[ho,Op.operands]) fun a=>by simp only[execOp,ho]
theorem op_assign {x:Operand}(ho:o.op= .assign x):OpV E o (with0 ds x) ds:=with0_ok (by simp[ho,Op.operands]) fun a=>by simp only[execOp,ho]
theorem op_alloc {e:Nat}(ho:o.op= .alloc e)(he:EnvTy E):OpV E o (.mk fun _ _ _ _=>kAlloc E e) ds:=by
 refine⟨_,rfl,fun _ _ _ _=>np_kAlloc _ _, ?_⟩
 intro call round w0 w r U rho tm a s v s' hs hu hr h hf
 exact(kAlloc_ok he h hr hf).val (by simp only[execOp,ho];rfl)
theorem op_box {e:Nat}{x:Operand}(ho:o.op= .box e x):OpV E o (with1 ds x kBox) ds:=
 with1_ok (m:=Instr.box e) (by simp[ho,Op.operands]) (fun a=>by simp only[execOp,ho];rfl) np_kBox fun h hr hf hx=>kBox_ok h hr hf hx
theorem op_build {t:Nat}{ps:Array (Nat×Operand)}(ho:o.op= .build t ps)(he:EnvTy E):OpV E o (withP ds ps.toList (aBuild E t)) ds:=
 withP_ok (m:=fun l=>Instr.build t l.toArray) (by simp[ho,Op.operands]) (fun a=>by simp only[execOp,ho];rw[←List.map_toArray];rfl) (np_aBuild _ _) fun h hr hf hx=>aBuild_ok he h hr (by simpa using hx)
theorem op_buildSlice {t n:Nat}{ps:Array (Nat×Operand)}(ho:o.op= .buildSlice t n ps)(he:EnvTy E):OpV E o (withP ds ps.toList (aBuildS E t n)) ds:=
 withP_ok (m:=fun l=>Instr.buildSlice t n l.toArray) (by simp[ho,Op.operands]) (fun a=>by simp only[execOp,ho];rw[←List.map_toArray];rfl) (np_aBuildS _ _ _) fun h hr hf hx=>aBuildS_ok he h hr hf (by simpa using hx)
theorem op_load {t:Nat}{x:Operand}(ho:o.op= .load t x)(he:EnvTy E):OpV E o (with1 ds x (kLoad E t)) ds:=
 with1_ok (m:=Instr.loadAt t) (by simp[ho,Op.operands]) (fun a=>by simp only[execOp,ho];rfl) (np_kLoad _ _) fun h hr hf hx=>kLoad_ok he h hr hx
theorem op_store {t:Nat}{x y:Operand}(ho:o.op= .store t x y)(he:EnvTy E):OpV E o (with2 ds x y (kStore E t)) ds:=by
 obtain⟨g,h1,h2⟩:=compO_ok ds x
 obtain⟨g',h3,h4⟩:=compO_ok ds y
 refine⟨_,by unfold with2;rw[h1,h3],fun _ _ rho tm=>np_rec (g:=g rho tm) (f:=fun a s=>Option.rec (motive:=fun _=>R Value) .none (fun b=>kStore E t a b s) (g' rho tm)) fun a=>np_rec (np_kStore _ _ a), ?_⟩
 intro call round w0 w r U rho tm a s v s' hs hu hr h hf
 obtain⟨y,e1,e2⟩:=optRec_some (f:=fun a s=>Option.rec (motive:=fun _=>R Value) .none (fun b=>kStore E t a b s) (g' rho tm)) h
 obtain⟨z,e3,e4⟩:=optRec_some e2
 obtain⟨rfl,w',k1,k2,k3,k4,k5⟩:=kStore_ok he e4 hr (h2 _ _ _ _ _ _ hs (fun t q=>hu t (by simp[ho,Op.operands]at q ⊢;simp[q])) e1) (h4 _ _ _ _ _ _ hs (fun t q=>hu t (by simp[ho,Op.operands]at q ⊢;simp[q])) e3)
 refine⟨undef,w',r, .inr ⟨?_,rfl⟩, .of_rel k3 k2, .tuple rfl (fun i v v' e=>by simp at e),k4,k5⟩
 simp[execOp,ho,k1]
theorem op_nil {x:Operand}(ho:o.op= .nilCheck x):OpV E o (with1 ds x kNil) ds:=by
 obtain⟨g,h1,h2⟩:=compO_ok ds x
 refine⟨_,by unfold with1;rw[h1],fun _ _ rho tm=>np_rec (g:=g rho tm) np_kNil, ?_⟩
 intro call round w0 w r U rho tm a s v s' hs hu hr h hf
 obtain⟨y,e1,e2⟩:=optRec_some h
 have hx:=h2 _ _ _ _ _ _ hs (fun t q=>hu t (by simp[ho,Op.operands]at q ⊢;simp[q])) e1
 obtain⟨rfl,rfl,e3⟩:=kNil_ok (P:=E.P) (w:=w) (a:=a) ho rfl e2 hx
 exact⟨_,w,r, .inl e3, .of_rel rfl hr,hx,rfl,rfl⟩
theorem op_bin {op:BinOp}{t yt:Nat}{x y:Operand}(ho:o.op= .binOp op t x y yt)(he:EnvTy E):OpV E o (Cl.rec (motive:=fun _=>Cl OpT) (fun f=>with2 ds x y f) (aBin E op t x y)) ds:=by
 generalize hc:aBin E op t x y=c
 obtain⟨f⟩:=c
 refine with2_ok (m:=fun y' z'=>do eqGuard op t x y y' z';binOp op t y' z') (by simp[ho,Op.operands]) (fun a=>by simp only[execOp,ho];rfl) (fun y' z'=> ?_) fun h hr hf hx hy=>aBin_ok hc he h hr hx hy
 have slow: ∀op,NoPan (binSlow E op t x y y' z'):=fun op=>np_binSlow _ _ _ _ _ _ _
 have fast3: ∀(k:FastT) op,NoPan (int3 k (binSlow E op t x y) y' z'):=fun k op=>⟨fun s c s' e=>by
  unfold int3 caseI at e
  cases y'<;>simp only at e
  case int k1 a=>
   cases z'<;>simp only at e
   case int k2 b=>
    cases a with
    |negSucc m=>exact(slow op).no _ _ _ e
    |ofNat m=>
     cases b with
     |negSucc m=>exact(slow op).no _ _ _ e
     |ofNat n=>
      simp only at e
      cases e1:k k1 k2 m n with
      |none=>rw[e1]at e;exact(slow op).no _ _ _ e
      |some u=>rw[e1]at e;cases e
   all_goals exact(slow op).no _ _ _ e
  all_goals exact(slow op).no _ _ _ e⟩
 have fast2: ∀(k:Int→Int→St→R Value) (k3:FastT) op,(∀a b,NoPan (k a b))→NoPan (int2 k (int3 k3 (binSlow E op t x y)) y' z'):=fun k k3 op hk=>⟨fun s c s' e=>by
  have f3:=fast3 k3 op
  unfold int2 caseI at e
  cases y'<;>simp only at e
  case int k1 a=>
   cases z'<;>simp only at e
   case int k2 b=>
    cases e1:isI64 k1 with
    |false=>rw[e1]at e;exact f3.no _ _ _ e
    |true=>
     cases e2:isI64 k2 with
     |false=>rw[e1,e2]at e;exact f3.no _ _ _ e
     |true=>rw[e1,e2]at e;exact(hk a b).no _ _ _ e
   all_goals exact f3.no _ _ _ e
  all_goals exact f3.no _ _ _ e⟩
 have rI': ∀n,NoPan (rI n):=fun n=>⟨fun s c s' e=>by unfold rI at e;rw[fI_eq]at e;cases e⟩
 have rB': ∀b,NoPan (rB b):=fun b=>⟨fun s c s' e=>by cases b<;>cases e⟩
 cases op<;>cases hc<;>first|exact slow _|exact fast3 _ _|exact fast2 _ _ _ fun a b=>rI' _|exact fast2 _ _ _ fun a b=>rB' _
theorem op_un {op:UnOp}{t:Nat}{x:Operand}(ho:o.op= .unOp op t x):OpV E o (with1 ds x (kUn E.P op)) ds:=
 with1_ok (m:=Op.unary op) (by simp[ho,Op.operands]) (fun a=>by simp only[execOp,ho];rfl) (np_kUn _ _) fun h hr hf hx=>kUn_ok h hr hx
theorem op_conv {s d:Nat}{x:Operand}(ho:o.op= .convert s d x)(he:EnvTy E):OpV E o (with1 ds x (kConvB E s d)) ds:=
 with1_ok (m:=convert s d) (by simp[ho,Op.operands]) (fun a=>by simp only[execOp,ho];rfl) (np_kConvB _ _ _) fun h hr hf hx=>kConvB_ok he h hr hf hx
theorem op_slArr {t:Nat}{x:Operand}(ho:o.op= .sliceToArrayPointer t x)(he:EnvTy E):OpV E o (with1 ds x (kSlArr E t)) ds:=
 with1_ok (m:=Instr.arrayAt t) (by simp[ho,Op.operands]) (fun a=>by simp only[execOp,ho];rfl) (np_kSlArr _ _) fun h hr hf hx=>kSlArr_ok he h hr hx
theorem op_iface {t:Nat}{x:Operand}(ho:o.op= .makeInterface t x)(he:EnvTy E):OpV E o (with1 ds x (kIface E t)) ds:=
 with1_ok (m:=Instr.makeInterface t) (by simp[ho,Op.operands]) (fun a=>by simp only[execOp,ho];rfl) (np_kIface _ _) fun h hr hf hx=>kIface_ok he h hr hx
theorem op_makeSlice {t:Nat}{x y:Operand}(ho:o.op= .makeSlice t x y)(he:EnvTy E):OpV E o (with2 ds x y (kMkSl E t)) ds:=
 with2_ok (m:=Instr.makeSlice t) (by simp[ho,Op.operands]) (fun a=>by simp only[execOp,ho];rfl) (np_kMkSl _ _) fun h hr hf hx hy=>kMkSl_ok he h hr hf hx hy
theorem op_fieldAddr {t f:Nat}{x:Operand}(ho:o.op= .fieldAddr t x f)(he:EnvTy E):OpV E o (with1 ds x fun a=>kFld E t a f) ds:=
 with1_ok (m:=fun x=>Instr.fieldAt t x f) (by simp[ho,Op.operands]) (fun a=>by simp only[execOp,ho];rfl) (fun y=>np_kFld _ _ y _) fun h hr hf hx=>kFld_ok he h hr hx
theorem op_field {t f:Nat}{x:Operand}(ho:o.op= .field t x f)(he:EnvTy E):OpV E o (with1 ds x fun a=>kField E t a f) ds:=
 with1_ok (m:=fun x=>Instr.field t x f) (by simp[ho,Op.operands]) (fun a=>by simp only[execOp,ho];rfl) (fun y=>np_kField _ _ y _) fun h hr hf hx=>kField_ok he h hr hx
theorem op_indexAddr {t:Nat}{x y:Operand}(ho:o.op= .indexAddr t x y)(he:EnvTy E):OpV E o (with2 ds x y (kIdxA E t)) ds:=
 with2_ok (m:=Instr.indexAt t) (by simp[ho,Op.operands]) (fun a=>by simp only[execOp,ho];rfl) (np_kIdxA _ _) fun h hr hf hx hy=>kIdxA_ok he h hr hx hy
theorem op_index {t:Nat}{x y:Operand}(ho:o.op= .index t x y)(he:EnvTy E):OpV E o (with2 ds x y (kIdx E t)) ds:=
 with2_ok (m:=Instr.index t) (by simp[ho,Op.operands]) (fun a=>by simp only[execOp,ho];rfl) (np_kIdx _ _) fun h hr hf hx hy=>kIdx_ok he h hr hx hy
theorem op_extract {k:Nat}{x:Operand}(ho:o.op= .extract x k):OpV E o (with1 ds x (kExt k)) ds:=
 with1_ok (m:=fun x=>Instr.extract x k) (by simp[ho,Op.operands]) (fun a=>by simp only[execOp,ho];rfl) (np_kExt _) fun h hr hf hx=>kExt_ok h hr hx
theorem op_assert {xt t:Nat}{c:Bool}{x:Operand}(ho:o.op= .typeAssert x xt t c)(he:EnvTy E):OpV E o (with1 ds x (kAssert E t c)) ds:=
 with1_ok (m:=fun x=>Instr.typeAssert x xt t c) (by simp[ho,Op.operands]) (fun a=>by simp only[execOp,ho];rfl) (np_kAssert _ _ _) fun h hr hf hx=>kAssert_ok he h hr hx
end
end Go.Proofs.YtapojfiplajfaaaGreatDoor.Am
/- The operations that give a value at once:choices,slices,functions,built-in ones. -/
namespace Go.Proofs.YtapojfiplajfaaaGreatDoor.Am
open Go.RowKit
section
variable {E:Env}{ds:List Nat}{o:Oper}
theorem op_pick {x y z:Operand}(ho:o.op= .pick x y z):OpV E o (with3 ds x y z kPick) ds:=by
 obtain⟨g,h1,h2⟩:=compO_ok ds x
 obtain⟨g',h3,h4⟩:=compO_ok ds y
 obtain⟨g2,h5,h6⟩:=compO_ok ds z
 refine⟨_,by unfold with3;rw[h1,h3,h5],fun _ _ rho tm=>np_on _ fun a=>np_on _ fun b=>np_on _ fun c=>np_kPick _ _ _, ?_⟩
 intro call round w0 w r U rho tm a s v s' hs hu hr h hf
 obtain⟨x',e1,h⟩:=on_some h
 obtain⟨y',e2,h⟩:=on_some h
 obtain⟨z',e3,h⟩:=on_some h
 obtain⟨rfl,t,k1,k2⟩:=kPick_ok h (h2 _ _ _ _ _ _ hs (fun t q=>hu t (by simp[ho,Op.operands]at q ⊢;simp[q])) e1) (h4 _ _ _ _ _ _ hs (fun t q=>hu t (by simp[ho,Op.operands]at q ⊢;simp[q])) e2) (h6 _ _ _ _ _ _ hs (fun t q=>hu t (by simp[ho,Op.operands]at q ⊢;simp[q])) e3)
 refine⟨_,w,r, .inl ?_, .of_rel rfl hr,k2,rfl,rfl⟩
 simp only[execOp,ho,k1]
 cases t<;>simp[asBool]
theorem op_slice {t:Nat}{x:Operand}{lo hi mx:Option Operand}(ho:o.op= .slice t x lo hi mx)(he:EnvTy E):OpV E o (compSl E ds t x lo hi mx) ds:=by
 cases mx with
 |some m=>
  exact⟨_,rfl,fun _ _ _ _=>np_fail,fun call round w0 w r U rho tm a s v s' hs hu hr h hf=>by cases h⟩
 |none=>
  obtain⟨g,h1,h2⟩:=compO_ok ds x
  obtain⟨g',h3,h4⟩:=compM_ok ds lo
  obtain⟨g2,h5,h6⟩:=compM_ok ds hi
  refine⟨fun _ _ rho tm=>M.on (g rho tm) fun a=>M.on (g' rho tm) fun b=>M.on (g2 rho tm) fun c=>aSlice E t a b c,by unfold compSl withS;simp only[h1,h3,h5],fun _ _ rho tm=>np_on _ fun a=>np_on _ fun b=>np_on _ fun c=>np_aSlice _ _ _ _ _, ?_⟩
  intro call round w0 w r U rho tm a s v s' hs hu hr h hf
  obtain⟨x',e1,h⟩:=on_some h
  obtain⟨y',e2,h⟩:=on_some h
  obtain⟨z',e3,h⟩:=on_some h
  exact(aSlice_ok he h hr (h2 _ _ _ _ _ _ hs (fun t q=>hu t (by simp[ho,Op.operands]at q ⊢;simp[q])) e1) (h4 _ _ _ _ _ _ hs (fun t q=>hu t (by simp[ho,Op.operands]at q ⊢;simp[q])) e2) (h6 _ _ _ _ _ _ hs (fun t q=>hu t (by simp[ho,Op.operands]at q ⊢;simp[q])) e3)).val (by simp only[execOp,ho];rfl)
theorem op_mkMap {t:Nat}(ho:o.op= .makeMap t none):OpV E o (.mk fun _ _ _ _=>kMkMap) ds:=by
 refine⟨_,rfl,fun _ _ _ _=>np_kMkMap, ?_⟩
 intro call round w0 w r U rho tm a s v s' hs hu hr h hf
 exact(kMkMap_ok h hr hf).val (by simp only[execOp,ho];rfl)
theorem op_mkMapR {t:Nat}{x:Operand}(ho:o.op= .makeMap t (some x))(he:EnvTy E):OpV E o (with1 ds x (kMkMapR E t)) ds:=
 with1_ok (m:=fun x=>Instr.makeMap t (some x)) (by simp[ho,Op.operands]) (fun a=>by simp only[execOp,ho];rfl) (np_kMkMapR _ _) fun h hr hf hx=>kMkMapR_ok he h hr hf hx
theorem op_lookup {t:Nat}{c:Bool}{x y:Operand}(ho:o.op= .lookup t x y c)(he:EnvTy E):OpV E o (with2 ds x y (kLook E t c)) ds:=
 with2_ok (m:=fun x y=>Instr.lookup t x y c) (by simp[ho,Op.operands]) (fun a=>by simp only[execOp,ho];rfl) (np_kLook _ _ _) fun h hr hf hx hy=>kLook_ok he h hr hx hy
theorem op_mapEnt {t:Nat}{x y:Operand}(ho:o.op= .mapEntry t x y)(he:EnvTy E):OpV E o (with2 ds x y (kMapEnt E t)) ds:=
 with2_ok (m:=Instr.mapEntry t) (by simp[ho,Op.operands]) (fun a=>by simp only[execOp,ho];rfl) (np_kMapEnt _ _) fun h hr hf hx hy=>kMapEnt_ok he h hr hx hy
/-- Three operands,and nothing to give. -/
theorem with3_ok {x y z:Operand}{k:Value→Value→Value→M Value}{m:Value→Value→Value→Sem Unit}(hx:o.op.operands.toList=[x,y,z])(ho: ∀a:Act,execOp a.eval o=(do m (a.eval x) (a.eval y) (a.eval z);pure .skip))(np: ∀x y z,NoPan (k x y z))
  (hk: ∀{w0 w:World} {r:Inj} {x x' y y' z z':Value} {s v s'},k x y z s= .some v s'→Rel w0 r s.mem w→VR r x x'→VR r y y'→VR r z z'→v=undef∧ ∃w',(m x' y' z').run E.P w= .ok () w'∧Goes w0 r s s' r w'∧s'.lim=s.lim∧s'.cx=s.cx):OpV E o (with3 ds x y z k) ds:=by
 obtain⟨g,h1,h2⟩:=compO_ok ds x
 obtain⟨g',h3,h4⟩:=compO_ok ds y
 obtain⟨g2,h5,h6⟩:=compO_ok ds z
 refine⟨_,by unfold with3;rw[h1,h3,h5],fun _ _ rho tm=>np_on _ fun a=>np_on _ fun b=>np_on _ fun c=>np _ _ _, ?_⟩
 intro call round w0 w r U rho tm a s v s' hs hu hr h hf
 obtain⟨x',e1,h⟩:=on_some h
 obtain⟨y',e2,h⟩:=on_some h
 obtain⟨z',e3,h⟩:=on_some h
 obtain⟨rfl,w',k1,k2,k3,k4⟩:=hk h hr (h2 _ _ _ _ _ _ hs (fun t q=>hu t (by rw[hx];simp at q ⊢;simp[q])) e1) (h4 _ _ _ _ _ _ hs (fun t q=>hu t (by rw[hx];simp at q ⊢;simp[q])) e2) (h6 _ _ _ _ _ _ hs (fun t q=>hu t (by rw[hx];simp at q ⊢;simp[q])) e3)
 refine⟨undef,w',r, .inr ⟨?_,rfl⟩,k2, .undef,k3,k4⟩
 rw[ho]
 simp[k1]
theorem op_mapUp {t:Nat}{x y z:Operand}(ho:o.op= .mapUpdate t x y z)(he:EnvTy E):OpV E o (with3 ds x y z (kMapUp E t)) ds:=
 with3_ok (m:=Instr.mapUpdate t) (by simp[ho,Op.operands]) (fun a=>by simp only[execOp,ho]) (np_kMapUp _ _) fun h hr hx hy hz=>kMapUp_ok he h hr hx hy hz
theorem op_insert {t:Nat}{x y z:Operand}(ho:o.op= .insert t x y z)(he:EnvTy E):OpV E o (with3 ds x y z (kMapUp E t)) ds:=
 with3_ok (m:=Instr.mapUpdate t) (by simp[ho,Op.operands]) (fun a=>by simp only[execOp,ho]) (np_kMapUp _ _) fun h hr hx hy hz=>kMapUp_ok he h hr hx hy hz
theorem op_entSt {t:Nat}{x y z:Operand}(ho:o.op= .entryStore t x y z):OpV E o (with3 ds x y z kEntSt) ds:=
 with3_ok (m:=Instr.entryStore t) (by simp[ho,Op.operands]) (fun a=>by simp only[execOp,ho]) np_kEntSt fun h hr hx hy hz=>kEntSt_ok h hr hx hy hz
theorem op_range {t:Nat}{x:Operand}(ho:o.op= .range t x)(he:EnvTy E):OpV E o (with1 ds x (kRange E t)) ds:=
 with1_ok (m:=Instr.range t) (by simp[ho,Op.operands]) (fun a=>by simp only[execOp,ho];rfl) (np_kRange _ _) fun h hr hf hx=>kRange_ok he h hr hf hx
theorem op_nextM {x:Operand}(ho:o.op= .next x false):OpV E o (with1 ds x kNextM) ds:=
 with1_ok (m:=fun x=>Instr.next x false o.type) (by simp[ho,Op.operands]) (fun a=>by simp only[execOp,ho];rfl) np_kNextM fun h hr hf hx=>kNextM_ok h hr hx
theorem op_entry {x:Operand}(ho:o.op= .entry x):OpV E o (with1 ds x kEntry) ds:=
 with1_ok (m:=fun x=>Instr.entry x) (by simp[ho,Op.operands]) (fun a=>by simp only[execOp,ho];rfl) np_kEntry fun h hr hf hx=>kEntry_ok h hr hx
theorem op_next {x:Operand}(ho:o.op= .next x true):OpV E o (with1 ds x kNext) ds:=
 with1_ok (m:=fun x=>Instr.next x true o.type) (by simp[ho,Op.operands]) (fun a=>by simp only[execOp,ho];rfl) np_kNext fun h hr hf hx=>kNext_ok h hr hx
theorem arrMap {α β:Type}(f:α→β)(a:Array α):a.map f=(a.toList.map f).toArray:=by rw[←List.map_toArray]
theorem VRs.func {r:Inj}{f:Nat}{a a' c c':List Value}(h:VRs r a a')(k:VRs r c c'):VR r (.func (.func f) a.toArray c.toArray) (.func (.func f) a'.toArray c'.toArray):=
 .func rfl (by simpa using h.1) (fun i v v' e e'=>h.2 i v v' (by simpa using e) (by simpa using e')) (by simpa using k.1) (fun i v v' e e'=>k.2 i v v' (by simpa using e) (by simpa using e'))
theorem op_makeFunc {f:Nat}{first cap:Array Operand}(ho:o.op= .makeFunc (.func f) first cap):OpV E o (withLL ds first.toList cap.toList fun x c=>M.pure (.func (.func f) x.toArray c.toArray)) ds:=by
 obtain⟨g,h1,h2⟩:=compL_ok ds first.toList
 obtain⟨g',h3,h4⟩:=compL_ok ds cap.toList
 refine⟨_,by unfold withLL;rw[h1,h3],fun _ _ rho tm=>np_rec (g:=g rho tm) (f:=fun(a:List Value) s=>Option.rec (motive:=fun _=>R Value) .none (fun(b:List Value)=>M.pure (Value.func (.func f) a.toArray b.toArray) s) (g' rho tm)) fun a=>np_rec (f:=fun(b:List Value)=>M.pure (Value.func (.func f) a.toArray b.toArray)) fun b=>np_pure _, ?_⟩
 intro call round w0 w r U rho tm a s v s' hs hu hr h hf
 obtain⟨x',e1,h⟩:=optRec_some (f:=fun(a:List Value) s=>Option.rec (motive:=fun _=>R Value) .none (fun(b:List Value)=>M.pure (Value.func (.func f) a.toArray b.toArray) s) (g' rho tm)) h
 obtain⟨y',e2,h⟩:=optRec_some (f:=fun(b:List Value)=>M.pure (Value.func (.func f) x'.toArray b.toArray)) h
 obtain⟨rfl,rfl⟩:=pure_some h
 refine⟨_,w,r, .inl ?_, .of_rel rfl hr,(h2 _ _ _ _ _ _ hs (fun t q=>hu t (by simp[ho,Op.operands]at q ⊢;simp[q])) e1).func (h4 _ _ _ _ _ _ hs (fun t q=>hu t (by simp[ho,Op.operands]at q ⊢;simp[q])) e2),rfl,rfl⟩
 simp[execOp,ho,Instr.makeFunc]
 exact⟨arrMap _ _,arrMap _ _⟩
theorem op_builtin {b:Builtin}{c:Call}(ho:o.op= .call c)(hb:c.callee= .builtin b)(hn:b≠ .recover)(he:EnvTy E):OpV E o (withL ds c.args.toList (aBuiltin E b c.argTypes.toList)) ds:=by
 obtain⟨g,h1,h2⟩:=compL_ok ds c.args.toList
 refine⟨_,by unfold withL;rw[h1],fun _ _ rho tm=>np_rec (g:=g rho tm) (np_aBuiltin _ _ _), ?_⟩
 intro call round w0 w r U rho tm a s v s' hs hu hr h hf
 obtain⟨l,e1,h⟩:=optRec_some h
 have hl:VRs r l (c.args.toList.map a.eval):=h2 _ _ _ _ _ _ hs (fun t q=>hu t (by simp[ho,Op.operands,Call.operands]at q ⊢;simp[q])) e1
 have key: ∀{m:Sem Value},Yields E w0 r s s' v w m→(∀(cs:Array Bool) w,(builtin b c.argTypes o.type cs (c.args.map a.eval)).run E.P w=(valOf m).run E.P w)→
   ∃v' w' r',((execOp a.eval o).run E.P w= .ok (.value v') w'∨((execOp a.eval o).run E.P w= .ok .skip w'∧v'=undef))∧Goes w0 r s s' r' w'∧VR r' v v'∧s'.lim=s.lim∧s'.cx=s.cx:=by
  intro m hy hm
  obtain⟨v',w',r',k1,k2,k3,k4,k5⟩:=hy
  refine⟨v',w',r', .inl ?_,k2,k3,k4,k5⟩
  simp only[execOp,ho,resolve,hb,invoke,Sem.run_bind,Sem.run_pure,Result.andThen_ok,hm,valOf,k1]
 generalize hts:c.argTypes.toList=ts at h
 have hmap:c.args.map a.eval=(c.args.toList.map a.eval).toArray:=by rw[←List.map_toArray]
 have ht0: ∀{t:Nat} {l:List Nat},c.argTypes.toList=t::l→c.argTypes[0]?=some t:=by
  intro t l e;rw[←Array.getElem?_toList,e];rfl
 have ht1: ∀{t t2:Nat} {l:List Nat},c.argTypes.toList=t::t2::l→c.argTypes[1]?=some t2:=by
  intro t t2 l e;rw[←Array.getElem?_toList,e];rfl
 unfold aBuiltin at h
 split at h
 ·rename_i t ts' x
  obtain⟨x',l',q1,q2,q3⟩:=hl.inv
  have:=q3.inv_nil
  subst this
  refine key (aLen_ok (ty:=o.type) (ht0 hts) he h hr q2) fun cs w=> ?_
  rw[hmap,q1];simp[builtin,valOf]
 ·rename_i t ts' x
  obtain⟨x',l',q1,q2,q3⟩:=hl.inv
  have:=q3.inv_nil
  subst this
  refine key (aCap_ok (ty:=o.type) (ht0 hts) he h hr q2) fun cs w=> ?_
  rw[hmap,q1];simp[builtin,valOf]
 ·obtain⟨y',l1,q1,q2,q3⟩:=hl.inv
  obtain⟨x',l',q4,q5,q6⟩:=q3.inv
  have:=q6.inv_nil
  subst this
  subst q4
  refine key (aAppend_ok (ty:=o.type) (ht0 hts) (ht1 hts) he h hr hf q2 q5) fun cs w=> ?_
  rw[hmap,q1];simp[builtin,valOf]
 ·obtain⟨y',l1,q1,q2,q3⟩:=hl.inv
  obtain⟨x',l',q4,q5,q6⟩:=q3.inv
  have:=q6.inv_nil
  subst this
  subst q4
  refine key (aCopy_ok (ty:=o.type) (ht0 hts) he h hr q2 q5) fun cs w=> ?_
  rw[hmap,q1];simp[builtin,valOf]
 ·obtain⟨y',l1,q1,q2,q3⟩:=hl.inv
  obtain⟨x',l',q4,q5,q6⟩:=q3.inv
  have:=q6.inv_nil
  subst this
  subst q4
  refine key (kDel_ok (ty:=o.type) (ht0 hts) he h hr q2 q5) fun cs w=> ?_
  rw[hmap,q1];simp[builtin,valOf]
 ·obtain⟨x',l',q1,q2,q3⟩:=hl.inv
  have:=q3.inv_nil
  subst this
  refine key (kClear_ok (ty:=o.type) (ht0 hts) he h hr q2) fun cs w=> ?_
  rw[hmap,q1];simp[builtin,valOf]
 ·refine key (min_ok (ts:=c.argTypes) (ty:=o.type) h hr hl) fun cs w=> ?_
  rw[hmap];simp[builtin,valOf]
 ·refine key (max_ok (ts:=c.argTypes) (ty:=o.type) h hr hl) fun cs w=> ?_
  rw[hmap];simp[builtin,valOf]
 ·cases h
end
end Go.Proofs.YtapojfiplajfaaaGreatDoor.Am
/- What a part of the evaluator gives depends on nothing but what it has touched. -/
namespace Go.Proofs.YtapojfiplajfaaaGreatDoor.Am
abbrev Out (α:Type):Type:=Sum α (List PanicEntry)
def rOf {α:Type}(o:Out α)(s:St):R α:=
 match o with
 | .inl a=> .some a s
 | .inr c=> .pan c s
/-- Notes are taken of places below 'next' alone. -/
def Bnd (s:St):Prop:=s.lim≤s.next
/-- From here to there,these places read,these turned,these notes taken;from any other state that reads alike there:the same. -/
structure LocG {α:Type}(m:M α)(s:St)(o:Out α)(s':St)(Rd Wr:Nat→Prop)(dr dw:List Nat):Prop where
 rd:s'.rd=dr++s.rd
 wr:s'.wr=dw++s.wr
 nxt:s.next≤s'.next
 lim:s'.lim=s.lim
 bnd:Bnd s'
 rlt: ∀l,Rd l→l<s'.next
 wlt: ∀l,Wr l→l<s'.next
 old: ∀l,¬Wr l→T.get s'.mem l=T.get s.mem l
 any: ∀t:St,t.next=s.next→t.lim=s.lim→t.cx=s.cx→(∀l,Rd l∨Wr l→T.get t.mem l=T.get s.mem l)→
  ∃t',m t=rOf o t'∧t'.next=s'.next∧t'.lim=s'.lim∧t'.cx=s'.cx∧t'.rd=dr++t.rd∧t'.wr=dw++t.wr∧
   (∀l,Wr l→T.get t'.mem l=T.get s'.mem l)∧(∀l,¬Wr l→T.get t'.mem l=T.get t.mem l)
def LocAt {α:Type}(m:M α)(s:St)(o:Out α)(s':St):Prop:=
 ∃Rd Wr dr dw,LocG m s o s' Rd Wr dr dw∧(∀l,Rd l→l<s.lim→l∈dr)∧(∀l,Wr l→l<s.lim→l∈dw)
structure Loc {α:Type}(m:M α):Prop where
 at': ∀s o s',m s=rOf o s'→Bnd s→LocAt m s o s'
/-- One behind the other. -/
theorem LocG.seq {α β:Type}{m:M α}{n C:M β}{s s1 s':St}{o1:Out α}{o:Out β}{R1 W1 R2 W2:Nat→Prop}{r1 w1 r2 w2:List Nat}
  (h:LocG m s o1 s1 R1 W1 r1 w1) (k:LocG n s1 o s' R2 W2 r2 w2) (hC: ∀t t1,m t=rOf o1 t1→C t=n t1):LocG C s o s' (fun l=>R1 l∨R2 l) (fun l=>W1 l∨W2 l) (r2++r1) (w2++w1) where
 rd:=by rw[k.rd,h.rd,List.append_assoc]
 wr:=by rw[k.wr,h.wr,List.append_assoc]
 nxt:=Nat.le_trans h.nxt k.nxt
 lim:=k.lim.trans h.lim
 bnd:=k.bnd
 rlt:=fun l e=>e.elim (fun e=>Nat.lt_of_lt_of_le (h.rlt l e) k.nxt) (k.rlt l)
 wlt:=fun l e=>e.elim (fun e=>Nat.lt_of_lt_of_le (h.wlt l e) k.nxt) (k.wlt l)
 old:=fun l e=>(k.old l fun x=>e (.inr x)).trans (h.old l fun x=>e (.inl x))
 any:=fun t e1 e2 e3 e4=>by
  obtain⟨t1,q1,q2,q3,q4,q5,q6,q7,q8⟩:=h.any t e1 e2 e3 fun l e=>e4 l (e.elim (fun e=> .inl (.inl e)) (fun e=> .inr (.inl e)))
  obtain⟨t2,p1,p2,p3,p4,p5,p6,p7,p8⟩:=k.any t1 q2 q3 q4 (fun l e=>by
   by_cases hw:W1 l
   ·exact q7 l hw
   ·rw[q8 l hw,h.old l hw]
    exact e4 l (e.elim (fun e=> .inl (.inr e)) (fun e=> .inr (.inr e))))
  refine⟨t2,(hC t t1 q1).trans p1,p2,p3,p4,by rw[p5,q5,List.append_assoc],by rw[p6,q6,List.append_assoc],fun l e=> ?_,fun l e=>(p8 l fun x=>e (.inr x)).trans (q8 l fun x=>e (.inl x))⟩
  by_cases hw:W2 l
  ·exact p7 l hw
  ·rw[p8 l hw,k.old l hw]
   exact e.elim (q7 l) (fun x=>absurd x hw)
theorem LocAt.bnd {α:Type}{m:M α}{s s':St}{o:Out α}(h:LocAt m s o s'):Bnd s':=let ⟨_,_,_,_,e,_⟩:=h;e.bnd
theorem LocAt.lim {α:Type}{m:M α}{s s':St}{o:Out α}(h:LocAt m s o s'):s'.lim=s.lim:=let ⟨_,_,_,_,e,_⟩:=h;e.lim
theorem LocAt.next {α:Type}{m:M α}{s s':St}{o:Out α}(h:LocAt m s o s'):s.next≤s'.next:=let ⟨_,_,_,_,e,_⟩:=h;e.nxt
theorem LocAt.seq {α β:Type}{m:M α}{n C:M β}{s s1 s':St}{o1:Out α}{o:Out β}(h:LocAt m s o1 s1)(k:LocAt n s1 o s')(hC: ∀t t1,m t=rOf o1 t1→C t=n t1):LocAt C s o s':=by
 obtain⟨R1,W1,r1,w1,h1,h2,h3⟩:=h
 obtain⟨R2,W2,r2,w2,k1,k2,k3⟩:=k
 refine⟨_,_,_,_,h1.seq k1 hC,fun l e x=> ?_,fun l e x=> ?_⟩
 ·exact e.elim (fun e=>List.mem_append_right _ (h2 l e x)) (fun e=>List.mem_append_left _ (k2 l e (by rw[h1.lim];exact x)))
 ·exact e.elim (fun e=>List.mem_append_right _ (h3 l e x)) (fun e=>List.mem_append_left _ (k3 l e (by rw[h1.lim];exact x)))
theorem rOf_inl {α:Type}{o:Out α}{a:α}{s s':St}(h:R.some a s=rOf o s'):o= .inl a∧s'=s:=by cases o<;>cases h;exact⟨rfl,rfl⟩
theorem rOf_inr {α:Type}{o:Out α}{c:List PanicEntry}{s s':St}(h:R.pan c s=rOf o s'):o= .inr c∧s'=s:=by cases o<;>cases h;exact⟨rfl,rfl⟩
theorem rOf_none {α:Type}{o:Out α}{s':St}(h:R.none=rOf o s'):False:=by cases o<;>cases h
/-- Nothing touched. -/
theorem LocAt.quiet {α:Type}{m:M α}{s:St}{o:Out α}(hb:Bnd s)(h: ∀t:St,t.cx=s.cx→m t=rOf o t):LocAt m s o s:=
 ⟨fun _=>False,fun _=>False,[],[],⟨rfl,rfl,Nat.le_refl _,rfl,hb,fun _ e=>e.elim,fun _ e=>e.elim,fun _ _=>rfl,
  fun t e1 e2 e3 _=>⟨t,h t e3,e1,e2,e3,rfl,rfl,fun _ e=>e.elim,fun _ _=>rfl⟩⟩,fun _ e=>e.elim,fun _ e=>e.elim⟩
theorem lo_pure {α:Type}(a:α):Loc (M.pure a):=⟨fun s o s' h hb=>by
 obtain⟨rfl,rfl⟩:=rOf_inl h
 exact .quiet hb fun t _=>rfl⟩
theorem lo_fail {α:Type}:Loc (M.fail:M α):=⟨fun _ _ _ h _=>(rOf_none h).elim⟩
theorem lo_ofOpt {α:Type}(x:Option α):Loc (M.ofOpt x):=by
 cases x with
 |none=>exact lo_fail
 |some a=>exact lo_pure a
/-- What comes behind a part,be it a value or a panic. -/
theorem lo_catch {α β:Type}{m:M α}{f:α→M β}{g:List PanicEntry→M β}(h:Loc m)(kf: ∀a,Loc (f a))(kg: ∀c,Loc (g c)):
  Loc (fun s=>R.rec (motive:=fun _=>R β) .none (fun a s=>f a s) (fun c s=>g c s) (m s)):=⟨fun s o s' e hb=>by
 cases e1:m s with
 |none=>rw[e1]at e;exact(rOf_none e).elim
 |some a s1=>
  rw[e1]at e
  have h1:=h.at' s (.inl a) s1 e1 hb
  exact h1.seq ((kf a).at' s1 o s' e h1.bnd) fun t t1 q=>by rw[q];rfl
 |pan c s1=>
  rw[e1]at e
  have h1:=h.at' s (.inr c) s1 e1 hb
  exact h1.seq ((kg c).at' s1 o s' e h1.bnd) fun t t1 q=>by rw[q];rfl⟩
theorem lo_throw {α:Type}(c:List PanicEntry):Loc (fun s=>R.pan c s:M α):=⟨fun s o s' h hb=>by
 obtain⟨rfl,rfl⟩:=rOf_inr h
 exact .quiet hb fun t _=>rfl⟩
theorem lo_none {α:Type}:Loc (fun _=>R.none:M α):=⟨fun _ _ _ h _=>(rOf_none h).elim⟩
theorem lo_bind {α β:Type}{m:M α}{f:α→M β}(h:Loc m)(k: ∀a,Loc (f a)):Loc (M.bind m f):=lo_catch h k fun c=>lo_throw c
theorem lo_noP {α:Type}{m:M α}(h:Loc m):Loc (noP m):=lo_catch h (fun a=>lo_pure a) fun _=>lo_none
theorem lo_chk {α:Type}(b:Bool){m:M α}(h:Loc m):Loc (M.chk b m):=by
 cases b with
 |false=>exact lo_fail
 |true=>exact h
theorem lo_if {α:Type}(b:Bool){m n:M α}(h:Loc m)(k:Loc n):Loc (M.if b m n):=by cases b<;>assumption
theorem lo_on {α β:Type}(x:Option α){f:α→M β}(k: ∀a,Loc (f a)):Loc (M.on x f):=by
 cases x with
 |none=>exact lo_fail
 |some a=>exact k a
theorem lo_fN {α:Type}(n:Nat){f:Nat→M α}(k: ∀a,Loc (f a)):Loc (fN n f):=by rw[fN_eq];exact k _
theorem lo_fI {α:Type}(n:Int){f:Int→M α}(k: ∀a,Loc (f a)):Loc (fI n f):=by rw[fI_eq];exact k _
theorem lo_fA {α:Type}(n:Addr){f:Addr→M α}(k: ∀a,Loc (f a)):Loc (fA n f):=by rw[fA_eq];exact k _
theorem lo_caseI {α:Type}(v:Value){f:IntKind→Int→M α}{d:M α}(h: ∀k n,Loc (f k n))(k:Loc d):Loc (caseI v f d):=by
 cases v<;>first|exact h _ _|exact k
theorem lo_bool {α:Type}(b:Bool){m n:M α}(h:Loc m)(k:Loc n):Loc (Bool.rec (motive:=fun _=>M α) m n b):=by cases b<;>assumption
theorem lo_opt {α β:Type}(x:Option α){m:M β}{f:α→M β}(h:Loc m)(k: ∀a,Loc (f a)):Loc (Option.rec (motive:=fun _=>M β) m (fun a=>f a) x):=by
 cases x with
 |none=>exact h
 |some a=>exact k a
theorem notes_eq (loc lim:Nat)(l:List Nat):notes loc lim l=if loc<lim then loc::l else l:=by
 unfold notes
 cases h:Nat.blt loc lim with
 |true=>rw[if_pos (blt_lt h)]
 |false=>rw[if_neg];intro h2;rw[show Nat.blt loc lim=true from Nat.ble_eq_true_of_le h2]at h;cases h
theorem notes_app (loc lim:Nat)(l:List Nat):notes loc lim l=notes loc lim []++l:=by
 rw[notes_eq,notes_eq]
 split<;>rfl
theorem notes_mem {loc lim:Nat}(h:loc<lim):loc∈notes loc lim []:=by rw[notes_eq,if_pos h];exact List.mem_cons_self
theorem rdC_def (loc:Nat)(s:St):rdC loc s=if loc<s.next then match T.get s.mem loc with|none=> .none|some c=> .some c ⟨s.mem,s.next,s.lim,notes loc s.lim s.rd,s.wr,s.cx⟩else .none:=by
 obtain⟨mem,next,lim,rd,wr,cx⟩:=s
 unfold rdC
 simp only
 cases hb:Nat.blt loc next with
 |false=>rw[if_neg];intro h2;rw[show Nat.blt loc next=true from Nat.ble_eq_true_of_le h2]at hb;cases hb
 |true=>
  rw[if_pos (blt_lt hb)]
  cases T.get mem loc<;>rfl
theorem wrC_def (loc:Nat)(c:Cell)(s:St):wrC loc c s=if loc<s.next then .some () ⟨T.set s.mem loc c,s.next,s.lim,s.rd,notes loc s.lim s.wr,s.cx⟩else .none:=by
 obtain⟨mem,next,lim,rd,wr,cx⟩:=s
 unfold wrC
 obtain⟨v,l,r,e⟩:=T.set_N mem loc c
 simp only[e]
 cases hb:Nat.blt loc next with
 |false=>rw[if_neg];intro h2;rw[show Nat.blt loc next=true from Nat.ble_eq_true_of_le h2]at hb;cases hb
 |true=>rw[if_pos (blt_lt hb)]
theorem delC_def (loc:Nat)(s:St):delC loc s=if loc<s.next then .some () ⟨T.del s.mem loc,s.next,s.lim,s.rd,notes loc s.lim s.wr,s.cx⟩else .none:=by
 obtain⟨mem,next,lim,rd,wr,cx⟩:=s
 unfold delC
 simp only
 cases hb:Nat.blt loc next with
 |false=>rw[if_neg];intro h2;rw[show Nat.blt loc next=true from Nat.ble_eq_true_of_le h2]at hb;cases hb
 |true=>rw[if_pos (blt_lt hb)]
theorem newL_def (vs:List Value)(s:St):newL vs s= .some s.next ⟨layL s.next vs s.next s.mem,s.next+vs.length+1,s.lim,s.rd,s.wr,s.cx⟩:=by
 obtain⟨mem,next,lim,rd,wr,cx⟩:=s
 have h0:newL vs ⟨mem,next,lim,rd,wr,cx⟩=fN next fun b=>fN (Nat.succ (Nat.add b vs.length)) fun n=>R.some b (St.mk (layL b vs b mem) n lim rd wr cx):=rfl
 rw[h0,fN_eq,fN_eq]
 rfl
theorem newO_def (o:AObj)(s:St):newO o s= .some s.next ⟨T.set s.mem s.next (.O o),s.next+1,s.lim,s.rd,s.wr,s.cx⟩:=by
 obtain⟨mem,next,lim,rd,wr,cx⟩:=s
 have h0:newO o ⟨mem,next,lim,rd,wr,cx⟩=fN next fun b=>fN (Nat.succ b) fun n=>R.some b (St.mk (T.set mem b (.O o)) n lim rd wr cx):=rfl
 rw[h0,fN_eq,fN_eq]
theorem lo_rdC (loc:Nat):Loc (rdC loc):=⟨fun s o s' h hb=>by
 rw[rdC_def]at h
 split at h
 case isFalse=>exact(rOf_none h).elim
 case isTrue hl=>
  cases e:T.get s.mem loc with
  |none=>rw[e]at h;exact(rOf_none h).elim
  |some c=>
   rw[e]at h
   obtain⟨rfl,rfl⟩:=rOf_inl h
   refine⟨fun l=>l=loc,fun _=>False,notes loc s.lim [],[],⟨notes_app _ _ _,rfl,Nat.le_refl _,rfl,hb,fun l e1=>by rw[e1];exact hl,fun _ e=>e.elim,fun _ _=>rfl,fun t e1 e2 e3 e4=> ?_⟩,fun l e1 e2=> ?_,fun _ e=>e.elim⟩
   ·refine⟨⟨t.mem,t.next,t.lim,notes loc t.lim t.rd,t.wr,t.cx⟩, ?_,e1,e2,e3, ?_,rfl,fun _ e=>e.elim,fun _ _=>rfl⟩
    ·rw[rdC_def,if_pos (by rw[e1];exact hl),e4 loc (.inl rfl),e];rfl
    ·rw[←e2];exact notes_app _ _ _
   ·rw[e1];exact notes_mem (by rw[←e1];exact e2)⟩
theorem lo_wrC (loc:Nat)(c:Cell):Loc (wrC loc c):=⟨fun s o s' h hb=>by
 rw[wrC_def]at h
 split at h
 case isFalse=>exact(rOf_none h).elim
 case isTrue hl=>
  obtain⟨rfl,rfl⟩:=rOf_inl h
  refine⟨fun _=>False,fun l=>l=loc,[],notes loc s.lim [],⟨rfl,notes_app _ _ _,Nat.le_refl _,rfl,hb,fun _ e=>e.elim,fun l e1=>by rw[e1];exact hl,fun l e=> ?_,fun t e1 e2 e3 e4=> ?_⟩,fun _ e=>e.elim,fun l e1 e2=> ?_⟩
  ·simp only[T.get_set,if_neg e]
  ·refine⟨⟨T.set t.mem loc c,t.next,t.lim,t.rd,notes loc t.lim t.wr,t.cx⟩, ?_,e1,e2,e3,rfl, ?_,fun l e=> ?_,fun l e=> ?_⟩
   ·rw[wrC_def,if_pos (by rw[e1];exact hl)];rfl
   ·rw[←e2];exact notes_app _ _ _
   ·simp only[T.get_set,if_pos e]
   ·simp only[T.get_set,if_neg e]
  ·rw[e1];exact notes_mem (by rw[←e1];exact e2)⟩
theorem lo_delC (loc:Nat):Loc (delC loc):=⟨fun s o s' h hb=>by
 rw[delC_def]at h
 split at h
 case isFalse=>exact(rOf_none h).elim
 case isTrue hl=>
  obtain⟨rfl,rfl⟩:=rOf_inl h
  refine⟨fun _=>False,fun l=>l=loc,[],notes loc s.lim [],⟨rfl,notes_app _ _ _,Nat.le_refl _,rfl,hb,fun _ e=>e.elim,fun l e1=>by rw[e1];exact hl,fun l e=> ?_,fun t e1 e2 e3 e4=> ?_⟩,fun _ e=>e.elim,fun l e1 e2=> ?_⟩
  ·simp only[T.get_del,if_neg e]
  ·refine⟨⟨T.del t.mem loc,t.next,t.lim,t.rd,notes loc t.lim t.wr,t.cx⟩, ?_,e1,e2,e3,rfl, ?_,fun l e=> ?_,fun l e=> ?_⟩
   ·rw[delC_def,if_pos (by rw[e1];exact hl)];rfl
   ·rw[←e2];exact notes_app _ _ _
   ·simp only[T.get_del,if_pos e]
   ·simp only[T.get_del,if_neg e]
  ·rw[e1];exact notes_mem (by rw[←e1];exact e2)⟩
theorem layL_eq (b:Nat): ∀(vs:List Value) (loc:Nat) (t:T Cell) (k:Nat),T.get (layL b vs loc t) k=if loc≤k∧k<loc+vs.length then(vs[k-loc]?).map (.C b)else T.get t k
 |[],loc,t,k=>by rw[if_neg (fun e=>by have:=e.2;simp at this;omega)];rfl
 |v::vs,loc,t,k=>by
  have h0:layL b (v::vs) loc t=fN loc fun loc=>layL b vs (Nat.succ loc) (T.set t loc (.C b v)):=rfl
  rw[h0,fN_eq,layL_eq b vs]
  by_cases h1:loc=k
  ·subst h1
   rw[if_neg (by omega),if_pos (by simp),T.get_set,if_pos rfl]
   simp
  ·by_cases h2:loc≤k∧k<loc+(v::vs).length
   ·have h3:k-loc=(k-Nat.succ loc)+1:=by omega
    rw[if_pos h2,if_pos (by simp at h2 ⊢;omega),h3,List.getElem?_cons_succ]
   ·rw[if_neg h2,if_neg (by simp at h2 ⊢;omega),T.get_set,if_neg (fun e=>h1 e.symm)]
theorem lo_newL (vs:List Value):Loc (newL vs):=⟨fun s o s' h hb=>by
 rw[newL_def]at h
 obtain⟨rfl,rfl⟩:=rOf_inl h
 refine⟨fun _=>False,fun l=>s.next≤l∧l<s.next+vs.length,[],[],⟨rfl,rfl,by show s.next≤s.next+vs.length+1;omega,rfl, ?_,fun _ e=>e.elim,fun l e=> ?_,fun l e=> ?_,fun t e1 e2 e3 e4=> ?_⟩,fun _ e=>e.elim,fun l e1 e2=> ?_⟩
 ·show s.lim≤s.next+vs.length+1
  unfold Bnd at hb;omega
 ·show l<s.next+vs.length+1
  omega
 ·simp only[layL_eq,if_neg e]
 ·refine⟨⟨layL t.next vs t.next t.mem,t.next+vs.length+1,t.lim,t.rd,t.wr,t.cx⟩, ?_,by rw[e1],e2,e3,rfl,rfl,fun l e=> ?_,fun l e=> ?_⟩
  ·rw[newL_def,e1];rfl
  ·simp only[layL_eq,e1,if_pos e]
  ·simp only[layL_eq,e1,if_neg e]
 ·unfold Bnd at hb;omega⟩
theorem lo_newO (x:AObj):Loc (newO x):=⟨fun s o s' h hb=>by
 rw[newO_def]at h
 obtain⟨rfl,rfl⟩:=rOf_inl h
 refine⟨fun _=>False,fun l=>l=s.next,[],[],⟨rfl,rfl,by show s.next≤s.next+1;omega,rfl, ?_,fun _ e=>e.elim,fun l e=> ?_,fun l e=> ?_,fun t e1 e2 e3 e4=> ?_⟩,fun _ e=>e.elim,fun l e1 e2=> ?_⟩
 ·show s.lim≤s.next+1
  unfold Bnd at hb;omega
 ·show l<s.next+1
  omega
 ·simp only[T.get_set,if_neg e]
 ·refine⟨⟨T.set t.mem t.next (.O x),t.next+1,t.lim,t.rd,t.wr,t.cx⟩, ?_,by rw[e1],e2,e3,rfl,rfl,fun l e=> ?_,fun l e=> ?_⟩
  ·rw[newO_def,e1];rfl
  ·simp only[T.get_set,e1,if_pos e]
  ·simp only[T.get_set,e1,if_neg e]
 ·unfold Bnd at hb;omega⟩
theorem lo_getCx:Loc getCx:=⟨fun s o s' h hb=>by
 obtain⟨rfl,rfl⟩:=rOf_inl (show R.some s.cx s=rOf o s' from h)
 exact .quiet hb fun t e=>by rw[←e];rfl⟩
theorem lo_putCx (x:Ctx):Loc (putCx x):=⟨fun s o s' h hb=>by
 obtain⟨rfl,rfl⟩:=rOf_inl (show R.some () (St.mk s.mem s.next s.lim s.rd s.wr x)=rOf o s' from h)
 exact⟨fun _=>False,fun _=>False,[],[],⟨rfl,rfl,Nat.le_refl _,rfl,hb,fun _ e=>e.elim,fun _ e=>e.elim,fun _ _=>rfl,
  fun t e1 e2 e3 _=>⟨St.mk t.mem t.next t.lim t.rd t.wr x,rfl,e1,e2,rfl,rfl,rfl,fun _ e=>e.elim,fun _ _=>rfl⟩⟩,fun _ e=>e.elim,fun _ e=>e.elim⟩⟩
theorem lo_rdV (a:Addr):Loc (rdV a):=by
 obtain⟨b,o,s⟩:=a
 cases s with
 |some x=>exact lo_fail
 |none=>exact lo_bind (lo_rdC _) fun c=>lo_ofOpt _
theorem lo_wrV (a:Addr)(v:Value):Loc (wrV a v):=by
 obtain⟨b,o,s⟩:=a
 cases s with
 |some x=>exact lo_fail
 |none=>exact lo_bind (lo_rdC _) fun c=>lo_chk _ (lo_wrC _ _)
theorem lo_rdL: ∀(n:Nat) (a:Addr),Loc (rdL n a)
 |0,_=>lo_pure _
 |n+1,a=>by
  have h0:rdL (n+1) a=fA a fun a=>M.bind (rdV a) fun v=>M.bind (rdL n ⟨a.block,Nat.succ a.off,a.spot⟩) fun l=>M.pure (v::l):=rfl
  rw[h0]
  exact lo_fA _ fun a=>lo_bind (lo_rdV a) fun v=>lo_bind (lo_rdL n _) fun l=>lo_pure _
theorem lo_wrL: ∀(vs:List Value) (a:Addr),Loc (wrL vs a)
 |[],_=>lo_pure _
 |v::vs,a=>by
  have h0:wrL (v::vs) a=fA a fun a=>M.bind (wrV a v) fun _=>wrL vs ⟨a.block,Nat.succ a.off,a.spot⟩:=rfl
  rw[h0]
  exact lo_fA _ fun a=>lo_bind (lo_wrV a v) fun v=>lo_wrL vs _
theorem lo_letGo: ∀(n l:Nat),Loc (letGo n l)
 |0,_=>lo_pure _
 |n+1,l=>by
  have h0:letGo (n+1) l=M.bind (delC l) fun _=>letGo n (l+1):=rfl
  rw[h0]
  exact lo_bind (lo_delC l) fun _=>lo_letGo n _
theorem lo_ti (x0:_)(x1:_):Loc (ti x0 x1):=by
 unfold ti
 repeat' (first|exact lo_pure _|exact lo_fail|exact lo_ofOpt _|apply lo_bind|apply lo_chk|apply lo_if|apply lo_on|apply lo_fN|apply lo_fI|apply lo_fA|apply lo_caseI|apply lo_bool|apply lo_opt|intro _|split)
theorem lo_pV (x0:_):Loc (pV x0):=by
 unfold pV
 repeat' (first|exact lo_pure _|exact lo_fail|exact lo_ofOpt _|apply lo_bind|apply lo_chk|apply lo_if|apply lo_on|apply lo_fN|apply lo_fI|apply lo_fA|apply lo_caseI|apply lo_bool|apply lo_opt|intro _|split)
theorem lo_refEq (x0:_)(x1:_)(x2:_)(x3:_)(x4:_):Loc (refEq x0 x1 x2 x3 x4):=by
 unfold refEq
 repeat' (first|exact lo_pure _|exact lo_fail|exact lo_ofOpt _|exact lo_ti _ _|apply lo_bind|apply lo_chk|apply lo_if|apply lo_on|apply lo_fN|apply lo_fI|apply lo_fA|apply lo_caseI|apply lo_bool|apply lo_opt|intro _|split)
theorem lo_unkOp (x0:_)(x1:_):Loc (unkOp x0 x1):=by
 unfold unkOp
 repeat' (first|exact lo_pure _|exact lo_fail|exact lo_ofOpt _|apply lo_bind|apply lo_chk|apply lo_if|apply lo_on|apply lo_fN|apply lo_fI|apply lo_fA|apply lo_caseI|apply lo_bool|apply lo_opt|intro _|split)
theorem lo_unkBin (x0:_)(x1:_)(x2:_):Loc (unkBin x0 x1 x2):=by
 unfold unkBin
 repeat' (first|exact lo_pure _|exact lo_fail|exact lo_ofOpt _|exact lo_unkOp _ _|apply lo_bind|apply lo_chk|apply lo_if|apply lo_on|apply lo_fN|apply lo_fI|apply lo_fA|apply lo_caseI|apply lo_bool|apply lo_opt|intro _|split)
theorem lo_binSlow (x0:_)(x1:_)(x2:_)(x3:_)(x4:_)(x5:_)(x6:_):Loc (binSlow x0 x1 x2 x3 x4 x5 x6):=by
 unfold binSlow
 repeat' (first|exact lo_pure _|exact lo_fail|exact lo_ofOpt _|exact lo_unkBin _ _ _|exact lo_refEq _ _ _ _ _|exact lo_pV _|apply lo_bind|apply lo_chk|apply lo_if|apply lo_on|apply lo_fN|apply lo_fI|apply lo_fA|apply lo_caseI|apply lo_bool|apply lo_opt|intro _|split)
theorem lo_lenOf (x0:_):Loc (lenOf x0):=by
 unfold lenOf
 repeat' (first|exact lo_pure _|exact lo_fail|exact lo_ofOpt _|apply lo_bind|apply lo_chk|apply lo_if|apply lo_on|apply lo_fN|apply lo_fI|apply lo_fA|apply lo_caseI|apply lo_bool|apply lo_opt|intro _|split)
theorem lo_aLoad (x0:_)(x1:_)(x2:_):Loc (aLoad x0 x1 x2):=by
 unfold aLoad
 repeat' (first|exact lo_pure _|exact lo_fail|exact lo_ofOpt _|exact lo_ti _ _|exact lo_rdL _ _|exact lo_rdV _|apply lo_bind|apply lo_chk|apply lo_if|apply lo_on|apply lo_fN|apply lo_fI|apply lo_fA|apply lo_caseI|apply lo_bool|apply lo_opt|intro _|split)
theorem lo_aStore (x0:_)(x1:_)(x2:_)(x3:_):Loc (aStore x0 x1 x2 x3):=by
 unfold aStore
 repeat' (first|exact lo_pure _|exact lo_fail|exact lo_ofOpt _|exact lo_ti _ _|exact lo_wrL _ _|apply lo_bind|apply lo_chk|apply lo_if|apply lo_on|apply lo_fN|apply lo_fI|apply lo_fA|apply lo_caseI|apply lo_bool|apply lo_opt|intro _|split)
theorem lo_asA (x0:_):Loc (asA x0):=by
 unfold asA
 repeat' (first|exact lo_pure _|exact lo_fail|exact lo_ofOpt _|apply lo_bind|apply lo_chk|apply lo_if|apply lo_on|apply lo_fN|apply lo_fI|apply lo_fA|apply lo_caseI|apply lo_bool|apply lo_opt|intro _|split)
theorem lo_bnd (x0:_)(x1:_)(x2:_):Loc (bnd x0 x1 x2):=by
 unfold bnd
 repeat' (first|exact lo_pure _|exact lo_fail|exact lo_ofOpt _|apply lo_bind|apply lo_chk|apply lo_if|apply lo_on|apply lo_fN|apply lo_fI|apply lo_fA|apply lo_caseI|apply lo_bool|apply lo_opt|intro _|split)
theorem lo_ptrA (x0:_):Loc (ptrA x0):=by
 unfold ptrA
 repeat' (first|exact lo_pure _|exact lo_fail|exact lo_ofOpt _|apply lo_bind|apply lo_chk|apply lo_if|apply lo_on|apply lo_fN|apply lo_fI|apply lo_fA|apply lo_caseI|apply lo_bool|apply lo_opt|intro _|split)
theorem lo_pSl (x0:_)(x1:_)(x2:_):Loc (pSl x0 x1 x2):=by
 unfold pSl
 repeat' (first|exact lo_pure _|exact lo_fail|exact lo_ofOpt _|apply lo_bind|apply lo_chk|apply lo_if|apply lo_on|apply lo_fN|apply lo_fI|apply lo_fA|apply lo_caseI|apply lo_bool|apply lo_opt|intro _|split)
theorem lo_pN (x0:_):Loc (pN x0):=by
 unfold pN
 repeat' (first|exact lo_pure _|exact lo_fail|exact lo_ofOpt _|apply lo_bind|apply lo_chk|apply lo_if|apply lo_on|apply lo_fN|apply lo_fI|apply lo_fA|apply lo_caseI|apply lo_bool|apply lo_opt|intro _|split)
theorem lo_slArr (x0:_)(x1:_)(x2:_)(x3:_)(x4:_):Loc (slArr x0 x1 x2 x3 x4):=by
 unfold slArr
 repeat' (first|exact lo_pure _|exact lo_fail|exact lo_ofOpt _|exact lo_pSl _ _ _|exact lo_bnd _ _ _|apply lo_bind|apply lo_chk|apply lo_if|apply lo_on|apply lo_fN|apply lo_fI|apply lo_fA|apply lo_caseI|apply lo_bool|apply lo_opt|intro _|split)
theorem lo_slSl (x0:_)(x1:_)(x2:_)(x3:_)(x4:_)(x5:_):Loc (slSl x0 x1 x2 x3 x4 x5):=by
 unfold slSl
 repeat' (first|exact lo_pure _|exact lo_fail|exact lo_ofOpt _|exact lo_pSl _ _ _|exact lo_bnd _ _ _|apply lo_bind|apply lo_chk|apply lo_if|apply lo_on|apply lo_fN|apply lo_fI|apply lo_fA|apply lo_caseI|apply lo_bool|apply lo_opt|intro _|split)
theorem lo_slStr (x0:_)(x1:_)(x2:_):Loc (slStr x0 x1 x2):=by
 unfold slStr
 repeat' (first|exact lo_pure _|exact lo_fail|exact lo_ofOpt _|exact lo_bnd _ _ _|apply lo_bind|apply lo_chk|apply lo_if|apply lo_on|apply lo_fN|apply lo_fI|apply lo_fA|apply lo_caseI|apply lo_bool|apply lo_opt|intro _|split)
theorem lo_aSlice (x0:_)(x1:_)(x2:_)(x3:_)(x4:_):Loc (aSlice x0 x1 x2 x3 x4):=by
 unfold aSlice
 repeat' (first|exact lo_pure _|exact lo_fail|exact lo_ofOpt _|exact lo_slStr _ _ _|exact lo_slSl _ _ _ _ _ _|exact lo_slArr _ _ _ _ _|exact lo_bnd _ _ _|exact lo_ti _ _|apply lo_bind|apply lo_chk|apply lo_if|apply lo_on|apply lo_fN|apply lo_fI|apply lo_fA|apply lo_caseI|apply lo_bool|apply lo_opt|intro _|split)
theorem lo_srcL (x0:_)(x1:_)(x2:_):Loc (srcL x0 x1 x2):=by
 unfold srcL
 repeat' (first|exact lo_pure _|exact lo_fail|exact lo_ofOpt _|exact lo_rdL _ _|apply lo_bind|apply lo_chk|apply lo_if|apply lo_on|apply lo_fN|apply lo_fI|apply lo_fA|apply lo_caseI|apply lo_bool|apply lo_opt|intro _|split)
theorem lo_appN (x0:_)(x1:_)(x2:_):Loc (appN x0 x1 x2):=by
 unfold appN
 repeat' (first|exact lo_pure _|exact lo_fail|exact lo_ofOpt _|apply lo_bind|apply lo_chk|apply lo_if|apply lo_on|apply lo_fN|apply lo_fI|apply lo_fA|apply lo_caseI|apply lo_bool|apply lo_opt|intro _|split)
theorem lo_appL (x0:_)(x1:_)(x2:_)(x3:_):Loc (appL x0 x1 x2 x3):=by
 unfold appL
 repeat' (first|exact lo_pure _|exact lo_fail|exact lo_ofOpt _|exact lo_srcL _ _ _|apply lo_bind|apply lo_chk|apply lo_if|apply lo_on|apply lo_fN|apply lo_fI|apply lo_fA|apply lo_caseI|apply lo_bool|apply lo_opt|intro _|split)
theorem lo_oldL (x0:_)(x1:_)(x2:_):Loc (oldL x0 x1 x2):=by
 unfold oldL
 repeat' (first|exact lo_pure _|exact lo_fail|exact lo_ofOpt _|exact lo_rdL _ _|apply lo_bind|apply lo_chk|apply lo_if|apply lo_on|apply lo_fN|apply lo_fI|apply lo_fA|apply lo_caseI|apply lo_bool|apply lo_opt|intro _|split)
theorem lo_goOld (x0:_)(x1:_)(x2:_):Loc (goOld x0 x1 x2):=by
 unfold goOld
 repeat' (first|exact lo_pure _|exact lo_fail|exact lo_ofOpt _|exact lo_letGo _ _|apply lo_bind|apply lo_chk|apply lo_if|apply lo_on|apply lo_fN|apply lo_fI|apply lo_fA|apply lo_caseI|apply lo_bool|apply lo_opt|intro _|split)
theorem lo_useUp (x0:_)(x1:_)(x2:_)(x3:_):Loc (useUp x0 x1 x2 x3):=by
 unfold useUp
 repeat' (first|exact lo_pure _|exact lo_fail|exact lo_ofOpt _|exact lo_goOld _ _ _|exact lo_wrC _ _|exact lo_rdC _|apply lo_bind|apply lo_chk|apply lo_if|apply lo_on|apply lo_fN|apply lo_fI|apply lo_fA|apply lo_caseI|apply lo_bool|apply lo_opt|intro _|split)
theorem lo_grow (x0:_)(x1:_)(x2:_)(x3:_)(x4:_)(x5:_)(x6:_)(x7:_):Loc (grow x0 x1 x2 x3 x4 x5 x6 x7):=by
 unfold grow
 repeat' (first|exact lo_pure _|exact lo_fail|exact lo_ofOpt _|exact lo_useUp _ _ _ _|exact lo_oldL _ _ _|exact lo_pSl _ _ _|exact lo_newL _|exact lo_wrC _ _|apply lo_bind|apply lo_chk|apply lo_if|apply lo_on|apply lo_fN|apply lo_fI|apply lo_fA|apply lo_caseI|apply lo_bool|apply lo_opt|intro _|split)
theorem lo_inRoom (x0:_)(x1:_)(x2:_)(x3:_)(x4:_)(x5:_):Loc (inRoom x0 x1 x2 x3 x4 x5):=by
 unfold inRoom
 repeat' (first|exact lo_pure _|exact lo_fail|exact lo_ofOpt _|exact lo_pSl _ _ _|exact lo_wrL _ _|apply lo_bind|apply lo_chk|apply lo_if|apply lo_on|apply lo_fN|apply lo_fI|apply lo_fA|apply lo_caseI|apply lo_bool|apply lo_opt|intro _|split)
theorem lo_aAppend (x0:_)(x1:_)(x2:_)(x3:_)(x4:_):Loc (aAppend x0 x1 x2 x3 x4):=by
 unfold aAppend
 repeat' (first|exact lo_pure _|exact lo_fail|exact lo_ofOpt _|exact lo_inRoom _ _ _ _ _ _|exact lo_grow _ _ _ _ _ _ _ _|exact lo_appL _ _ _ _|exact lo_appN _ _ _|exact lo_ti _ _|apply lo_bind|apply lo_chk|apply lo_if|apply lo_on|apply lo_fN|apply lo_fI|apply lo_fA|apply lo_caseI|apply lo_bool|apply lo_opt|intro _|split)
theorem lo_aBuild (x0:_)(x1:_)(x2:_):Loc (aBuild x0 x1 x2):=by
 unfold aBuild
 repeat' (first|exact lo_pure _|exact lo_fail|exact lo_ofOpt _|exact lo_ti _ _|apply lo_bind|apply lo_chk|apply lo_if|apply lo_on|apply lo_fN|apply lo_fI|apply lo_fA|apply lo_caseI|apply lo_bool|apply lo_opt|intro _|split)
theorem lo_aBuildS (x0:_)(x1:_)(x2:_)(x3:_):Loc (aBuildS x0 x1 x2 x3):=by
 unfold aBuildS
 repeat' (first|exact lo_pure _|exact lo_fail|exact lo_ofOpt _|exact lo_ti _ _|exact lo_newL _|exact lo_wrC _ _|apply lo_bind|apply lo_chk|apply lo_if|apply lo_on|apply lo_fN|apply lo_fI|apply lo_fA|apply lo_caseI|apply lo_bool|apply lo_opt|intro _|split)
theorem lo_partV (x0:_)(x1:_)(x2:_)(x3:_):Loc (partV x0 x1 x2 x3):=by
 unfold partV
 repeat' (first|exact lo_pure _|exact lo_fail|exact lo_ofOpt _|exact lo_ti _ _|apply lo_bind|apply lo_chk|apply lo_if|apply lo_on|apply lo_fN|apply lo_fI|apply lo_fA|apply lo_caseI|apply lo_bool|apply lo_opt|intro _|split)
theorem lo_aCopy (x0:_)(x1:_)(x2:_)(x3:_)(x4:_):Loc (aCopy x0 x1 x2 x3 x4):=by
 unfold aCopy
 repeat' (first|exact lo_pure _|exact lo_fail|exact lo_ofOpt _|exact lo_srcL _ _ _|exact lo_pN _|exact lo_lenOf _|exact lo_ti _ _|exact lo_wrL _ _|apply lo_bind|apply lo_chk|apply lo_if|apply lo_on|apply lo_fN|apply lo_fI|apply lo_fA|apply lo_caseI|apply lo_bool|apply lo_opt|intro _|split)
theorem lo_mapAt (x0:_):Loc (mapAt x0):=by
 unfold mapAt
 repeat' (first|exact lo_pure _|exact lo_fail|exact lo_ofOpt _|exact lo_rdC _|apply lo_bind|apply lo_chk|apply lo_if|apply lo_on|apply lo_fN|apply lo_fI|apply lo_fA|apply lo_caseI|apply lo_bool|apply lo_opt|intro _|split)
theorem lo_kLenM (x0:_):Loc (kLenM x0):=by
 unfold kLenM
 repeat' (first|exact lo_pure _|exact lo_fail|exact lo_ofOpt _|exact lo_mapAt _|exact lo_pN _|apply lo_bind|apply lo_chk|apply lo_if|apply lo_on|apply lo_fN|apply lo_fI|apply lo_fA|apply lo_caseI|apply lo_bool|apply lo_opt|intro _|split)
theorem lo_aLen (x0:_)(x1:_)(x2:_):Loc (aLen x0 x1 x2):=by
 unfold aLen
 repeat' (first|exact lo_pure _|exact lo_fail|exact lo_ofOpt _|exact lo_kLenM _|exact lo_pN _|exact lo_ti _ _|apply lo_bind|apply lo_chk|apply lo_if|apply lo_on|apply lo_fN|apply lo_fI|apply lo_fA|apply lo_caseI|apply lo_bool|apply lo_opt|intro _|split)
theorem lo_aCap (x0:_)(x1:_)(x2:_):Loc (aCap x0 x1 x2):=by
 unfold aCap
 repeat' (first|exact lo_pure _|exact lo_fail|exact lo_ofOpt _|exact lo_pN _|exact lo_ti _ _|apply lo_bind|apply lo_chk|apply lo_if|apply lo_on|apply lo_fN|apply lo_fI|apply lo_fA|apply lo_caseI|apply lo_bool|apply lo_opt|intro _|split)
theorem lo_kClear (x0:_)(x1:_)(x2:_):Loc (kClear x0 x1 x2):=by
 unfold kClear
 repeat' (first|exact lo_pure _|exact lo_fail|exact lo_ofOpt _|exact lo_ti _ _|exact lo_wrL _ _|apply lo_bind|apply lo_chk|apply lo_if|apply lo_on|apply lo_fN|apply lo_fI|apply lo_fA|apply lo_caseI|apply lo_bool|apply lo_opt|intro _|split)
theorem lo_zeroV (x0:_):Loc (zeroV x0):=by
 unfold zeroV
 repeat' (first|exact lo_pure _|exact lo_fail|exact lo_ofOpt _|apply lo_bind|apply lo_chk|apply lo_if|apply lo_on|apply lo_fN|apply lo_fI|apply lo_fA|apply lo_caseI|apply lo_bool|apply lo_opt|intro _|split)
theorem lo_findM (E:_)(e:_)(t:_)(k:_)(es:_):Loc (findM E e t k es):=lo_chk _ (lo_on _ fun _=>lo_pure _)
theorem lo_pickOk (x0:_)(x1:_)(x2:_):Loc (pickOk x0 x1 x2):=by
 unfold pickOk
 repeat' (first|exact lo_pure _|exact lo_fail|exact lo_ofOpt _|apply lo_bind|apply lo_chk|apply lo_if|apply lo_on|apply lo_fN|apply lo_fI|apply lo_fA|apply lo_caseI|apply lo_bool|apply lo_opt|intro _|split)
theorem lo_zeroOf (x0:_)(x1:_):Loc (zeroOf x0 x1):=by
 unfold zeroOf
 repeat' (first|exact lo_pure _|exact lo_fail|exact lo_ofOpt _|exact lo_zeroV _|exact lo_ti _ _|apply lo_bind|apply lo_chk|apply lo_if|apply lo_on|apply lo_fN|apply lo_fI|apply lo_fA|apply lo_caseI|apply lo_bool|apply lo_opt|intro _|split)
theorem lo_kLookN (E:_)(a:_)(b:_)(k:_)(c:_):Loc (kLookN E a b k c):=lo_bind (lo_findM _ _ _ _ _) fun r=>by
 cases r with
 |none=>exact lo_bind (lo_zeroOf _ _) fun _=>lo_pickOk _ _ _
 |some j=>exact lo_fail
theorem lo_kLookL (E:_)(a:_)(b:_)(k:_)(c:_)(es:_):Loc (kLookL E a b k c es):=lo_bind (lo_findM _ _ _ _ _) fun r=>by
 cases r with
 |none=>exact lo_bind (lo_zeroOf _ _) fun _=>lo_pickOk _ _ _
 |some j=>exact lo_on _ fun _=>lo_pickOk _ _ _
theorem lo_mapT (x0:_)(x1:_):Loc (mapT x0 x1):=by
 unfold mapT
 repeat' (first|exact lo_pure _|exact lo_fail|exact lo_ofOpt _|exact lo_ti _ _|apply lo_bind|apply lo_chk|apply lo_if|apply lo_on|apply lo_fN|apply lo_fI|apply lo_fA|apply lo_caseI|apply lo_bool|apply lo_opt|intro _|split)
theorem lo_kLook (E:_)(t:_)(c:_)(x:_)(k:_):Loc (kLook E t c x k):=lo_bind (lo_mapT _ _) fun ke=>by
 cases x with
 |map m=>
  cases m with
  |none=>exact lo_kLookN _ _ _ _ _
  |some l=>exact lo_bind (lo_mapAt _) fun p=>lo_kLookL _ _ _ _ _ _
 |_=>exact lo_fail
theorem lo_putE (E:_)(t:_)(k:_)(x:_)(l:_)(p:_):Loc (putE E t k x l p):=lo_bind (lo_findM _ _ _ _ _) fun r=>by
 cases r with
 |none=>exact lo_wrC _ _
 |some j=>exact lo_on _ fun _=>lo_chk _ (lo_wrC _ _)
theorem lo_kMapUp (E:_)(t:_)(m:_)(k:_)(x:_):Loc (kMapUp E t m k x):=lo_bind (lo_mapT _ _) fun ke=>by
 cases m with
 |map m=>
  cases m with
  |none=>exact lo_fail
  |some l=>exact lo_bind (lo_mapAt _) fun p=>lo_bind (lo_putE _ _ _ _ _ _) fun _=>lo_pure _
 |_=>exact lo_fail
theorem lo_entE (E:_)(a:_)(b:_)(k:_)(l:_)(p:_):Loc (entE E a b k l p):=lo_bind (lo_findM _ _ _ _ _) fun r=>by
 cases r with
 |none=>exact lo_bind (lo_zeroOf _ _) fun _=>lo_bind (lo_wrC _ _) fun _=>lo_pure _
 |some j=>exact lo_on _ fun _=>lo_chk _ (lo_bind (lo_wrC _ _) fun _=>lo_pure _)
theorem lo_kMapEnt (E:_)(t:_)(m:_)(k:_):Loc (kMapEnt E t m k):=lo_bind (lo_mapT _ _) fun ke=>by
 cases m with
 |map m=>
  cases m with
  |none=>exact lo_fail
  |some l=>exact lo_bind (lo_mapAt _) fun p=>lo_entE _ _ _ _ _ _
 |_=>exact lo_fail
theorem lo_kEntSt (x0:_)(x1:_)(x2:_):Loc (kEntSt x0 x1 x2):=by
 unfold kEntSt
 repeat' (first|exact lo_pure _|exact lo_fail|exact lo_ofOpt _|exact lo_mapAt _|exact lo_wrC _ _|apply lo_bind|apply lo_chk|apply lo_if|apply lo_on|apply lo_fN|apply lo_fI|apply lo_fA|apply lo_caseI|apply lo_bool|apply lo_opt|intro _|split)
theorem lo_kMkMap:Loc (kMkMap):=by
 unfold kMkMap
 repeat' (first|exact lo_pure _|exact lo_fail|exact lo_ofOpt _|exact lo_newO _|apply lo_bind|apply lo_chk|apply lo_if|apply lo_on|apply lo_fN|apply lo_fI|apply lo_fA|apply lo_caseI|apply lo_bool|apply lo_opt|intro _|split)
theorem lo_kMkMapR (x0:_)(x1:_)(x2:_):Loc (kMkMapR x0 x1 x2):=by
 unfold kMkMapR
 repeat' (first|exact lo_pure _|exact lo_fail|exact lo_ofOpt _|exact lo_kMkMap|exact lo_mapT _ _|apply lo_bind|apply lo_chk|apply lo_if|apply lo_on|apply lo_fN|apply lo_fI|apply lo_fA|apply lo_caseI|apply lo_bool|apply lo_opt|intro _|split)
theorem lo_kDel (E:_)(t:_)(m:_)(k:_):Loc (kDel E t m k):=lo_bind (lo_mapT _ _) fun ke=>by
 cases m with
 |map m=>
  cases m with
  |none=>exact lo_bind (lo_findM _ _ _ _ _) fun _=>lo_pure _
  |some l=>exact lo_bind (lo_mapAt _) fun p=>lo_bind (lo_findM _ _ _ _ _) fun r=>by cases r<;>exact lo_bind (lo_wrC _ _) fun _=>lo_pure _
 |_=>exact lo_fail
theorem lo_aBuiltin (x0:_)(x1:_)(x2:_)(x3:_):Loc (aBuiltin x0 x1 x2 x3):=by
 unfold aBuiltin
 repeat' (first|exact lo_pure _|exact lo_fail|exact lo_ofOpt _|exact lo_kDel _ _ _ _|exact lo_kClear _ _ _|exact lo_aCap _ _ _|exact lo_aLen _ _ _|exact lo_aCopy _ _ _ _ _|exact lo_aAppend _ _ _ _ _|exact lo_pV _|apply lo_bind|apply lo_chk|apply lo_if|apply lo_on|apply lo_fN|apply lo_fI|apply lo_fA|apply lo_caseI|apply lo_bool|apply lo_opt|intro _|split)
theorem lo_idxN (x0:_)(x1:_)(x2:_)(x3:_):Loc (idxN x0 x1 x2 x3):=by
 unfold idxN
 repeat' (first|exact lo_pure _|exact lo_fail|exact lo_ofOpt _|exact lo_ptrA _|exact lo_ti _ _|apply lo_bind|apply lo_chk|apply lo_if|apply lo_on|apply lo_fN|apply lo_fI|apply lo_fA|apply lo_caseI|apply lo_bool|apply lo_opt|intro _|split)
theorem lo_asN (x0:_):Loc (asN x0):=by
 unfold asN
 repeat' (first|exact lo_pure _|exact lo_fail|exact lo_ofOpt _|apply lo_bind|apply lo_chk|apply lo_if|apply lo_on|apply lo_fN|apply lo_fI|apply lo_fA|apply lo_caseI|apply lo_bool|apply lo_opt|intro _|split)
theorem lo_kPick (x0:_)(x1:_)(x2:_):Loc (kPick x0 x1 x2):=by
 unfold kPick
 repeat' (first|exact lo_pure _|exact lo_fail|exact lo_ofOpt _|apply lo_bind|apply lo_chk|apply lo_if|apply lo_on|apply lo_fN|apply lo_fI|apply lo_fA|apply lo_caseI|apply lo_bool|apply lo_opt|intro _|split)
theorem lo_ptrN (x0:_):Loc (ptrN x0):=by
 unfold ptrN
 repeat' (first|exact lo_pure _|exact lo_fail|exact lo_ofOpt _|apply lo_bind|apply lo_chk|apply lo_if|apply lo_on|apply lo_fN|apply lo_fI|apply lo_fA|apply lo_caseI|apply lo_bool|apply lo_opt|intro _|split)
theorem lo_kAlloc (x0:_)(x1:_):Loc (kAlloc x0 x1):=by
 unfold kAlloc
 repeat' (first|exact lo_pure _|exact lo_fail|exact lo_ofOpt _|exact lo_ptrN _|exact lo_ti _ _|exact lo_newL _|apply lo_bind|apply lo_chk|apply lo_if|apply lo_on|apply lo_fN|apply lo_fI|apply lo_fA|apply lo_caseI|apply lo_bool|apply lo_opt|intro _|split)
theorem lo_kBox (x0:_):Loc (kBox x0):=by
 unfold kBox
 repeat' (first|exact lo_pure _|exact lo_fail|exact lo_ofOpt _|exact lo_ptrN _|exact lo_newL _|apply lo_bind|apply lo_chk|apply lo_if|apply lo_on|apply lo_fN|apply lo_fI|apply lo_fA|apply lo_caseI|apply lo_bool|apply lo_opt|intro _|split)
theorem lo_kLoad (x0:_)(x1:_)(x2:_):Loc (kLoad x0 x1 x2):=by
 unfold kLoad
 repeat' (first|exact lo_pure _|exact lo_fail|exact lo_ofOpt _|exact lo_asA _|exact lo_aLoad _ _ _|apply lo_bind|apply lo_chk|apply lo_if|apply lo_on|apply lo_fN|apply lo_fI|apply lo_fA|apply lo_caseI|apply lo_bool|apply lo_opt|intro _|split)
theorem lo_kStore (x0:_)(x1:_)(x2:_)(x3:_):Loc (kStore x0 x1 x2 x3):=by
 unfold kStore
 repeat' (first|exact lo_pure _|exact lo_fail|exact lo_ofOpt _|exact lo_asA _|exact lo_aStore _ _ _ _|apply lo_bind|apply lo_chk|apply lo_if|apply lo_on|apply lo_fN|apply lo_fI|apply lo_fA|apply lo_caseI|apply lo_bool|apply lo_opt|intro _|split)
theorem lo_kNil (x0:_):Loc (kNil x0):=by
 unfold kNil
 repeat' (first|exact lo_pure _|exact lo_fail|exact lo_ofOpt _|apply lo_bind|apply lo_chk|apply lo_if|apply lo_on|apply lo_fN|apply lo_fI|apply lo_fA|apply lo_caseI|apply lo_bool|apply lo_opt|intro _|split)
theorem lo_pB (b:Bool):Loc (pB b):=by cases b<;>exact lo_pure _
theorem lo_unSlow (x0:_)(x1:_)(x2:_):Loc (unSlow x0 x1 x2):=by
 unfold unSlow
 repeat' (first|exact lo_pure _|exact lo_fail|exact lo_ofOpt _|exact lo_pV _|apply lo_bind|apply lo_chk|apply lo_if|apply lo_on|apply lo_fN|apply lo_fI|apply lo_fA|apply lo_caseI|apply lo_bool|apply lo_opt|intro _|split)
theorem lo_xorU (P:Program)(v:Value):Loc (xorU P v):=by
 have h:=lo_unSlow P .xor v
 cases v with
 |int k n=>
  cases n with
  |negSucc m=>exact lo_unSlow P .xor (.int k (.negSucc m))
  |ofNat m=>
   show Loc (Option.rec (motive:=fun _=>M Value) (unSlow P .xor (.int k (.ofNat m))) (fun x=>M.pure x) (notK k m))
   exact lo_opt _ (lo_unSlow _ _ _) fun _=>lo_pure _
 |_=>exact h
theorem lo_kUn (x0:_)(x1:_)(x2:_):Loc (kUn x0 x1 x2):=by
 unfold kUn
 repeat' (first|exact lo_pure _|exact lo_fail|exact lo_ofOpt _|exact lo_xorU _ _|exact lo_unSlow _ _ _|exact lo_pB _|apply lo_bind|apply lo_chk|apply lo_if|apply lo_on|apply lo_fN|apply lo_fI|apply lo_fA|apply lo_caseI|apply lo_bool|apply lo_opt|intro _|split)
theorem lo_strOf (x0:_)(x1:_):Loc (strOf x0 x1):=by
 unfold strOf
 repeat' (first|exact lo_pure _|exact lo_fail|exact lo_ofOpt _|exact lo_rdL _ _|apply lo_bind|apply lo_chk|apply lo_if|apply lo_on|apply lo_fN|apply lo_fI|apply lo_fA|apply lo_caseI|apply lo_bool|apply lo_opt|intro _|split)
theorem lo_convSl (x0:_)(x1:_)(x2:_)(x3:_)(x4:_):Loc (convSl x0 x1 x2 x3 x4):=by
 unfold convSl
 repeat' (first|exact lo_pure _|exact lo_fail|exact lo_ofOpt _|exact lo_strOf _ _|exact lo_ti _ _|apply lo_bind|apply lo_chk|apply lo_if|apply lo_on|apply lo_fN|apply lo_fI|apply lo_fA|apply lo_caseI|apply lo_bool|apply lo_opt|intro _|split)
theorem lo_convI (x0:_)(x1:_)(x2:_)(x3:_)(x4:_):Loc (convI x0 x1 x2 x3 x4):=by
 unfold convI
 repeat' (first|exact lo_pure _|exact lo_fail|exact lo_ofOpt _|exact lo_pV _|exact lo_ti _ _|apply lo_bind|apply lo_chk|apply lo_if|apply lo_on|apply lo_fN|apply lo_fI|apply lo_fA|apply lo_caseI|apply lo_bool|apply lo_opt|intro _|split)
theorem lo_kConv (x0:_)(x1:_)(x2:_)(x3:_):Loc (kConv x0 x1 x2 x3):=by
 unfold kConv
 repeat' (first|exact lo_pure _|exact lo_fail|exact lo_ofOpt _|exact lo_convI _ _ _ _ _|exact lo_convSl _ _ _ _ _|exact lo_pV _|apply lo_bind|apply lo_chk|apply lo_if|apply lo_on|apply lo_fN|apply lo_fI|apply lo_fA|apply lo_caseI|apply lo_bool|apply lo_opt|intro _|split)
theorem lo_rowN (x0:_)(x1:_):Loc (rowN x0 x1):=by
 unfold rowN
 repeat' (first|exact lo_pure _|exact lo_fail|exact lo_ofOpt _|exact lo_pSl _ _ _|exact lo_newL _|exact lo_wrC _ _|apply lo_bind|apply lo_chk|apply lo_if|apply lo_on|apply lo_fN|apply lo_fI|apply lo_fA|apply lo_caseI|apply lo_bool|apply lo_opt|intro _|split)
theorem lo_strBs (l:List UInt8):Loc (strBs l):=by
 unfold strBs
 rw[fBs_eq]
 exact lo_fN _ fun n=>lo_rowN _ _
theorem lo_convStr (x0:_)(x1:_)(x2:_)(x3:_):Loc (convStr x0 x1 x2 x3):=by
 unfold convStr
 repeat' (first|exact lo_pure _|exact lo_fail|exact lo_ofOpt _|exact lo_strBs _|exact lo_kConv _ _ _ _|exact lo_ti _ _|apply lo_bind|apply lo_chk|apply lo_if|apply lo_on|apply lo_fN|apply lo_fI|apply lo_fA|apply lo_caseI|apply lo_bool|apply lo_opt|intro _|split)
theorem lo_convSS (x0:_)(x1:_)(x2:_)(x3:_)(x4:_)(x5:_):Loc (convSS x0 x1 x2 x3 x4 x5):=by
 unfold convSS
 repeat' (first|exact lo_pure _|exact lo_fail|exact lo_ofOpt _|exact lo_kConv _ _ _ _|exact lo_ti _ _|exact lo_rdL _ _|exact lo_rdC _|apply lo_bind|apply lo_chk|apply lo_if|apply lo_on|apply lo_fN|apply lo_fI|apply lo_fA|apply lo_caseI|apply lo_bool|apply lo_opt|intro _|split)
theorem lo_kConvB (x0:_)(x1:_)(x2:_)(x3:_):Loc (kConvB x0 x1 x2 x3):=by
 unfold kConvB
 repeat' (first|exact lo_pure _|exact lo_fail|exact lo_ofOpt _|exact lo_convSS _ _ _ _ _ _|exact lo_convStr _ _ _ _|exact lo_kConv _ _ _ _|apply lo_bind|apply lo_chk|apply lo_if|apply lo_on|apply lo_fN|apply lo_fI|apply lo_fA|apply lo_caseI|apply lo_bool|apply lo_opt|intro _|split)
theorem lo_slArrP (x0:_)(x1:_):Loc (slArrP x0 x1):=by
 unfold slArrP
 repeat' (first|exact lo_pure _|exact lo_fail|exact lo_ofOpt _|apply lo_bind|apply lo_chk|apply lo_if|apply lo_on|apply lo_fN|apply lo_fI|apply lo_fA|apply lo_caseI|apply lo_bool|apply lo_opt|intro _|split)
theorem lo_kSlArr (x0:_)(x1:_)(x2:_):Loc (kSlArr x0 x1 x2):=by
 unfold kSlArr
 repeat' (first|exact lo_pure _|exact lo_fail|exact lo_ofOpt _|exact lo_slArrP _ _|exact lo_ti _ _|apply lo_bind|apply lo_chk|apply lo_if|apply lo_on|apply lo_fN|apply lo_fI|apply lo_fA|apply lo_caseI|apply lo_bool|apply lo_opt|intro _|split)
theorem lo_kIface (x0:_)(x1:_)(x2:_):Loc (kIface x0 x1 x2):=by
 unfold kIface
 repeat' (first|exact lo_pure _|exact lo_fail|exact lo_ofOpt _|exact lo_ti _ _|apply lo_bind|apply lo_chk|apply lo_if|apply lo_on|apply lo_fN|apply lo_fI|apply lo_fA|apply lo_caseI|apply lo_bool|apply lo_opt|intro _|split)
theorem lo_mkSl (x0:_)(x1:_)(x2:_)(x3:_):Loc (mkSl x0 x1 x2 x3):=by
 unfold mkSl
 repeat' (first|exact lo_pure _|exact lo_fail|exact lo_ofOpt _|exact lo_ti _ _|exact lo_newL _|apply lo_bind|apply lo_chk|apply lo_if|apply lo_on|apply lo_fN|apply lo_fI|apply lo_fA|apply lo_caseI|apply lo_bool|apply lo_opt|intro _|split)
theorem lo_kMkSl (x0:_)(x1:_)(x2:_)(x3:_):Loc (kMkSl x0 x1 x2 x3):=by
 unfold kMkSl
 repeat' (first|exact lo_pure _|exact lo_fail|exact lo_ofOpt _|exact lo_mkSl _ _ _ _|exact lo_asN _|exact lo_ti _ _|apply lo_bind|apply lo_chk|apply lo_if|apply lo_on|apply lo_fN|apply lo_fI|apply lo_fA|apply lo_caseI|apply lo_bool|apply lo_opt|intro _|split)
theorem lo_fldOf (x0:_)(x1:_)(x2:_):Loc (fldOf x0 x1 x2):=by
 unfold fldOf
 repeat' (first|exact lo_pure _|exact lo_fail|exact lo_ofOpt _|exact lo_ti _ _|apply lo_bind|apply lo_chk|apply lo_if|apply lo_on|apply lo_fN|apply lo_fI|apply lo_fA|apply lo_caseI|apply lo_bool|apply lo_opt|intro _|split)
theorem lo_kFld (x0:_)(x1:_)(x2:_)(x3:_):Loc (kFld x0 x1 x2 x3):=by
 unfold kFld
 repeat' (first|exact lo_pure _|exact lo_fail|exact lo_ofOpt _|exact lo_fldOf _ _ _|exact lo_ptrA _|exact lo_asA _|exact lo_ti _ _|apply lo_bind|apply lo_chk|apply lo_if|apply lo_on|apply lo_fN|apply lo_fI|apply lo_fA|apply lo_caseI|apply lo_bool|apply lo_opt|intro _|split)
theorem lo_asCs (x0:_):Loc (asCs x0):=by
 unfold asCs
 repeat' (first|exact lo_pure _|exact lo_fail|exact lo_ofOpt _|apply lo_bind|apply lo_chk|apply lo_if|apply lo_on|apply lo_fN|apply lo_fI|apply lo_fA|apply lo_caseI|apply lo_bool|apply lo_opt|intro _|split)
theorem lo_kField (x0:_)(x1:_)(x2:_)(x3:_):Loc (kField x0 x1 x2 x3):=by
 unfold kField
 repeat' (first|exact lo_pure _|exact lo_fail|exact lo_ofOpt _|exact lo_asCs _|exact lo_fldOf _ _ _|exact lo_partV _ _ _ _|exact lo_ti _ _|apply lo_bind|apply lo_chk|apply lo_if|apply lo_on|apply lo_fN|apply lo_fI|apply lo_fA|apply lo_caseI|apply lo_bool|apply lo_opt|intro _|split)
theorem lo_kIdxA (x0:_)(x1:_)(x2:_)(x3:_):Loc (kIdxA x0 x1 x2 x3):=by
 unfold kIdxA
 repeat' (first|exact lo_pure _|exact lo_fail|exact lo_ofOpt _|exact lo_asN _|exact lo_idxN _ _ _ _|exact lo_ti _ _|apply lo_bind|apply lo_chk|apply lo_if|apply lo_on|apply lo_fN|apply lo_fI|apply lo_fA|apply lo_caseI|apply lo_bool|apply lo_opt|intro _|split)
theorem lo_idxV (x0:_)(x1:_)(x2:_)(x3:_):Loc (idxV x0 x1 x2 x3):=by
 unfold idxV
 repeat' (first|exact lo_pure _|exact lo_fail|exact lo_ofOpt _|exact lo_partV _ _ _ _|exact lo_ti _ _|apply lo_bind|apply lo_chk|apply lo_if|apply lo_on|apply lo_fN|apply lo_fI|apply lo_fA|apply lo_caseI|apply lo_bool|apply lo_opt|intro _|split)
theorem lo_kIdx (x0:_)(x1:_)(x2:_)(x3:_):Loc (kIdx x0 x1 x2 x3):=by
 unfold kIdx
 repeat' (first|exact lo_pure _|exact lo_fail|exact lo_ofOpt _|exact lo_idxV _ _ _ _|exact lo_asN _|exact lo_ti _ _|apply lo_bind|apply lo_chk|apply lo_if|apply lo_on|apply lo_fN|apply lo_fI|apply lo_fA|apply lo_caseI|apply lo_bool|apply lo_opt|intro _|split)
theorem lo_kExt (x0:_)(x1:_):Loc (kExt x0 x1):=by
 unfold kExt
 repeat' (first|exact lo_pure _|exact lo_fail|exact lo_ofOpt _|apply lo_bind|apply lo_chk|apply lo_if|apply lo_on|apply lo_fN|apply lo_fI|apply lo_fA|apply lo_caseI|apply lo_bool|apply lo_opt|intro _|split)
theorem lo_okV (x0:_)(x1:_)(x2:_):Loc (okV x0 x1 x2):=by
 unfold okV
 repeat' (first|exact lo_pure _|exact lo_fail|exact lo_ofOpt _|apply lo_bind|apply lo_chk|apply lo_if|apply lo_on|apply lo_fN|apply lo_fI|apply lo_fA|apply lo_caseI|apply lo_bool|apply lo_opt|intro _|split)
theorem lo_kRange (x0:_)(x1:_)(x2:_):Loc (kRange x0 x1 x2):=by
 unfold kRange
 repeat' (first|exact lo_pure _|exact lo_mapAt _|exact lo_fail|exact lo_ofOpt _|exact lo_ti _ _|exact lo_newO _|apply lo_bind|apply lo_chk|apply lo_if|apply lo_on|apply lo_fN|apply lo_fI|apply lo_fA|apply lo_caseI|apply lo_bool|apply lo_opt|intro _|split)
theorem lo_sitN (x0:_)(x1:_)(x2:_):Loc (sitN x0 x1 x2):=by
 unfold sitN
 repeat' (first|exact lo_pure _|exact lo_fail|exact lo_ofOpt _|exact lo_wrC _ _|apply lo_bind|apply lo_chk|apply lo_if|apply lo_on|apply lo_fN|apply lo_fI|apply lo_fA|apply lo_caseI|apply lo_bool|apply lo_opt|intro _|split)
theorem lo_mitN (x0:_)(x1:_)(x2:_)(x3:_)(x4:_):Loc (mitN x0 x1 x2 x3 x4):=by
 unfold mitN
 refine lo_chk _ ?_
 split
 ·exact lo_pure _
 ·exact lo_fN _ fun _=>lo_bind (lo_wrC _ _) fun _=>lo_pure _
 ·exact lo_fail
theorem lo_kNextM (x0:_):Loc (kNextM x0):=by
 unfold kNextM
 split
 ·refine lo_bind (lo_rdC _) fun c=> ?_
  split
  ·exact lo_bind (lo_mapAt _) fun _=>lo_mitN _ _ _ _ _
  ·exact lo_fail
 ·exact lo_fail
theorem lo_mitE (x0:_)(x1:_)(x2:_):Loc (mitE x0 x1 x2):=by
 unfold mitE
 exact lo_chk _ (lo_on _ fun _=>lo_on _ fun _=>lo_pure _)
theorem lo_kEntry (x0:_):Loc (kEntry x0):=by
 unfold kEntry
 split
 ·refine lo_bind (lo_rdC _) fun c=> ?_
  split
  ·exact lo_bind (lo_mapAt _) fun _=>lo_mitE _ _ _
  ·exact lo_fail
 ·exact lo_fail
theorem lo_kNext (x0:_):Loc (kNext x0):=by
 unfold kNext
 repeat' (first|exact lo_pure _|exact lo_fail|exact lo_ofOpt _|exact lo_sitN _ _ _|exact lo_rdC _|apply lo_bind|apply lo_chk|apply lo_if|apply lo_on|apply lo_fN|apply lo_fI|apply lo_fA|apply lo_caseI|apply lo_bool|apply lo_opt|intro _|split)
theorem lo_kAssert (x0:_)(x1:_)(x2:_)(x3:_):Loc (kAssert x0 x1 x2 x3):=by
 unfold kAssert
 repeat' (first|exact lo_pure _|exact lo_fail|exact lo_ofOpt _|exact lo_okV _ _ _|exact lo_zeroV _|exact lo_ti _ _|apply lo_bind|apply lo_chk|apply lo_if|apply lo_on|apply lo_fN|apply lo_fI|apply lo_fA|apply lo_caseI|apply lo_bool|apply lo_opt|intro _|split)
theorem lo_kRecover:Loc (kRecover):=by
 unfold kRecover
 repeat' (first|exact lo_pure _|exact lo_fail|exact lo_ofOpt _|exact lo_putCx _|exact lo_getCx|apply lo_bind|apply lo_chk|apply lo_if|apply lo_on|apply lo_fN|apply lo_fI|apply lo_fA|apply lo_caseI|apply lo_bool|apply lo_opt|intro _|split)
theorem lo_kDefer (x0:_)(x1:_):Loc (kDefer x0 x1):=by
 unfold kDefer
 repeat' (first|exact lo_pure _|exact lo_fail|exact lo_ofOpt _|exact lo_putCx _|exact lo_getCx|apply lo_bind|apply lo_chk|apply lo_if|apply lo_on|apply lo_fN|apply lo_fI|apply lo_fA|apply lo_caseI|apply lo_bool|apply lo_opt|intro _|split)
end Go.Proofs.YtapojfiplajfaaaGreatDoor.Am
