import Derived.Test.YtheboekhpelhlaaDSb30
namespace Go.Proofs.Ytheboekhpelhlaa.Am
open Go.RowKit
structure ActP where
 kind:Int
 n:Int
 nm:ByteArray
 to:ByteArray
 b:List Nat
 ks:List Int
def C7 (k:DkS)(wl:List RF)(x:ActP)(e:Int)(k':DkS):Prop:=
 if x.kind=3 then SynD k x.nm e k' else if x.kind=4 then RenD k x.nm x.to e k' else if x.kind=5 then RemD k x.nm e k' else if x.kind=6 then FusD k x.n e k' else if x.kind=7 then CraD k wl x.ks e k' else if x.kind=8 then FlD k x.nm x.n e k' else if x.kind=9 then ResD k x.n e k' else AppD k x.nm x.b e k'
def CD (w:PdS)(x:ActP)(e:Int)(w':PdS):Prop:=
 if x.kind=3 then SynW w x.nm e w' else if x.kind=4 then Pu w x.nm x.to e w' else if x.kind=5 then RemW w x.nm e w' else if x.kind=6 then FusW w x.n e w' else if x.kind=7 then CraW w x.ks e w' else if x.kind=8 then FlW w x.nm x.n e w' else if x.kind=9 then ResW w x.n e w' else AppW w x.nm x.b e w'
theorem Aok_ {k k':DkS}{w w':PdS}{x:ActP}{e e':Int}(h:SdI k w)(h1:C7 k w.wl x e k')(h2:CD w x e' w'):e=e'/\SdI k' w':=by
 unfold C7 at h1
 unfold CD at h2
 by_cases c3:x.kind=3
 ·rw[if_pos c3]at h1 h2
  exact Alq_ h h1 h2
 rw[if_neg c3]at h1 h2
 by_cases c4:x.kind=4
 ·rw[if_pos c4]at h1 h2
  exact ren_same h h1 h2
 rw[if_neg c4]at h1 h2
 by_cases c5:x.kind=5
 ·rw[if_pos c5]at h1 h2
  exact AiL_ h h1 h2
 rw[if_neg c5]at h1 h2
 by_cases c6:x.kind=6
 ·rw[if_pos c6]at h1 h2
  exact Vb_ h h1 h2
 rw[if_neg c6]at h1 h2
 by_cases c7:x.kind=7
 ·rw[if_pos c7]at h1 h2
  exact AiQ_ h h1 h2
 rw[if_neg c7]at h1 h2
 by_cases c8:x.kind=8
 ·rw[if_pos c8]at h1 h2
  exact Ww_ h h1 h2
 rw[if_neg c8]at h1 h2
 by_cases c9:x.kind=9
 ·rw[if_pos c9]at h1 h2
  exact ZB_ h h1 h2
 rw[if_neg c9]at h1 h2
 exact Xf_ h h1 h2
def FOk (L:Nat)(f:RF):Prop:=f.b.length<=L/\f.safe<=f.b.length/\Byt f.b/\f.name.size<=4000
structure POk (m L:Nat)(wl:List RF):Prop where
 len:wl.length<=m
 ok: ∀f∈wl,FOk L f
theorem FOk.mono {L L':Nat}{f:RF}(h:FOk L f)(hL:L<=L'):FOk L' f:=⟨Nat.le_trans h.1 hL,h.2⟩
theorem POk.mono {m m' L L':Nat}{wl:List RF}(h:POk m L wl)(hm:m<=m')(hL:L<=L'):POk m' L' wl:=⟨Nat.le_trans h.len hm,λf hf=>(h.ok f hf).mono hL⟩
theorem POk.used {m L:Nat}{wl:List RF}(h:POk m L wl):CQ wl<=m*L:=by
 have: ∀wl:List RF,(∀f∈wl,FOk L f)->CQ wl<=wl.length*L:=λwl=>by
  induction wl with
  |nil=>intro _;exact Nat.zero_le _
  |cons f t ih=>
   intro hf
   have h1:=ih λg hg=>hf g (List.mem_cons_of_mem _ hg)
   have h2:=(hf f (List.mem_cons_self ..)).1
   have e:CQ (f::t)=f.b.length+CQ t:=rfl
   rw[e,List.length_cons,Nat.succ_mul]
   omega
 exact Nat.le_trans (this wl h.ok) (Nat.mul_le_mul_right _ h.len)
theorem POk.set {m L i:Nat}{wl:List RF}{f:RF}(h:POk m L wl)(hf:FOk L f):POk m L (wl.set i f):=⟨by rw[List.length_set];exact h.len,λg hg=>by
 rcases List.mem_or_eq_of_mem_set hg with hg|rfl
 ·exact h.ok g hg
 ·exact hf⟩
theorem POk.erase {m L i:Nat}{wl:List RF}(h:POk m L wl):POk m L (wl.eraseIdx i):=⟨Nat.le_trans (List.length_eraseIdx_le ..) h.len,λg hg=>h.ok g (List.mem_of_mem_eraseIdx hg)⟩
theorem POk.ins {m L:Nat}{wl:List RF}{f:RF}(h:POk m L wl)(hf:FOk L f):POk (m+1) L (insW wl f):=by
 have p:=G5 wl f
 refine⟨?_,λg hg=> ?_⟩
 ·rw[p.length_eq,List.length_cons]
  have:=h.len
  omega
 ·rcases List.mem_cons.1 (p.mem_iff.1 hg)with rfl|hg
  ·exact hf
  ·exact h.ok g hg
theorem POk.out {m L:Nat}{wl:List RF}(h:POk m L wl)(a:ByteArray):POk m L (outW wl a):=by
 unfold outW
 split
 ·exact h.erase
 ·exact h
theorem Vr_ {l m:List Nat}(h:Byt l)(k:Byt m):Byt (l++m):=λx hx=>by
 rcases List.mem_append.1 hx with hx|hx
 ·exact h x hx
 ·exact k x hx
theorem POk.lay {m L:Nat}{wl:List RF}{a:ByteArray}{l:List Nat}(h:POk m L wl)(hl:Byt l):POk m (L+l.length) (layW wl a l):=by
 unfold layW
 split
 ·rename_i i hi
  split
  ·rename_i f hf
   refine(h.mono (Nat.le_refl _) (Nat.le_add_right _ _)).set ?_
   obtain⟨h1,h2,h3,h4⟩:=h.ok f (List.mem_of_getElem? hf)
   exact⟨by rw[List.length_append];omega,by rw[List.length_append];exact Nat.le_trans h2 (Nat.le_add_right _ _),Vr_ h3 hl,h4⟩
  ·exact h.mono (Nat.le_refl _) (Nat.le_add_right _ _)
 ·exact h.mono (Nat.le_refl _) (Nat.le_add_right _ _)
theorem POk.app {m L:Nat}{wl:List RF}{a:ByteArray}{l:List Nat}(h:POk m L wl)(hl:Byt l)(ha:a.size<=4000):POk (m+1) (L+l.length) (appW wl a l):=by
 unfold appW
 split
 ·exact(h.mono (Nat.le_succ _) (Nat.le_refl _)).lay hl
 ·exact(h.ins (f:=⟨a,[],0⟩) ⟨Nat.zero_le _,Nat.le_refl _,(λ_ h=>nomatch h),ha⟩).lay hl
theorem Akn_ {l:List Nat}{i y:Nat}(h:Byt l)(hy:y<256):Byt (l.set i y):=λx hx=>by
 rcases List.mem_or_eq_of_mem_set hx with hx|rfl
 ·exact h x hx
 ·exact hy
theorem F8.ok {w w':PdS}{Er:Int->Prop}{Ok:Prop}{Eff:List RF->Prop}{e:Int}{m L m' L':Nat}(h:POk m L w.wl)(hm:m<=m')(hL:L<=L')(hs:F8 w Er Ok Eff e w')(hE: ∀wl',Eff wl'->POk m' L' wl'):POk m' L' w'.wl:=by
 rcases hs with⟨_,_,rfl⟩|⟨_,_,rfl⟩|⟨_,_,_,_,rfl⟩|⟨_,_,_,_,wl',he,rfl⟩
 ·exact h.mono hm hL
 ·exact h.mono hm hL
 ·exact h.mono hm hL
 ·exact hE _ he
theorem Ami_ {l:List Nat}(h:Byt l)(i:Nat):l.getD i 0<256:=by
 rw[List.getD_eq_getElem?_getD]
 cases e:l[i]? with
 |none=>exact(by decide:(0:Nat)<256)
 |some x=>exact h x (List.mem_of_getElem? e)
theorem Aoq_ {l:List Nat}(h:Byt l)(m:Nat):Byt (BC l m):=by
 unfold BC
 refine Akn_ h (Nat.xor_lt_two_pow (n:=8) (Ami_ h _) ?_)
 exact Nat.pow_lt_pow_right al (Nat.mod_lt _ al)
theorem Ado_ {w w':PdS}{x:ActP}{e:Int}{m L:Nat}(h:POk m L w.wl)(hb:Byt x.b)(h1:x.nm.size<=4000)(h2:x.to.size<=4000)(hw:CD w x e w'):POk (m+1) (L+x.b.length) w'.wl:=by
 have hm:=Nat.le_succ m
 have hL:L<=L+x.b.length:=Nat.le_add_right _ _
 have get: ∀{i:Nat} (hi:i<w.wl.length),FOk L w.wl[i]:=λhi=>h.ok _ (List.getElem_mem hi)
 unfold CD at hw
 split at hw
 ·refine hw.ok h hm hL λwl' he=> ?_
  obtain⟨i,hi,_,rfl⟩:=he
  obtain⟨f1,f2,f3,f4⟩:=get hi
  exact(h.set (f:={w.wl[i]with safe:=w.wl[i].b.length}) ⟨f1,Nat.le_refl _,f3,f4⟩).mono hm hL
 split at hw
 ·refine hw.ok h hm hL λwl' he=> ?_
  obtain⟨i,hi,_,rfl⟩:=he
  split
  ·exact h.mono hm hL
  ·unfold renW
   rw[List.getElem?_eq_getElem hi]
   obtain⟨f1,f2,f3,f4⟩:=get hi
   exact((h.erase.out _).ins (f:={w.wl[i]with name:=x.to}) ⟨f1,f2,f3,h2⟩).mono (Nat.le_refl _) hL
 split at hw
 ·refine hw.ok h hm hL λwl' he=> ?_
  obtain⟨i,_,_,rfl⟩:=he
  exact h.erase.mono hm hL
 split at hw
 ·rcases hw with⟨_,_,rfl⟩|⟨_,_,rfl⟩
  ·exact h.mono hm hL
  ·exact h.mono hm hL
 split at hw
 ·obtain⟨_,wl',hl,ht,rfl⟩:=hw
  refine⟨by show wl'.length<=_;rw[hl];exact Nat.le_trans h.len hm,λf hf=> ?_⟩
  obtain⟨t,ht1,rfl⟩:=List.getElem_of_mem hf
  have ht1':t<wl'.length:=ht1
  have ht2:t<w.wl.length:=by rw[<-hl];exact ht1'
  obtain⟨f1,f2,f3,f4⟩:=get ht2
  show FOk _ wl'[t]
  rw[ht t ht1' ht2]
  have hst:=Le x.ks t (w.wl[t].b.length-w.wl[t].safe)
  unfold crW
  refine⟨?_, ?_,λy hy=>f3 y (List.mem_of_mem_take hy),f4⟩
  ·show(List.take _ _).length<=_
   rw[List.length_take]
   omega
  ·show _<=(List.take _ _).length
   rw[List.length_take]
   show w.wl[t].safe+_<=_
   omega
 split at hw
 ·rcases hw with⟨_,_,rfl⟩|⟨_,_,_,_,_,rfl⟩|⟨i,hi,mm,_,_,_,_,rfl⟩
  ·exact h.mono hm hL
  ·exact h.mono hm hL
  ·obtain⟨f1,f2,f3,f4⟩:=get hi
   refine(h.set (f:={w.wl[i]with b:=BC w.wl[i].b mm}) ⟨?_, ?_,Aoq_ f3 mm,f4⟩).mono hm hL
   ·show(BC _ _).length<=_
    unfold BC
    rw[List.length_set]
    exact f1
   ·show _<=(BC _ _).length
    unfold BC
    rw[List.length_set]
    exact f2
 split at hw
 ·rcases hw with⟨_,_,rfl⟩|⟨_,_,_,rfl⟩
  ·exact h.mono hm hL
  ·exact h.mono hm hL
 ·refine hw.ok h hm hL λwl' he=> ?_
  rw[he]
  exact h.app hb h1
theorem I7:tyS envS 34=some (1,false):=X
theorem Us:fldN envS 36 0=some (0,1,false):=X
theorem GF:fldN envS 36 1=some (1,1,false):=X
theorem C8:fldN envS 36 2=some (2,1,false):=X
theorem QR:fldN envS 36 3=some (3,1,false):=X
theorem K7:fldN envS 36 4=some (4,1,false):=X
theorem IN:fldN envS 36 5=some (5,1,false):=X
def ActP.cells (x:ActP)(bv kv:Value):List Value:=[.int .i64 x.kind, .int .i64 x.n, .string x.nm, .string x.to,bv,kv]
def ActP.val (x:ActP)(bv kv:Value):Value:= .agg (x.cells bv kv).toArray
theorem Aft.after {s sA s1:St}{col col':Nat->Nat}{D M:Nat}{k:DkS}(h:Aft sA s1 col col' D M k)(hb:s.lim<=s.next)(y:Ext Any Non s sA):Aft s s1 col col' D M k:=
 ⟨h.inv,λx hx hc=>h.agree x (Nat.lt_of_lt_of_le hx y.nxt) hc,(y.gw hb λ_ _ h=>h.elim).on h.ext hb λ_ _ h=>h⟩
theorem Aft.cx1 {s s1:St}{c:Ctx}{col col':Nat->Nat}{D M:Nat}{k:DkS}(h:Aft (s.cxN c) s1 col col' D M k):Aft s (s1.cxN s.cx) col col' D M k:=⟨h.inv.same rfl rfl,h.agree,h.ext.cx'⟩
theorem Rft.after {s sA s1:St}{R:Nat}{k k':RkS}(h:Rft sA s1 R k k')(hb:s.lim<=s.next)(y:Ext Any Non s sA):Rft s s1 R k k':=
 ⟨h.inv,(y.gw hb λ_ _ h=>h.elim).on h.ext hb λ_ _ h=>h,λx hx=>(h.foot x hx).imp id λh=>Nat.le_trans y.nxt h⟩
theorem Rft.cx1 {s s1:St}{c:Ctx}{R:Nat}{k k':RkS}(h:Rft (s.cxN c) s1 R k k'):Rft s (s1.cxN s.cx) R k k':=⟨h.inv.same rfl rfl,h.ext.cx',h.foot⟩
section
variable {n:Nat}{s:St}{x:ActP}{bv kv:Value}{Q:Value->St->Prop}
theorem Ue_ {D M:Nat}{k:DkS}{wl:List RF}{col:Nat->Nat}{lv:Value}(hb:s.lim<=s.next)(hI:DkI s col D M k)(hr:Rl k.fs wl)(hP:POk 100 4000 wl)(hxb:x.b.length<=4000)(hB:Bs s lv x.b)(hBc: ∀y,BsF lv y->y<s.next/\1000<=col y)(hk:KsR s kv x.ks)(hkc: ∀y,KsF kv y->1000<=col y/\y<s.next)(hN:x.n<=9223372036854775807)(g1:x.nm.size<=4000)(g2:x.to.size<=4000)(hn:50000<=n)
  (q: ∀s1 col' e k',Aft s s1 col col' D M k'->C7 k wl x e k'->Q (.int .i64 e) s1):W (Ac envS (runF envS n) 9 [.pointer (some ⟨D,0,none⟩),x.val bv kv,lv]) s Q:=by
 have hb0:(s.cxN cxN).lim<=(s.cxN cxN).next:=hb
 have hlen:=hr.len
 have hlm:=hP.len
 have hu:k.used<=1000000:=by
  have h1:k.used=CQ wl:=hr.used
  have:=hP.used
  omega
 have hu4:k.used<=400000:=by
  have h1:k.used=CQ wl:=hr.used
  have:=hP.used
  omega
 have hnm: ∀f∈wl,f.name.size<=1000000:=λf hf=>by have:=(hP.ok f hf).2.2.2;omega
 have hby: ∀f∈k.fs,Byt f.sb/\Byt f.lb:=λf hf=>by
  have:=(hP.ok (prF f) (hr.perm.mem_iff.1 (List.mem_map_of_mem hf))).2.2.1
  exact⟨λy hy=>this y (List.mem_append_left _ hy),λy hy=>this y (List.mem_append_right _ hy)⟩
 refine ZE_ λtm t0 h1 t2=> ?_
 refine Agm_.u ?_
 simp only[Lx_,RR,SS,h1]
 refine W.box λsB nB xB oB=> ?_
 have yB:Ext Any Non (s.cxN cxN) sB:=xB.any hb0
 have oB':Ai sB s.next 0 (x.cells bv kv):=oB
 have o0:Own sB s.next 0 (.int .i64 x.kind):=oB' 0 _ rfl
 have o1:Own sB s.next 1 (.int .i64 x.n):=oB' 1 _ rfl
 have o2:Own sB s.next 2 (.string x.nm):=oB' 2 _ rfl
 have o3:Own sB s.next 3 (.string x.to):=oB' 3 _ rfl
 have o4:Own sB s.next 4 bv:=oB' 4 _ rfl
 have o5:Own sB s.next 5 kv:=oB' 5 _ rfl
 have nxB:s.next<=sB.next:=yB.nxt
 have hIB:DkI sB col D M k:=(hI.same (s':=s.cxN cxN) rfl rfl).ext0 yB J
 have hBB:Bs sB lv x.b:=(hB.same (s':=s.cxN cxN) rfl rfl).ext0 yB
 have hkB:KsR sB kv x.ks:=(hk.same (s':=s.cxN cxN) rfl rfl).ext0 yB
 refine AlA_.u ?_
 simp only[Fk_,RR,SS,Nat.reduceEqDiff, ↓reduceIte,Ab Us al]
 refine aA (b:=s.next) (o:=0+0) CL o0.at' ?_
 have yB2:=yB.rdG hb0 (s.next+(0+0))
 clear yB
 have yB:=yB2
 clear yB2
 replace hIB:=hIB.same (s':=sB.rdN (s.next+(0+0))) rfl rfl
 replace hkB:=hkB.same (s':=sB.rdN (s.next+(0+0))) rfl rfl
 replace hBB:=hBB.same (s':=sB.rdN (s.next+(0+0))) rfl rfl
 replace o1:=o1.same (s':=sB.rdN (s.next+(0+0))) rfl rfl
 replace o2:=o2.same (s':=sB.rdN (s.next+(0+0))) rfl rfl
 replace o3:=o3.same (s':=sB.rdN (s.next+(0+0))) rfl rfl
 replace o4:=o4.same (s':=sB.rdN (s.next+(0+0))) rfl rfl
 replace o5:=o5.same (s':=sB.rdN (s.next+(0+0))) rfl rfl
 replace nxB:s.next<=(sB.rdN (s.next+(0+0))).next:=nxB
 clear o0 oB oB' xB nB
 generalize sB.rdN (s.next+(0+0))=sB at *
 have hBc': ∀y,BsF lv y->y<sB.next/\1000<=col y:=λy hy=>⟨Nat.lt_of_lt_of_le (hBc y hy).1 nxB,(hBc y hy).2⟩
 have hkc': ∀y,KsF kv y->1000<=col y/\y<sB.next:=λy hy=>⟨(hkc y hy).1,Nat.lt_of_lt_of_le (hkc y hy).2 nxB⟩
 refine AmP_.u ?_
 simp only[Ir_,RR,SS, ↓reduceIte,BJ]
 by_cases c3:x.kind=3
 ·refine aJ BA_ ?_ rfl (an c3)
  refine TC_.u ?_
  simp only[Fq_,RR,SS,Nat.reduceEqDiff,reduceCtorEq, ↓reduceIte,t0,Ab C8 al]
  refine aA (b:=s.next) (o:=0+2) AQ (o2.same (s':=sB) rfl rfl).at' ?_
  have yL:Ext Any Non (s.cxN cxN) (sB.rdN (s.next+(0+2))):=(yB.rdG hb0 _)
  refine Ajs_ (yL.bnd hb0) (hIB.same rfl rfl) J hu J λs1 col' e k' ha hd=> ?_
  have hz:=ha.after hb0 yL
  refine aB (rs:=[6]) (vs:=[.int .i64 e]) rfl (.inl FI) J Em EJ hz.ext.cx Y ?_
  exact q _ _ _ _ hz.cx1 (by unfold C7;rw[if_pos c3];exact hd)
 refine aG BA_ ?_ rfl (an c3)
 refine Aio_.u ?_
 simp only[Mc_,RR,SS,Nat.reduceEqDiff, ↓reduceIte,BJ]
 by_cases c4:x.kind=4
 ·refine aJ Er_ ?_ rfl (an c4)
  refine Zb_.u ?_
  simp only[HN_,RR,SS,Nat.reduceEqDiff,reduceCtorEq, ↓reduceIte,t0,Ab C8 al]
  refine aA (b:=s.next) (o:=0+2) AQ (o2.same (s':=sB) rfl rfl).at' ?_
  try simp only[Ab QR al]
  refine aA (b:=s.next) (o:=0+3) AQ (o3.same (s':=(sB.rdN (s.next+(0+2)))) rfl rfl).at' ?_
  have yL:Ext Any Non (s.cxN cxN) ((sB.rdN (s.next+(0+2))).rdN (s.next+(0+3))):=((yB.rdG hb0 _).rdG hb0 _)
  refine Zm_ (yL.bnd hb0) (hIB.same rfl rfl) J J λs1 col' e k' ha hd=> ?_
  have hz:=ha.after hb0 yL
  refine aB (rs:=[6]) (vs:=[.int .i64 e]) AmK_ (.inl FI) J Em EJ hz.ext.cx Y ?_
  exact q _ _ _ _ hz.cx1 (by unfold C7;rw[if_neg c3,if_pos c4];exact hd)
 refine aG Er_ ?_ rfl (an c4)
 refine TI_.u ?_
 simp only[US,RR,SS,Nat.reduceEqDiff, ↓reduceIte,BJ]
 by_cases c5:x.kind=5
 ·refine aJ UX ?_ rfl (an c5)
  refine AfY_.u ?_
  simp only[ZK,RR,SS,Nat.reduceEqDiff,reduceCtorEq, ↓reduceIte,t0,Ab C8 al]
  refine aA (b:=s.next) (o:=0+2) AQ (o2.same (s':=sB) rfl rfl).at' ?_
  have yL:Ext Any Non (s.cxN cxN) (sB.rdN (s.next+(0+2))):=(yB.rdG hb0 _)
  refine Aqe_ (yL.bnd hb0) (hIB.same rfl rfl) J J λs1 col' e k' ha hd=> ?_
  have hz:=ha.after hb0 yL
  refine aB (rs:=[6]) (vs:=[.int .i64 e]) Afx_ (.inl FI) J Em EJ hz.ext.cx Y ?_
  exact q _ _ _ _ hz.cx1 (by unfold C7;rw[if_neg c3,if_neg c4,if_pos c5];exact hd)
 refine aG UX ?_ rfl (an c5)
 refine ApB_.u ?_
 simp only[X6,RR,SS,Nat.reduceEqDiff, ↓reduceIte,BJ]
 by_cases c6:x.kind=6
 ·refine aJ Wa ?_ rfl (an c6)
  refine AkO_.u ?_
  simp only[V9,RR,SS,Nat.reduceEqDiff,reduceCtorEq, ↓reduceIte,t0,Ab GF al]
  refine aA (b:=s.next) (o:=0+1) CL (o1.same (s':=sB) rfl rfl).at' ?_
  have yL:Ext Any Non (s.cxN cxN) (sB.rdN (s.next+(0+1))):=(yB.rdG hb0 _)
  refine AeG_ (yL.bnd hb0) (hIB.same rfl rfl) J J λs1 col' e k' ha hd=> ?_
  have hz:=ha.after hb0 yL
  refine aB (rs:=[6]) (vs:=[.int .i64 e]) Abu_ (.inl FI) J Em EJ hz.ext.cx Y ?_
  exact q _ _ _ _ hz.cx1 (by unfold C7;rw[if_neg c3,if_neg c4,if_neg c5,if_pos c6];exact hd)
 refine aG Wa ?_ rfl (an c6)
 refine Agz_.u ?_
 simp only[Mx_,RR,SS,Nat.reduceEqDiff, ↓reduceIte,BJ]
 by_cases c7:x.kind=7
 ·refine aJ YI ?_ rfl (an c7)
  refine WO_.u ?_
  simp only[Gd_,RR,SS,Nat.reduceEqDiff,reduceCtorEq, ↓reduceIte,t0,Ab IN al]
  refine aA (b:=s.next) (o:=0+5) I7 (o5.same (s':=sB) rfl rfl).at' ?_
  have yL:Ext Any Non (s.cxN cxN) (sB.rdN (s.next+(0+5))):=(yB.rdG hb0 _)
  refine Aob_ (yL.bnd hb0) (hIB.same rfl rfl) J hr hnm hu (hkB.same rfl rfl) hkc' J λs1 col' e k' ha hd=> ?_
  have hz:=ha.after hb0 yL
  refine aB (rs:=[6]) (vs:=[.int .i64 e]) AqN_ (.inl FI) J Em EJ hz.ext.cx Y ?_
  exact q _ _ _ _ hz.cx1 (by unfold C7;rw[if_neg c3,if_neg c4,if_neg c5,if_neg c6,if_pos c7];exact hd)
 refine aG YI ?_ rfl (an c7)
 refine Aim_.u ?_
 simp only[Qt_,RR,SS,Nat.reduceEqDiff, ↓reduceIte,BJ]
 by_cases c8:x.kind=8
 ·refine aJ Qc_ ?_ rfl (an c8)
  refine Vj_.u ?_
  simp only[Om_,RR,SS,Nat.reduceEqDiff,reduceCtorEq, ↓reduceIte,t0,Ab C8 al]
  refine aA (b:=s.next) (o:=0+2) AQ (o2.same (s':=sB) rfl rfl).at' ?_
  try simp only[Ab GF al]
  refine aA (b:=s.next) (o:=0+1) CL (o1.same (s':=(sB.rdN (s.next+(0+2)))) rfl rfl).at' ?_
  have yL:Ext Any Non (s.cxN cxN) ((sB.rdN (s.next+(0+2))).rdN (s.next+(0+1))):=((yB.rdG hb0 _).rdG hb0 _)
  refine AdE_ (yL.bnd hb0) (hIB.same rfl rfl) J hu J hN hby λs1 col' e k' ha hd=> ?_
  have hz:=ha.after hb0 yL
  refine aB (rs:=[6]) (vs:=[.int .i64 e]) WK_ (.inl FI) J Em EJ hz.ext.cx Y ?_
  exact q _ _ _ _ hz.cx1 (by unfold C7;rw[if_neg c3,if_neg c4,if_neg c5,if_neg c6,if_neg c7,if_pos c8];exact hd)
 refine aG Qc_ ?_ rfl (an c8)
 refine Aeg_.u ?_
 simp only[VK,RR,SS,Nat.reduceEqDiff, ↓reduceIte,BJ]
 by_cases c9:x.kind=9
 ·refine aJ Xe ?_ rfl (an c9)
  refine AiW_.u ?_
  simp only[AE_,RR,SS,Nat.reduceEqDiff,reduceCtorEq, ↓reduceIte,t0,Ab GF al]
  refine aA (b:=s.next) (o:=0+1) CL (o1.same (s':=sB) rfl rfl).at' ?_
  have yL:Ext Any Non (s.cxN cxN) (sB.rdN (s.next+(0+1))):=(yB.rdG hb0 _)
  refine AaZ_ (yL.bnd hb0) (hIB.same rfl rfl) J J λs1 col' e k' ha hd=> ?_
  have hz:=ha.after hb0 yL
  refine aB (rs:=[6]) (vs:=[.int .i64 e]) Tu_ (.inl FI) J Em EJ hz.ext.cx Y ?_
  exact q _ _ _ _ hz.cx1 (by unfold C7;rw[if_neg c3,if_neg c4,if_neg c5,if_neg c6,if_neg c7,if_neg c8,if_pos c9];exact hd)
 refine aG Xe ?_ rfl (an c9)
 refine SY_.u ?_
 simp only[TJ,RR,SS,Nat.reduceEqDiff,reduceCtorEq, ↓reduceIte,t0,t2,Ab C8 al]
 refine aA (b:=s.next) (o:=0+2) AQ (o2.same (s':=sB) rfl rfl).at' ?_
 have yL:Ext Any Non (s.cxN cxN) (sB.rdN (s.next+(0+2))):=(yB.rdG hb0 _)
 refine Akz_ (yL.bnd hb0) (hIB.same rfl rfl) J (hBB.same rfl rfl) hBc' J J λs1 col' e k' ha hd=> ?_
 have hz:=ha.after hb0 yL
 refine aB (rs:=[6]) (vs:=[.int .i64 e]) rfl (.inl AaV_) J Em EJ hz.ext.cx Y ?_
 exact q _ _ _ _ hz.cx1 (by unfold C7;rw[if_neg c3,if_neg c4,if_neg c5,if_neg c6,if_neg c7,if_neg c8,if_neg c9];exact hd)
end
section
variable {n:Nat}{s:St}{x:ActP}{bv kv:Value}{Q:Value->St->Prop}
theorem Aog_ {R:Nat}{k:RkS}(hb:s.lim<=s.next)(hI:RkI s R k)(hP:POk 100 4000 k.wl)(hxb:x.b.length<=4000)(hB:Bs s bv x.b)(hBc: ∀y,BsF bv y->y<s.next/\ ¬RkG R k y)(hk:KsR s kv x.ks)(hkc: ∀y,KsF kv y->y<s.next/\ ¬RkG R k y)(hN:x.n<=9223372036854775807)(g1:x.nm.size<=4000)(g2:x.to.size<=4000)(hn:50000<=n)
  (q: ∀s1 e k',Rft s s1 R k k'->CD k.pd x e k'.pd->Q (.int .i64 e) s1):W (Ac envS (runF envS n) 10 [.pointer (some ⟨R,0,none⟩),x.val bv kv]) s Q:=by
 have hb0:(s.cxN cxN).lim<=(s.cxN cxN).next:=hb
 have hlm:=hP.len
 rw[aH]at hlm
 have hu:k.used<=1000000:=by
  have h1:k.used=CQ k.wl:=rfl
  have:=hP.used
  omega
 have hf: ∀f∈k.ws,FOk 4000 f.rf:=λf hf=>hP.ok _ (List.mem_map_of_mem hf)
 have hz: ∀f∈k.ws,f.rf.b.length<=1000000:=λf h=>by have:=(hf f h).1;omega
 have hzs: ∀f∈k.ws,f.rf.b.length<=1000000/\f.rf.safe<=f.rf.b.length:=λf h=>⟨hz f h,(hf f h).2.1⟩
 have hz2: ∀f∈k.ws,f.rf.b.length+x.b.length<=1000000:=λf h=>by have:=(hf f h).1;omega
 have hby: ∀f∈k.ws,Byt f.rf.b:=λf h=>(hf f h).2.2.1
 refine AfT_ λtm t0 h1=> ?_
 refine Ahn_.u ?_
 simp only[AD_,RR,SS,h1]
 refine W.box λsB nB xB oB=> ?_
 have yB:Ext Any Non (s.cxN cxN) sB:=xB.any hb0
 have oB':Ai sB s.next 0 (x.cells bv kv):=oB
 have o0:Own sB s.next 0 (.int .i64 x.kind):=oB' 0 _ rfl
 have o1:Own sB s.next 1 (.int .i64 x.n):=oB' 1 _ rfl
 have o2:Own sB s.next 2 (.string x.nm):=oB' 2 _ rfl
 have o3:Own sB s.next 3 (.string x.to):=oB' 3 _ rfl
 have o4:Own sB s.next 4 bv:=oB' 4 _ rfl
 have o5:Own sB s.next 5 kv:=oB' 5 _ rfl
 have nxB:s.next<=sB.next:=yB.nxt
 have hIB:RkI sB R k:=(hI.same (s':=s.cxN cxN) rfl rfl).ext0 yB
 have hBB:Bs sB bv x.b:=(hB.same (s':=s.cxN cxN) rfl rfl).ext0 yB
 have hkB:KsR sB kv x.ks:=(hk.same (s':=s.cxN cxN) rfl rfl).ext0 yB
 refine AeB_.u ?_
 simp only[Dc_,RR,SS,Nat.reduceEqDiff, ↓reduceIte,Ab Us al]
 refine aA (b:=s.next) (o:=0+0) CL o0.at' ?_
 have yB2:=yB.rdG hb0 (s.next+(0+0))
 clear yB
 have yB:=yB2
 clear yB2
 replace hIB:=hIB.same (s':=sB.rdN (s.next+(0+0))) rfl rfl
 replace hkB:=hkB.same (s':=sB.rdN (s.next+(0+0))) rfl rfl
 replace hBB:=hBB.same (s':=sB.rdN (s.next+(0+0))) rfl rfl
 replace o1:=o1.same (s':=sB.rdN (s.next+(0+0))) rfl rfl
 replace o2:=o2.same (s':=sB.rdN (s.next+(0+0))) rfl rfl
 replace o3:=o3.same (s':=sB.rdN (s.next+(0+0))) rfl rfl
 replace o4:=o4.same (s':=sB.rdN (s.next+(0+0))) rfl rfl
 replace o5:=o5.same (s':=sB.rdN (s.next+(0+0))) rfl rfl
 replace nxB:s.next<=(sB.rdN (s.next+(0+0))).next:=nxB
 clear o0 oB oB' xB nB
 generalize sB.rdN (s.next+(0+0))=sB at *
 have hBc': ∀y,BsF bv y->y<sB.next/\ ¬RkG R k y:=λy hy=>⟨Nat.lt_of_lt_of_le (hBc y hy).1 nxB,(hBc y hy).2⟩
 have hkc': ∀y,KsF kv y->y<sB.next/\ ¬RkG R k y:=λy hy=>⟨Nat.lt_of_lt_of_le (hkc y hy).1 nxB,(hkc y hy).2⟩
 refine AhR_.u ?_
 simp only[Ip_,RR,SS, ↓reduceIte,BJ]
 by_cases c3:x.kind=3
 ·refine aJ Lf_ ?_ rfl (an c3)
  refine UV_.u ?_
  simp only[Uj,RR,SS,Nat.reduceEqDiff,reduceCtorEq, ↓reduceIte,t0,Ab C8 al]
  refine aA (b:=s.next) (o:=0+2) AQ (o2.same (s':=sB) rfl rfl).at' ?_
  have yL:Ext Any Non (s.cxN cxN) (sB.rdN (s.next+(0+2))):=(yB.rdG hb0 _)
  refine AcI_ (yL.bnd hb0) (hIB.same rfl rfl) J hz J λs1 e k' ha hd=> ?_
  have hz:=ha.after hb0 yL
  refine aB (rs:=[4]) (vs:=[.int .i64 e]) rfl (.inl Gp) J El Fi hz.ext.cx Y ?_
  exact q _ _ _ hz.cx1 (by unfold CD;rw[if_pos c3];exact hd)
 refine aG Lf_ ?_ rfl (an c3)
 refine AeL_.u ?_
 simp only[BM_,RR,SS,Nat.reduceEqDiff, ↓reduceIte,BJ]
 by_cases c4:x.kind=4
 ·refine aJ Bb_ ?_ rfl (an c4)
  refine Aki_.u ?_
  simp only[W5,RR,SS,Nat.reduceEqDiff,reduceCtorEq, ↓reduceIte,t0,Ab C8 al]
  refine aA (b:=s.next) (o:=0+2) AQ (o2.same (s':=sB) rfl rfl).at' ?_
  try simp only[Ab QR al]
  refine aA (b:=s.next) (o:=0+3) AQ (o3.same (s':=(sB.rdN (s.next+(0+2)))) rfl rfl).at' ?_
  have yL:Ext Any Non (s.cxN cxN) ((sB.rdN (s.next+(0+2))).rdN (s.next+(0+3))):=((yB.rdG hb0 _).rdG hb0 _)
  refine AjA_ (yL.bnd hb0) (hIB.same rfl rfl) J hz J J λs1 e k' ha hd=> ?_
  have hz:=ha.after hb0 yL
  refine aB (rs:=[4]) (vs:=[.int .i64 e]) AgL_ (.inl Gp) J El Fi hz.ext.cx Y ?_
  exact q _ _ _ hz.cx1 (by unfold CD;rw[if_neg c3,if_pos c4];exact hd)
 refine aG Bb_ ?_ rfl (an c4)
 refine AcN_.u ?_
 simp only[SF_,RR,SS,Nat.reduceEqDiff, ↓reduceIte,BJ]
 by_cases c5:x.kind=5
 ·refine aJ Yb ?_ rfl (an c5)
  refine ZM_.u ?_
  simp only[Ys,RR,SS,Nat.reduceEqDiff,reduceCtorEq, ↓reduceIte,t0,Ab C8 al]
  refine aA (b:=s.next) (o:=0+2) AQ (o2.same (s':=sB) rfl rfl).at' ?_
  have yL:Ext Any Non (s.cxN cxN) (sB.rdN (s.next+(0+2))):=(yB.rdG hb0 _)
  refine AgA_ (yL.bnd hb0) (hIB.same rfl rfl) J hz J λs1 e k' ha hd=> ?_
  have hz:=ha.after hb0 yL
  refine aB (rs:=[4]) (vs:=[.int .i64 e]) Adz_ (.inl Gp) J El Fi hz.ext.cx Y ?_
  exact q _ _ _ hz.cx1 (by unfold CD;rw[if_neg c3,if_neg c4,if_pos c5];exact hd)
 refine aG Yb ?_ rfl (an c5)
 refine AlX_.u ?_
 simp only[SE_,RR,SS,Nat.reduceEqDiff, ↓reduceIte,BJ]
 by_cases c6:x.kind=6
 ·refine aJ MQ_ ?_ rfl (an c6)
  refine Aqw_.u ?_
  simp only[ID_,RR,SS,Nat.reduceEqDiff,reduceCtorEq, ↓reduceIte,t0,Ab GF al]
  refine aA (b:=s.next) (o:=0+1) CL (o1.same (s':=sB) rfl rfl).at' ?_
  have yL:Ext Any Non (s.cxN cxN) (sB.rdN (s.next+(0+1))):=(yB.rdG hb0 _)
  refine Ano_ (yL.bnd hb0) (hIB.same rfl rfl) J λs1 e k' ha hd=> ?_
  have hz:=ha.after hb0 yL
  refine aB (rs:=[4]) (vs:=[.int .i64 e]) AlR_ (.inl Gp) J El Fi hz.ext.cx Y ?_
  exact q _ _ _ hz.cx1 (by unfold CD;rw[if_neg c3,if_neg c4,if_neg c5,if_pos c6];exact hd)
 refine aG MQ_ ?_ rfl (an c6)
 refine Anh_.u ?_
 simp only[BL_,RR,SS,Nat.reduceEqDiff, ↓reduceIte,BJ]
 by_cases c7:x.kind=7
 ·refine aJ ZN ?_ rfl (an c7)
  refine Aom_.u ?_
  simp only[CS_,RR,SS,Nat.reduceEqDiff,reduceCtorEq, ↓reduceIte,t0,Ab IN al]
  refine aA (b:=s.next) (o:=0+5) I7 (o5.same (s':=sB) rfl rfl).at' ?_
  have yL:Ext Any Non (s.cxN cxN) (sB.rdN (s.next+(0+5))):=(yB.rdG hb0 _)
  refine Ala_ (yL.bnd hb0) (hIB.same rfl rfl) J hzs (hkB.same rfl rfl) hkc' J λs1 e k' ha hd=> ?_
  have hz:=ha.after hb0 yL
  refine aB (rs:=[4]) (vs:=[.int .i64 e]) Ani_ (.inl Gp) J El Fi hz.ext.cx Y ?_
  exact q _ _ _ hz.cx1 (by unfold CD;rw[if_neg c3,if_neg c4,if_neg c5,if_neg c6,if_pos c7];exact hd)
 refine aG ZN ?_ rfl (an c7)
 refine Acz_.u ?_
 simp only[Do_,RR,SS,Nat.reduceEqDiff, ↓reduceIte,BJ]
 by_cases c8:x.kind=8
 ·refine aJ LT_ ?_ rfl (an c8)
  refine TB_.u ?_
  simp only[CG_,RR,SS,Nat.reduceEqDiff,reduceCtorEq, ↓reduceIte,t0,Ab C8 al]
  refine aA (b:=s.next) (o:=0+2) AQ (o2.same (s':=sB) rfl rfl).at' ?_
  try simp only[Ab GF al]
  refine aA (b:=s.next) (o:=0+1) CL (o1.same (s':=(sB.rdN (s.next+(0+2)))) rfl rfl).at' ?_
  have yL:Ext Any Non (s.cxN cxN) ((sB.rdN (s.next+(0+2))).rdN (s.next+(0+1))):=((yB.rdG hb0 _).rdG hb0 _)
  refine VO_ (yL.bnd hb0) (hIB.same rfl rfl) J hz hby hN J λs1 e k' ha hd=> ?_
  have hz:=ha.after hb0 yL
  refine aB (rs:=[4]) (vs:=[.int .i64 e]) AqS_ (.inl Gp) J El Fi hz.ext.cx Y ?_
  exact q _ _ _ hz.cx1 (by unfold CD;rw[if_neg c3,if_neg c4,if_neg c5,if_neg c6,if_neg c7,if_pos c8];exact hd)
 refine aG LT_ ?_ rfl (an c8)
 refine AnF_.u ?_
 simp only[OG_,RR,SS,Nat.reduceEqDiff, ↓reduceIte,BJ]
 by_cases c9:x.kind=9
 ·refine aJ Ij_ ?_ rfl (an c9)
  refine Anu_.u ?_
  simp only[UF,RR,SS,Nat.reduceEqDiff,reduceCtorEq, ↓reduceIte,t0,Ab GF al]
  refine aA (b:=s.next) (o:=0+1) CL (o1.same (s':=sB) rfl rfl).at' ?_
  have yL:Ext Any Non (s.cxN cxN) (sB.rdN (s.next+(0+1))):=(yB.rdG hb0 _)
  refine TN_ (yL.bnd hb0) (hIB.same rfl rfl) J λs1 e k' ha hd=> ?_
  have hz:=ha.after hb0 yL
  refine aB (rs:=[4]) (vs:=[.int .i64 e]) Yc_ (.inl Gp) J El Fi hz.ext.cx Y ?_
  exact q _ _ _ hz.cx1 (by unfold CD;rw[if_neg c3,if_neg c4,if_neg c5,if_neg c6,if_neg c7,if_neg c8,if_pos c9];exact hd)
 refine aG Ij_ ?_ rfl (an c9)
 refine Xe_.u ?_
 simp only[XC,RR,SS,Nat.reduceEqDiff,reduceCtorEq, ↓reduceIte,t0,Ab C8 al]
 refine aA (b:=s.next) (o:=0+2) AQ (o2.same (s':=sB) rfl rfl).at' ?_
 try simp only[Ab K7 al]
 refine aA (b:=s.next) (o:=0+4) Fv (o4.same (s':=(sB.rdN (s.next+(0+2)))) rfl rfl).at' ?_
 have yL:Ext Any Non (s.cxN cxN) ((sB.rdN (s.next+(0+2))).rdN (s.next+(0+4))):=((yB.rdG hb0 _).rdG hb0 _)
 refine Akr_ (yL.bnd hb0) (hIB.same rfl rfl) J (hBB.same rfl rfl) (λy hy=>(hBc' y hy).2) hz2 J hu J J λs1 e k' ha hd=> ?_
 have hz:=ha.after hb0 yL
 refine aB (rs:=[4]) (vs:=[.int .i64 e]) rfl (.inl Xp_) J El Fi hz.ext.cx Y ?_
 exact q _ _ _ hz.cx1 (by unfold CD;rw[if_neg c3,if_neg c4,if_neg c5,if_neg c6,if_neg c7,if_neg c8,if_neg c9];exact hd)
end
theorem WJ_:envS.P.underlying 4=some .bool:=X
theorem Nw_ {a b:Int}(h:a=b){E:Env}{s:St}{xo yo:Operand}{t:Nat}(Q:Value->St->Prop):W (Cl.get (aBin E .neq t xo yo) (.int .i64 a) (.int .i64 b)) s Q=Q (.bool false) s:=by
 subst h
 exact Eh a Q
theorem Rl.one {fs:List FileS}{wl:List RF}(h:Rl fs wl){i:Nat}(hi:i<wl.length): ∃j,∃hj:j<fs.length,An fs wl[i].name=some j/\atW wl wl[i].name=some i/\wl[i].b=fs[j].all/\wl[i].b.length-wl[i].safe=fs[j].lb.length:=by
 rcases h.find wl[i].name with⟨_,h2⟩|⟨j,i',hj,hi',h1,h2,h3,h4⟩
 ·exact absurd h2 (P9 (List.getElem_mem hi))
 ·obtain⟨_,hn⟩:=CO h2
  have ei:i'=i:=h.uniq hi' hi hn
  subst ei
  refine⟨j,hj,h1,h2, ?_, ?_⟩
  ·rw[h3];rfl
  ·rw[h3]
   unfold prF
   simp
section
variable {n D M R:Nat}{k:DkS}{w:RkS}{col:Nat->Nat}{p:ByteArray}
theorem Agr_ {Q:Value×FrameMode->St->Prop}{s0:St}(hb0:s0.lim<=s0.next)(hI0:DkI s0 col D M k)(hR0:RkI s0 R w)(h:SdI k w.pd)(hP:POk 100 4000 w.wl)(hcx:s0.cx=cxN)(q: ∀s1,Ext Any Non s0 s1->Q (.bool true, .run) s1):
  ∀(m i n:Nat) (tm:T Value) (s:St) (td:List Item),i+m=w.ws.length->12*m+3000<=n->skim 64 td=Lp->Ext Any Non s0 s->T.get tm 0=some (.pointer (some ⟨D,0,none⟩))->T.get tm 1=some (.pointer (some ⟨R,0,none⟩))->T.get tm 7=some (.int .i64 (i:Nat))->
  W (runF envS n ⟨14,HW_,Cm,tm,td, .run, .normal,none⟩) s Q:=by
 have hwl:w.wl.length=w.ws.length:=aH w
 have hlm:=hP.len
 rw[hwl]at hlm
 have hlen:k.fs.length<=300:=by have:w.wl.length=k.fs.length:=h.rl.len;omega
 have hu:k.used<=1000000:=by
  have h1:k.used=CQ w.wl:=h.rl.used
  have:=hP.used
  omega
 have hf: ∀f∈w.ws,FOk 4000 f.rf:=λf hf=>hP.ok _ (List.mem_map_of_mem hf)
 have hz: ∀f∈w.ws,f.rf.b.length<=1000000:=λf h=>by have:=(hf f h).1;omega
 have hzs: ∀f∈w.ws,f.rf.b.length<=1000000/\f.rf.safe<=f.rf.b.length:=λf h=>⟨hz f h,(hf f h).2.1⟩
 intro m
 induction m with
 |zero=>
  intro i n tm s td hi hn hT hx t0 t1 t7
  have hR:=hR0.ext0 hx
  refine Kp_.u ?_ hT
  simp only[Sk,RR,SS,t1,t7,Ab AM al]
  refine aA (b:=R) (o:=0+0) AN hR.r0.at' ?_
  have y1:=hx.rdG hb0 (R+(0+0))
  simp only[Ap,hR.l.len AL]
  refine aG PC_ ?_
  refine AcZ_.u ?_
  simp only[Ym,RR,SS]
  refine aB (rs:=[6]) (vs:=[.bool true]) rfl (.inl Xo_) J VX Ahs_ (y1.cx.trans hcx) Y ?_
  exact q _ y1
 |succ m ih=>
  intro i n tm s td hi hn hT hx t0 t1 t7
  have hR:=hR0.ext0 hx
  have hil:i<w.ws.length:=J
  refine Kp_.u ?_ hT
  simp only[Sk,RR,SS,t1,t7,Ab AM al]
  refine aA (b:=R) (o:=0+0) AN hR.r0.at' ?_
  have y1:=hx.rdG hb0 (R+(0+0))
  have hR1:RkI (s.rdN (R+(0+0))) R w:=hR.same rfl rfl
  simp only[Ap,hR.l.len AL]
  generalize s.rdN (R+(0+0))=s1 at *
  refine aJ PC_ ?_
  refine AnG_.u ?_
  obtain⟨c,eL,g0,_,_⟩:=hR1.l.at hil
  simp only[IY_,RR,SS,Nat.reduceEqDiff, ↓reduceIte,t1,t7,Ab AM al]
  refine aA (b:=R) (o:=0+0) AN hR1.r0.at' ?_
  rw[eL]
  simp only[AA AL hil,Ab Gy al]
  refine aA (b:=w.b) (o:=0+i*3+0) AQ (g0.same (s':=s1.rdN (R+(0+0))) rfl rfl).at' ?_
  have y2:=(y1.rdG hb0 (R+(0+0))).rdG hb0 (w.b+(0+i*3+0))
  have hR2:RkI ((s1.rdN (R+(0+0))).rdN (w.b+(0+i*3+0))) R w:=hR1.same rfl rfl
  generalize (s1.rdN (R+(0+0))).rdN (w.b+(0+i*3+0))=s2 at *
  have hiw:i<w.pd.wl.length:=by rw[show w.pd.wl=w.wl from rfl,hwl];exact hil
  obtain⟨j,hj,l1,l2,l3,l4⟩:=h.rl.one hiw
  have enm:w.pd.wl[i]=w.ws[i].rf:=aM hil
  rw[enm]at l1 l2 l3 l4
  have hbl:w.ws[i].rf.b.length<=1000000:=hz _ (List.getElem_mem hil)
  generalize hnm:w.ws[i].rf.name=a at *
  refine AfM_.u ?_
  have hD2:DkI s2 col D M k:=hI0.ext0 y2 hlen
  simp only[Qo_,RR,SS,reduceCtorEq, ↓reduceIte,t0]
  have ho:k.out=w.out:=h.out
  have fin: ∀(n':Nat) (tm':T Value) (td':List Item) (s3 s4:St) (va vb:Value) (r:List Nat) (e:Int),12*m+3005<=n'->skim 64 td'=LV->s0.next<=s3.next->Ext Any Non s0 s4->s3.next<=s4.next->BsO s4 va r s0.next->Bs s4 vb r->r.length<=1000000->T.get tm' 0=some (.pointer (some ⟨D,0,none⟩))->T.get tm' 1=some (.pointer (some ⟨R,0,none⟩))->T.get tm' 7=some (.int .i64 (i:Nat))->T.get tm' 8=some (.string a)->T.get tm' 9=some va->T.get tm' 10=some (.int .i64 e)->T.get tm' 11=some vb->T.get tm' 12=some (.int .i64 e)->W (runF envS n' ⟨14,HW_,Cm,tm',td', .run, .normal,none⟩) s4 Q:=by
   intro n' tm' td' s3 s4 va vb r e hn' hT' _ y4 _ ha hbb hrl g0 g1 g7 g8 g9 g10 g11 g12
   refine XX_.u ?_ hT'
   simp only[Ub,RR,SS,reduceCtorEq, ↓reduceIte,g0,g1,g8,g9,g10,g11,g12,Eh e]
   refine VA (y4.bnd hb0) (ha.bs hrl).1 hbb J λs5 x5 m5 n5=> ?_
   have y5:=y4.on x5 hb0 λ_ _ h=>h
   simp only[SS,reduceCtorEq, ↓reduceIte,A5,Bool.not_true]
   refine LR_ (y5.bnd hb0) (hI0.ext0 y5 hlen) hj l1 J λs6 x6=> ?_
   have y6:=y5.on x6 hb0 λ_ _ h=>h
   refine P3 (y6.bnd hb0) (hR0.ext0 y6) J hzs J (λhh=>by rw[show atW w.wl a=_ from l2]at hh;cases hh) λi' hi' hh s7 x7=> ?_
   have y7:=y6.on x7 hb0 λ_ _ h=>h
   obtain rfl:i=i':=by rw[show atW w.wl a=_ from l2]at hh;injection hh
   simp only[Cr,l4]
   refine aG AqE_ ?_
   refine AbL_.u ?_
   simp only[Oa_,RR,SS,Nat.reduceEqDiff, ↓reduceIte,g9]
   have ha7:BsO s7 va r s0.next:=((ha.same m5 n5).ext0 x6).ext0 x7
   refine Abq_ (y7.bnd hb0) ha7 hrl λs8 x8=> ?_
   have y8:=y7.on x8 hb0 λy hy h=>J
   refine AjG_.u ?_
   have ei:=eiW (i:=i) J
   simp only[WG,RR,SS,Nat.reduceEqDiff, ↓reduceIte,AY,g7,ei]
   exact ih (i+1) _ _ _ _ J J Afl_ y8 (an g0) (an g1) Y
  refine Ale_ (y2.bnd hb0) hD2 hlen hu J (λhout s3 x3=> ?_) (λhout hl s3 x3=>by rw[l1]at hl;cases hl) λhout j' hl hj' s3 va x3 hva=> ?_
  ·have y3:=y2.on x3 hb0 λ_ _ h=>h
   rw[BL (k:=0) rfl]
   rw[BL (k:=1) rfl]
   refine VV.u ?_
   simp only[Rt,RR,SS,Nat.reduceEqDiff, ↓reduceIte,t1]
   refine PT_ (y3.bnd hb0) (hR0.ext0 y3) J hz J (λhout2 s4 x4=> ?_) (λhout2 hl s4 x4=>by rw[show atW w.wl a=_ from l2]at hl;cases hl) λhout2 i' hi' hl s4 vb x4 hvb hnb=>by rw[<-ho,hout]at hout2;cases hout2
   have y4:=y3.on x4 hb0 λ_ _ h=>h
   rw[BL (k:=0) rfl]
   rw[BL (k:=1) rfl]
   exact fin _ _ _ s3 s4 (.slice none 0 0) (.slice none 0 0) [] 10 J rfl y3.nxt y4 x4.nxt (.inl ⟨rfl,rfl⟩) (.inl ⟨rfl,rfl⟩) al (an t0) (an t1) (an t7) Y Y Y Y Y
  ·have y3:=y2.on x3 hb0 λ_ _ h=>h
   obtain rfl:j=j':=by rw[l1]at hl;injection hl
   rw[BL (k:=0) rfl]
   rw[BL (k:=1) rfl]
   refine VV.u ?_
   simp only[Rt,RR,SS,Nat.reduceEqDiff, ↓reduceIte,t1]
   refine PT_ (y3.bnd hb0) (hR0.ext0 y3) J hz J (λhout2 s4 x4=>by rw[<-ho,hout]at hout2;cases hout2) (λhout2 hl s4 x4=>by rw[show atW w.wl a=_ from l2]at hl;cases hl) λhout2 i' hi' hl s4 vb x4 hvb hnb=> ?_
   have y4:=y3.on x4 hb0 λ_ _ h=>h
   obtain rfl:i=i':=by rw[show atW w.wl a=_ from l2]at hl;injection hl
   rw[BL (k:=0) rfl]
   rw[BL (k:=1) rfl]
   exact fin _ _ _ s3 s4 va vb w.ws[i].rf.b 0 J rfl y3.nxt y4 x4.nxt (by rw[l3];exact(hva.mono y2.nxt).ext0 x4) hvb hbl (an t0) (an t1) (an t7) Y Y Y Y Y
end
theorem Ajz_:tyS envS 4=some (1,false):=X
section
variable {n D M R:Nat}{k:DkS}{w:RkS}{col:Nat->Nat}{p:ByteArray}{s:St}{Q:Value->St->Prop}
theorem AqJ_ (hb:s.lim<=s.next)(hI:DkI s col D M k)(hR:RkI s R w)(h:SdI k w.pd)(hP:POk 100 4000 w.wl)(hn:20000<=n)(q: ∀s1,Ext Any Non s s1->Q (.bool true) s1):
  W (Ac envS (runF envS n) 14 [.pointer (some ⟨D,0,none⟩), .pointer (some ⟨R,0,none⟩), .string p]) s Q:=by
 have hb0:(s.cxN cxN).lim<=(s.cxN cxN).next:=hb
 have hwl:w.wl.length=w.ws.length:=aH w
 have hlm:=hP.len
 rw[hwl]at hlm
 have hln:w.wl.length=k.fs.length:=h.rl.len
 have hlen:k.fs.length<=300:=J
 have hu2:w.used<=1000000:=by
  have h1:w.used=CQ w.wl:=rfl
  have:=hP.used
  omega
 have huu:k.used=w.used:=h.rl.used
 have hN:NmsTo (k.fs.map FileS.name) (w.wl.map RF.name):=h.rl.nms (λf hf=>by have:=(hP.ok f hf).2.2.2;omega) (by show w.wl.length<=300;omega)
 have hnl: ∀a:ByteArray,((w.wl.map RF.name).filter λx=>hasB x a).length<=1000:=λa=>Nat.le_trans (List.length_filter_le _ _) (by rw[List.length_map];omega)
 refine AhG_ λtm t0 t1 t2=> ?_
 refine Aou_.u ?_
 simp only[SV,RR,SS]
 refine ZV_.u ?_
 have eo:k.out=w.out:=h.out
 have es:k.steps=w.N:=h.N
 have n5:R+(0+5)<s.next:=hR.r5.1
 have n2:R+(0+2)<s.next:=hR.r2.1
 simp only[NU_,RR,T.get_set,Nat.reduceEqDiff, ↓reduceIte,t0,t1,t2,Aa,Cb,A0,A3,AW,Q2,Aj]
 refine aO (AlB_ (s:=oSt s.mem s.next) (Nat.le_refl _) (hI.same rfl rfl) J λs1 x1=>⟨_,x1,λrd1 hr1=> ?_⟩)
 simp only[Aj]
 rw[W_dq λs Q=>AD (s:=s) _ Q]
 rw[W_dq λs Q=>Ab (s:=s) E9 al Q]
 have hR1:RkI s1 R w:=(hR.same (s':=oSt s.mem s.next) rfl rfl).ext0 x1
 have hI1:DkI s1 col D M k:=(hI.same (s':=oSt s.mem s.next) rfl rfl).ext0 x1 hlen
 refine aD (b:=R) (o:=0+5) Ajz_ ((hR1.r5.same (s':=dSt s1.mem s1.next) rfl rfl).at') λrd5 hr5=> ?_
 try simp only[Bk]
 rw[W_dq λs Q=>A5 (s:=s) _ _ Q]
 try simp only[Bk]
 rw[W_dq λs Q=>XF_ (s:=s) WJ_ Q]
 have e1:(!((!k.out)==(!w.out)))=false:=by rw[eo];simp
 rw[e1]
 try simp only[Bk,Hf,Ja,if_t,Aj]
 refine aO (Abv_ (s:=oSt s1.mem s1.next) (Nat.le_refl _) (hI1.same rfl rfl) J λs2 x2=>⟨_,x2,λrd10 hr10=> ?_⟩)
 try simp only[Aj]
 rw[W_dq λs Q=>AD (s:=s) _ Q]
 try simp only[Bk]
 rw[W_dq λs Q=>Ab (s:=s) Gp_ al Q]
 try simp only[Bk]
 have hR2:RkI s2 R w:=(hR1.same (s':=oSt s1.mem s1.next) rfl rfl).ext0 x2
 have hI2:DkI s2 col D M k:=(hI1.same (s':=oSt s1.mem s1.next) rfl rfl).ext0 x2 hlen
 refine aD (b:=R) (o:=0+2) CL ((hR2.r2.same (s':=dSt s2.mem s2.next) rfl rfl).at') λrd14 hr14=> ?_
 try simp only[Bk]
 rw[W_dq λs Q=>Nw_ (s:=s) es Q]
 try simp only[Bk]
 rw[W_dq λs Q=>Df (s:=s) _ _ _ _]
 rw[if_neg al]
 try simp only[Bk,Hf,Ja,if_t,Aj]
 refine aO (Arl_ (s:=oSt s2.mem s2.next) (Nat.le_refl _) (hI2.same rfl rfl) J λs3 x3=>⟨_,x3,λrd19 hr19=> ?_⟩)
 try simp only[Aj]
 have hR3:RkI s3 R w:=(hR2.same (s':=oSt s2.mem s2.next) rfl rfl).ext0 x3
 have hI3:DkI s3 col D M k:=(hI2.same (s':=oSt s2.mem s2.next) rfl rfl).ext0 x3 hlen
 refine aO (BH_ (s:=oSt s3.mem s3.next) (Nat.le_refl _) (hR3.same rfl rfl) J J J λs4 x4=>⟨_,x4,λrd21 hr21=> ?_⟩)
 try simp only[Bk]
 rw[huu,W_dq λs Q=>Eh (s:=s) _ Q]
 try simp only[Bk]
 rw[W_dq λs Q=>Df (s:=s) _ _ _ _]
 rw[if_neg al]
 try simp only[Bk,Hf,Ja,if_t,Aj]
 have hR4:RkI s4 R w:=(hR3.same (s':=oSt s3.mem s3.next) rfl rfl).ext0 x4
 have hI4:DkI s4 col D M k:=(hI3.same (s':=oSt s3.mem s3.next) rfl rfl).ext0 x4 hlen
 refine aO (UK (s:=oSt s4.mem s4.next) (Nat.le_refl _) (hI4.same rfl rfl) hN J λs5 v5 hv5 _ x5=>⟨_,x5,λrd27 hr27=> ?_⟩)
 try simp only[Aj]
 have hR5:RkI s5 R w:=(hR4.same (s':=oSt s4.mem s4.next) rfl rfl).ext0 x5
 have hI5:DkI s5 col D M k:=(hI4.same (s':=oSt s4.mem s4.next) rfl rfl).ext0 x5 hlen
 refine aO (Ja_ (s:=oSt s5.mem s5.next) (Nat.le_refl _) (hR5.same rfl rfl) J J λs6 v6 x6 hv6 _=>⟨_,x6,λrd30 hr30=> ?_⟩)
 try simp only[Bk]
 have hR6:RkI s6 R w:=(hR5.same (s':=oSt s5.mem s5.next) rfl rfl).ext0 x6
 have hI6:DkI s6 col D M k:=(hI5.same (s':=oSt s5.mem s5.next) rfl rfl).ext0 x6 hlen
 have hv5':StR s6 v5 _:=(hv5.same (s':=oSt s5.mem s5.next) rfl rfl).ext0 x6
 refine aO (JT_ (s:=oSt s6.mem s6.next) (Nat.le_refl _) (hnl p) (hv5'.same rfl rfl) (hv6.same rfl rfl) (by have:=hnl p;omega) λs7 x7=>⟨_,x7,λrd31 hr31=> ?_⟩)
 try simp only[Bk]
 rw[W_dq λs Q=>A5 (s:=s) _ _ Q]
 rw[Bool.not_true]
 try simp only[Bk]
 rw[W_dq λs Q=>Df (s:=s) _ _ _ _]
 rw[if_neg al]
 try simp only[Bk,Hf,Ja,if_t,Aj]
 have hR7:RkI s7 R w:=(hR6.same (s':=oSt s6.mem s6.next) rfl rfl).ext0 x7
 have hI7:DkI s7 col D M k:=(hI6.same (s':=oSt s6.mem s6.next) rfl rfl).ext0 x7 hlen
 refine aO (UK (s:=oSt s7.mem s7.next) (Nat.le_refl _) (hI7.same rfl rfl) hN J λs8 v8 hv8 _ x8=>⟨_,x8,λrd36 hr36=> ?_⟩)
 try simp only[Aj]
 have hR8:RkI s8 R w:=(hR7.same (s':=oSt s7.mem s7.next) rfl rfl).ext0 x8
 refine aO (Ja_ (s:=oSt s8.mem s8.next) (Nat.le_refl _) (hR8.same rfl rfl) J J λs9 v9 x9 hv9 _=>⟨_,x9,λrd38 hr38=> ?_⟩)
 try simp only[Bk]
 have hv8':StR s9 v8 _:=(hv8.same (s':=oSt s8.mem s8.next) rfl rfl).ext0 x9
 refine aO (JT_ (s:=oSt s9.mem s9.next) (Nat.le_refl _) (hnl _) (hv8'.same rfl rfl) (hv9.same rfl rfl) (by have:=hnl ⟨#[]⟩;omega) λsA xA=>⟨_,xA,λrd39 hr39=> ?_⟩)
 try simp only[Bk]
 rw[W_dq λs Q=>A5 (s:=s) _ _ Q]
 rw[Bool.not_true]
 try simp only[Bk]
 rw[AI]
 refine⟨?_, ?_⟩
 ·simp only[List.reverse_cons,List.reverse_nil,List.nil_append,List.cons_append]
  refine Aes_ (cs:=[false,true,false,false,false,false,false,false,false,false,true,false,false,false,false,false,false,false,false,true,false,true,false,false,false,false,false,true,false,false,true,true,false,false,false,false,true,false,true,true,false]) ?_ al al
  simp+contextual [Cls]
  exact⟨λx hx=>by have e:x=_:=hr5 x hx;rw[e];exact n5,λx hx=>by have e:x=_:=hr14 x hx;rw[e];exact n2⟩
 ·refine aK (Abj_ ..) ?_
  simp only[SS,reduceCtorEq, ↓reduceIte]
  generalize hs':(⟨(dSt sA.mem sA.next).mem,(dSt sA.mem sA.next).next,(s.cxN cxN).lim,_,_,(s.cxN cxN).cx⟩:St)=sB
  have hn1:s.next<=s1.next:=x1.nxt
  have hn2:s1.next<=s2.next:=x2.nxt
  have hn3:s2.next<=s3.next:=x3.nxt
  have hn4:s3.next<=s4.next:=x4.nxt
  have hn5:s4.next<=s5.next:=x5.nxt
  have hn6:s5.next<=s6.next:=x6.nxt
  have hn7:s6.next<=s7.next:=x7.nxt
  have hn8:s7.next<=s8.next:=x8.nxt
  have hn9:s8.next<=s9.next:=x9.nxt
  have hnA:s9.next<=sA.next:=xA.nxt
  have xB:Ext Any Non (s.cxN cxN) sB:=by
   rw[<-hs']
   refine Ext.draw (F:=Any) (by show s.next<=sA.next;omega) (λx hx=> ?_) am λ_ _ _ _ _=>trivial
   have hx':x<s.next:=hx
   have f1:T.get s1.mem x=T.get s.mem x:=x1.mem x hx' id
   have f2:T.get s2.mem x=T.get s1.mem x:=x2.mem x (by show x<s1.next;omega) id
   have f3:T.get s3.mem x=T.get s2.mem x:=x3.mem x (by show x<s2.next;omega) id
   have f4:T.get s4.mem x=T.get s3.mem x:=x4.mem x (by show x<s3.next;omega) id
   have f5:T.get s5.mem x=T.get s4.mem x:=x5.mem x (by show x<s4.next;omega) id
   have f6:T.get s6.mem x=T.get s5.mem x:=x6.mem x (by show x<s5.next;omega) id
   have f7:T.get s7.mem x=T.get s6.mem x:=x7.mem x (by show x<s6.next;omega) id
   have f8:T.get s8.mem x=T.get s7.mem x:=x8.mem x (by show x<s7.next;omega) id
   have f9:T.get s9.mem x=T.get s8.mem x:=x9.mem x (by show x<s8.next;omega) id
   have fA:T.get sA.mem x=T.get s9.mem x:=xA.mem x (by show x<s9.next;omega) id
   exact fA.trans (f9.trans (f8.trans (f7.trans (f6.trans (f5.trans (f4.trans (f3.trans (f2.trans f1))))))))
  refine aG Aef_ ?_
  refine AlK_.u ?_
  simp only[ZT,RR,SS]
  exact Agr_ (s0:=s.cxN cxN) hb0 (hI.same rfl rfl) (hR.same rfl rfl) h hP rfl (λs1 x=>q _ x.cx') w.ws.length 0 _ _ _ _ J J rfl xB (an t0) (an t1) Y
end
structure ActV where
 p:ActP
 bv:Value
 kv:Value
structure ActOk (s:St)(a:ActV):Prop where
 b:Bs s a.bv a.p.b
 y:Byt a.p.b
 k:KsR s a.kv a.p.ks
 n:a.p.n<=9223372036854775807
 z:a.p.b.length<=1048576/\a.p.nm.size<=1048576/\a.p.to.size<=1048576/\a.p.ks.length<=1048576
def AlI (s:St)(v:Value)(l:List ActV):Prop:=((v= .slice none 0 0/\l=[])\/ ∃b c,v= .slice (some ⟨b,0,none⟩) l.length c/\ ∀i (h:i<l.length),Row s b (i*6) (l[i].p.cells l[i].bv l[i].kv))/\ ∀a∈l,ActOk s a
theorem ActOk.ext0 {F:Nat->Prop}{s s':St}{a:ActV}(h:ActOk s a)(e:Ext F Non s s'):ActOk s' a:=⟨h.b.ext0 e,h.y,h.k.ext0 e,h.n,h.z⟩
theorem ActOk.same {s s':St}{a:ActV}(h:ActOk s a)(hm:s'.mem=s.mem)(hn:s'.next=s.next):ActOk s' a:=⟨h.b.same hm hn,h.y,h.k.same hm hn,h.n,h.z⟩
theorem AlI.ext0 {F:Nat->Prop}{s s':St}{v:Value}{l:List ActV}(h:AlI s v l)(e:Ext F Non s s'):AlI s' v l:=by
 refine⟨?_,λa ha=>(h.2 a ha).ext0 e⟩
 rcases h.1 with h|⟨b,c,h1,h2⟩
 ·exact .inl h
 ·exact .inr ⟨b,c,h1,λi hi=>(h2 i hi).ext0 e⟩
theorem AlI.same {s s':St}{v:Value}{l:List ActV}(h:AlI s v l)(hm:s'.mem=s.mem)(hn:s'.next=s.next):AlI s' v l:=by
 refine⟨?_,λa ha=>(h.2 a ha).same hm hn⟩
 rcases h.1 with h|⟨b,c,h1,h2⟩
 ·exact .inl h
 ·exact .inr ⟨b,c,h1,λi hi j u e=>(h2 i hi j u e).same hm hn⟩
theorem C4:slN envS 22=some 6:=X
theorem AlI.len {s s':St}{v:Value}{l:List ActV}(h:AlI s v l)(Q:Value->St->Prop):W (AH envS .len [22] [v]) s' Q=Q (.int .i64 (l.length:Nat)) s':=by
 rcases h.1 with⟨rfl,rfl⟩|⟨b,c,rfl,_⟩
 ·exact Bt (n:=0) C4 Q
 ·exact Bt C4 Q
theorem AlI.at {s:St}{v:Value}{l:List ActV}{i:Nat}(h:AlI s v l)(hi:i<l.length): ∃b c,v= .slice (some ⟨b,0,none⟩) l.length c/\Row s b (0+i*6) (l[i].p.cells l[i].bv l[i].kv)/\ActOk s l[i]:=by
 rcases h.1 with⟨_,rfl⟩|⟨b,c,e,h2⟩
 ·cases hi
 ·exact⟨b,c,e,by rw[Nat.zero_add];exact h2 i hi,h.2 _ (List.getElem_mem hi)⟩
def szA (a:ActV):Nat:=a.p.b.length+a.p.nm.size+a.p.to.size
def sumA (l:List ActV)(i:Nat):Nat:=((l.take i).map szA).sum
theorem JC {l:List ActV}{i:Nat}(hi:i<l.length):sumA l (i+1)=sumA l i+szA l[i]:=by
 unfold sumA
 rw[List.take_succ_eq_append_getElem hi,List.map_append,List.sum_append]
 simp
theorem Mk {l:List ActV}(h: ∀a∈l,szA a<=3145728): ∀i,sumA l i<=i*3145728
 |0=>by unfold sumA;simp
 |i+1=>by
  by_cases hi:i<l.length
  ·have h1:=Mk h i
   have h2:=h _ (List.getElem_mem hi)
   rw[JC hi]
   omega
  ·have h1:=Mk h i
   have e:sumA l (i+1)=sumA l i:=by
    unfold sumA
    rw[List.take_of_length_le J,List.take_of_length_le J]
   omega
structure Small (l:List ActV):Prop where
 len:l.length<=40
 sum:sumA l l.length<=4000
 ks: ∀a∈l,a.p.ks.length<=30
section
variable {n:Nat}{v:Value}{l:List ActV}
theorem Tl_ {Q:Value×FrameMode->St->Prop}{s0:St}(hb0:s0.lim<=s0.next)(hA0:AlI s0 v l)(hl:l.length<=1048576)(hcx:s0.cx=cxN)(q: ∀s1 b,Ext Any Non s0 s1->(b=false->Small l)->Q (.bool b, .run) s1):
  ∀(m i n:Nat) (tm:T Value) (s:St) (td:List Item),i+m=41->i<=l.length->10*m+40<=n->skim 64 td=Jp->Ext Any Non s0 s->T.get tm 0=some v->T.get tm 3=some (.int .i64 (sumA l i:Nat))->T.get tm 4=some (.int .i64 (i:Nat))->(∀j (h:j<l.length),j<i->l[j].p.ks.length<=30)->
  W (runF envS n ⟨4,P6,Cy,tm,td, .run, .normal,none⟩) s Q:=by
 have hz: ∀a∈l,szA a<=3145728:=λa ha=>by
  have:=(hA0.2 a ha).z
  unfold szA
  omega
 have fin: ∀(i n:Nat) (tm:T Value) (s:St) (td:List Item),i<=41->(i<l.length->40<l.length)->i<=l.length->10<=n->skim 64 td=N0->Ext Any Non s0 s->T.get tm 0=some v->T.get tm 3=some (.int .i64 (sumA l i:Nat))->(∀j (h:j<l.length),j<i->l[j].p.ks.length<=30)->W (runF envS n ⟨4,P6,Cy,tm,td, .run, .normal,none⟩) s Q:=by
  intro i n tm s td hi41 hbig hil hn hT hx t0 t3 hks
  have fin2: ∀(b:Bool) (n':Nat) (tm':T Value) (td':List Item),2<=n'->skim 64 td'=Ov->T.get tm' 2=some (.bool b)->(b=false->Small l)->W (runF envS n' ⟨4,P6,Cy,tm',td', .run, .normal,none⟩) s Q:=by
   intro b n' tm' td' hn' hT' g2 hb
   refine aB (rs:=[2]) (vs:=[.bool b]) hT' (.inl Aby_) J Nb Jm_ (hx.cx.trans hcx) (by simp[g2]) ?_
   exact q _ b hx hb
  refine Apg_.u ?_ hT
  by_cases h40:l.length<=40
  ·have e1:decide (((l.length:Nat):Int)>40)=false:=decide_eq_false J
   have ei:i=l.length:=by
    by_cases h:i<l.length
    ·have:=hbig h;omega
    ·omega
   simp only[OU,RR,SS, ↓reduceIte,Ck,t0,t3,hA0.len,e1,Bool.false_eq_true]
   refine fin2 _ _ _ _ J rfl (by rw[T.get_set,if_pos rfl]) λhb=>⟨h40, ?_,λa ha=> ?_⟩
   ·have:=of_decide_eq_false hb
    rw[<-ei]
    omega
   ·obtain⟨j,hj,rfl⟩:=List.getElem_of_mem ha
    exact hks j hj J
  ·have e1:decide (((l.length:Nat):Int)>40)=true:=decide_eq_true J
   simp only[OU,RR,SS, ↓reduceIte,Ck,t0,t3,hA0.len,e1]
   exact fin2 true _ _ _ J rfl (by rw[T.get_set,if_pos rfl]) λhb=>by cases hb
 intro m
 induction m with
 |zero=>
  intro i n tm s td hi hil hn hT hx t0 t3 t4 hks
  obtain rfl:i=41:=J
  refine GR_.u ?_ hT
  have e1:decide (((41:Nat):Int)<((l.length:Nat):Int))=decide (41<l.length):=by rw[decide_eq_decide];omega
  have e2:decide (((41:Nat):Int)<41)=false:=rfl
  cases hd:decide (41<l.length)with
  |false=>
   rw[hd]at e1
   simp only[HQ,RR,SS, ↓reduceIte,Ap,t0,t4,hA0.len,e1,Bool.false_eq_true]
   refine aG Kv ?_
   exact fin 41 _ _ _ _ J (λh=>J) hil J rfl hx (an t0) (an t3) hks
  |true=>
   rw[hd]at e1
   simp only[HQ,RR,SS, ↓reduceIte,Ap,t0,t4,hA0.len,e1,e2]
   refine aG Kv ?_
   exact fin 41 _ _ _ _ J (λh=>J) hil J rfl hx (an t0) (an t3) hks
 |succ m ih=>
  intro i n tm s td hi hil hn hT hx t0 t3 t4 hks
  refine GR_.u ?_ hT
  by_cases hlt:i<l.length
  ·have e1:decide (((i:Nat):Int)<((l.length:Nat):Int))=true:=decide_eq_true J
   have e2:decide (((i:Nat):Int)<41)=true:=decide_eq_true J
   simp only[HQ,RR,SS, ↓reduceIte,Ap,t0,t4,hA0.len,e1,e2]
   refine aJ Kv ?_
   obtain⟨b,c,ev,hrow,hok⟩:=(hA0.ext0 hx).at hlt
   refine ZZ_.u ?_
   simp only[XB,RR,T.get_set,Nat.reduceEqDiff, ↓reduceIte,t0,t3,t4,ev,Aa,A0,A3,AW,Aj]
   rw[W_dq λs Q=>AA (s:=s) C4 hlt Q]
   rw[W_dq λs Q=>Ab (s:=s) K7 al Q]
   refine aD (b:=b) (o:=0+i*6+4) Fv ((hrow 4 _ rfl).same (s':=dSt s.mem s.next) rfl rfl) λrd5 hr5=> ?_
   try simp only[Aa]
   rw[W_dq λs Q=>hok.b.lenq Bp Q]
   have hs1:=Mk hz i
   have hs2:szA l[i]<=3145728:=hz _ (List.getElem_mem hlt)
   have hs3:=JC hlt
   unfold szA at hs2 hs3
   have w1:wrap64 (((sumA l i:Nat):Int)+((l[i].p.b.length:Nat):Int))=((sumA l i+l[i].p.b.length:Nat):Int):=by
    rw[Bh J J];omega
   have w2:wrap64 (((sumA l i+l[i].p.b.length:Nat):Int)+((l[i].p.nm.size:Nat):Int))=((sumA l i+l[i].p.b.length+l[i].p.nm.size:Nat):Int):=by
    rw[Bh J J];omega
   have w3:wrap64 (((sumA l i+l[i].p.b.length+l[i].p.nm.size:Nat):Int)+((l[i].p.to.size:Nat):Int))=((sumA l (i+1):Nat):Int):=by
    rw[Bh J J];omega
   try simp only[Aa]
   rw[W_dq λs Q=>AY (s:=s) _ _,w1]
   try simp only[Aj]
   rw[W_dq λs Q=>AA (s:=s) C4 hlt Q]
   rw[W_dq λs Q=>Ab (s:=s) C8 al Q]
   refine aD (b:=b) (o:=0+i*6+2) AQ ((hrow 2 _ rfl).same (s':=dSt s.mem s.next) rfl rfl) λrd12 hr12=> ?_
   try simp only[Aa]
   rw[W_dq λs Q=>CA (s:=s) A8 _ Q]
   try simp only[Aa]
   rw[W_dq λs Q=>AY (s:=s) _ _,w2]
   try simp only[Aj]
   rw[W_dq λs Q=>AA (s:=s) C4 hlt Q]
   rw[W_dq λs Q=>Ab (s:=s) QR al Q]
   refine aD (b:=b) (o:=0+i*6+3) AQ ((hrow 3 _ rfl).same (s':=dSt s.mem s.next) rfl rfl) λrd19 hr19=> ?_
   try simp only[Aa]
   rw[W_dq λs Q=>CA (s:=s) A8 _ Q]
   try simp only[Aa]
   rw[W_dq λs Q=>AY (s:=s) _ _,w3]
   try simp only[Aa]
   rw[AI]
   refine⟨BZ am am, ?_⟩
   refine aK (UT_ ..) ?_
   simp only[SS]
   generalize hs':(⟨(dSt s.mem s.next).mem,(dSt s.mem s.next).next,s.lim,_,_,s.cx⟩:St)=s1
   have x1:Ext Any Non s s1:=by
    rw[<-hs']
    exact Ext.draw (F:=Any) (Nat.le_refl _) (λ_ _=>rfl) am λ_ _ _ _ _=>trivial
   have y1:=hx.on x1 hb0 λ_ _ h=>h
   obtain⟨b',c',ev',hrow',hok'⟩:=(hA0.ext0 y1).at hlt
   refine Aga_.u ?_
   simp only[Ts,RR,SS,Nat.reduceEqDiff,reduceCtorEq, ↓reduceIte,t0,t4,ev',AA C4 hlt,Ab IN al]
   refine aA (b:=b') (o:=0+i*6+5) I7 (hrow' 5 _ rfl) ?_
   have y2:=y1.rdG hb0 (b'+(0+i*6+5))
   simp only[Ck,hok'.k.len]
   by_cases hk:l[i].p.ks.length<=30
   ·have e3:decide (((l[i].p.ks.length:Nat):Int)>30)=false:=decide_eq_false J
    rw[e3]
    refine aG As_ ?_
    refine Afb_.u ?_
    have ei:=eiW (i:=i) J
    simp only[JB_,RR,SS,Nat.reduceEqDiff, ↓reduceIte,AY,t4,ei]
    refine ih (i+1) _ _ _ _ J J J UZ_ y2 (by simp[T.get_set,t0,ev]) Y Y λj hj hji=> ?_
    by_cases e:j=i
    ·subst e;exact hk
    ·exact hks j hj J
   ·have e3:decide (((l[i].p.ks.length:Nat):Int)>30)=true:=decide_eq_true J
    rw[e3]
    refine aJ As_ ?_
    refine TZ_.u ?_
    simp only[Y2,RR,SS]
    refine aB (rs:=[2]) (vs:=[.bool true]) rfl (.inl Aoy_) J Nb Jm_ (y2.cx.trans hcx) Y ?_
    exact q _ true y2 λh=>by cases h
  ·have e1:decide (((i:Nat):Int)<((l.length:Nat):Int))=false:=decide_eq_false J
   simp only[HQ,RR,SS, ↓reduceIte,Ap,t0,t4,hA0.len,e1,Bool.false_eq_true]
   refine aG Kv ?_
   exact fin i _ _ _ _ J (λh=>absurd h hlt) hil J rfl hx (an t0) (an t3) hks
theorem WD_ {s:St}{Q:Value->St->Prop}(hb:s.lim<=s.next)(hA:AlI s v l)(hl:l.length<=1048576)(hn:600<=n)(q: ∀s1 b,Ext Any Non s s1->(b=false->Small l)->Q (.bool b) s1):W (Ac envS (runF envS n) 4 [v]) s Q:=by
 refine AcT_ λtm t0=> ?_
 refine AbJ_.u ?_
 simp only[Cr_,RR,SS]
 refine Abi_.u ?_
 simp only[Vm,RR,SS]
 refine Xb_.u ?_
 simp only[SC_,RR,SS]
 exact Tl_ (s0:=s.cxN cxN) hb (hA.same rfl rfl) hl rfl (λs1 b x hs=>q _ b x.cx' hs) 41 0 _ _ _ _ J (Nat.zero_le _) J rfl (Ext.refl _) (an t0) (by simp[T.get_set,sumA]) Y λj _ h=>absurd h (Nat.not_lt_zero _)
end
def ClsW (N:Nat):List OpLog->List Bool->Prop
 |[],[]=>True
 |m::l,c::cs=>((c=false->m.wr=[]/\m.lo=m.hi/\ ∀x∈m.rd,x<N)/\(c=true-> ∀x∈m.wr,N<=x))/\ClsW N l cs
 |_,_=>False
theorem ClsW.len {N:Nat}: ∀{l:List OpLog} {cs:List Bool},ClsW N l cs->l.length=cs.length
 |[],[],_=>rfl
 |_::_,_::_,h=>by rw[List.length_cons,List.length_cons,ClsW.len h.2]
 |[],_::_,h=>h.elim
 |_::_,[],h=>h.elim
theorem ClsW.at {N:Nat}: ∀{l:List OpLog} {cs:List Bool},ClsW N l cs-> ∀{k:Nat} {m:OpLog},l[k]?=some m-> ∃c,cs[k]?=some c/\(c=false->m.wr=[]/\m.lo=m.hi/\ ∀x∈m.rd,x<N)/\(c=true-> ∀x∈m.wr,N<=x)
 |[],[],_,_,_,e=>by simp at e
 |m::l,c::cs,h,0,m',e=>by
  obtain rfl:m=m':=by simpa using e
  exact⟨c,rfl,h.1⟩
 |m::l,c::cs,h,k+1,m',e=>h.2.at (k:=k) (by simpa using e)
 |[],_::_,h,_,_,_=>h.elim
 |_::_,[],h,_,_,_=>h.elim
theorem SB_ {n0 b:Nat}{m:OpLog}: ∀(l:List OpLog) (i0:Nat),(∀i a,l[i]?=some a->b.testBit (i0+i)=true\/Cu n0 m a)->BS n0 b m l i0
 |[],_,_=>trivial
 |a::l,i0,h=>⟨h 0 a rfl,SB_ l (i0+1) λi a' e=>by
  have:=h (i+1) a' (by simpa using e)
  rwa [show i0+(i+1)=i0+1+i by omega]at this⟩
theorem Be_ {n0:Nat}{all:List OpLog}: ∀(l:List OpLog) (bef:List Nat) (j:Nat),l.length<=bef.length->(∀k m b,l[k]?=some m->bef[k]?=some b->BS n0 b m (all.take (j+k)) 0)->allP n0 all l bef j
 |[],_,_,_,_=>trivial
 |_::_,[],_,hl,_=>absurd hl am
 |m::l,b::bef,j,hl,h=>⟨h 0 m b rfl rfl,Be_ l bef (j+1) (by simpa using hl) λk m' b' e1 e2=>by
  have:=h (k+1) m' b' (by simpa using e1) (by simpa using e2)
  rwa [show j+(k+1)=j+1+k by omega]at this⟩
theorem Aip_ {n0 N:Nat}{l:List OpLog}{bef:List Nat}{cs:List Bool}(hN:N<=n0)(h:ClsW N l cs)(hl:cs.length<=bef.length)(ho:ordK cs cs bef 0=true):BN n0 l bef=true:=by
 refine CP (Be_ l bef 0 (by rw[h.len];exact hl) λk m b e1 e2=>SB_ _ 0 λi a e3=> ?_)
 rw[Nat.zero_add,List.getElem?_take]at e3
 split at e3
 case isFalse=>cases e3
 rename_i hik
 obtain⟨c,hc,h1,h2⟩:=h.at e1
 obtain⟨ca,hca,h3,h4⟩:=h.at e3
 cases c with
 |false=>
  obtain⟨g1,g2,g3⟩:=h1 rfl
  refine .inr ⟨λx hx hn=>absurd (g3 x hx) J,(λx hx=>by rw[g1]at hx;cases hx),λx hx=> ?_,(λx hx=>by rw[g1]at hx;cases hx)⟩
  rw[g1]
  refine⟨λhq=> ?_,λhq=>by cases hq⟩
  cases ca with
  |false=>rw[(h3 rfl).1]at hx;cases hx
  |true=>
   have:=h4 rfl x hx
   have:=g3 x hq
   omega
 |true=>
  cases ca with
  |false=>
   obtain⟨g1,g2,g3⟩:=h3 rfl
   refine .inr ⟨(λx _ _=>J),(λx _ _=>J),(λx hx=>by rw[g1]at hx;cases hx),λx hx hq=> ?_⟩
   have:=h2 rfl x hx
   have:=g3 x hq
   omega
  |true=>
   have q1:=QI ho hc e2
   have q2:=Ry q1 (t:=i) (by
    rw[Nat.zero_add,List.getElem?_take,if_pos hik]
    exact hca)
   exact .inl q2
theorem Bs.lt {s:St}{v:Value}{l:List Nat}(h:Bs s v l): ∀x,BsF v x->x<s.next:=by
 intro x hx
 rcases h with⟨rfl,_⟩|⟨b,o,c,rfl,_,_,h3⟩
 ·exact hx.elim
 ·have h1:b+o<=x:=hx.1
  have h2:x<b+o+l.length:=hx.2
  have hl:x-(b+o)<(u8l l).length:=by rw[Br];omega
  have:=(h3 (x-(b+o)) _ (List.getElem?_eq_getElem hl)).1
  omega
theorem KsR.lt {s:St}{v:Value}{ks:List Int}(h:KsR s v ks): ∀y,KsF v y->y<s.next:=λy hy=>by
 rcases h with⟨rfl,_⟩|⟨b,o,c,rfl,h⟩
 ·exact hy.elim
 ·have h1:b+o<=y:=hy.1
  have h2:y<b+o+ks.length:=hy.2
  have:=(h (y-(b+o)) (.int .i64 (ks[y-(b+o)]'J)) (by rw[List.getElem?_map,List.getElem?_eq_getElem J];rfl)).1
  omega
structure ScI (s0 s:St)(D M R:Nat)(col:Nat->Nat)(k:DkS)(w:RkS)(m L:Nat):Prop where
 x:Ext Any Non s0 s
 dk:DkI s col D M k
 rk:RkI s R w
 sd:SdI k w.pd
 ok:POk m L w.wl
 old: ∀y,y<s0.next->1000<=col y
 rc: ∀y,RkF R w y->s0.next<=y/\1000<=col y
theorem Ye:tyS envS 36=some (6,true):=X
theorem Ame_ {s:St}{Ln:Nat}{l:List Nat}(h:Ai s Ln 0 (u8l (BF l)))(hz:l.length<=1000000):Bs s (.slice (some ⟨Ln,0,none⟩) l.length (l.length+3)) l:=by
 have hU:l.length+3<capU:=BD J
 refine .inr ⟨Ln,0,_,rfl,by rw[Nat.mod_eq_of_lt hU];omega,Eg hU,λi u e=>(h i u ?_).at'⟩
 have hi:=(List.getElem?_eq_some_iff.1 e).1
 unfold u8l BF at *
 rw[List.map_append,List.getElem?_append_left hi]
 exact e
section
variable {n D M R i m L:Nat}{k:DkS}{w:RkS}{col:Nat->Nat}{s0 s:St}{v:Value}{l:List ActV}
theorem Aqf_ {Q:Value×FrameMode->St->Prop}{Ln:Nat}{kv2:Value}{tm:T Value}{td:List Item}(hb0:s0.lim<=s0.next)(hI:ScI s0 s D M R col k w m L)(hm:m<=90)(hA0:AlI s0 v l)(hil:i<l.length)(hL:L+l[i].p.b.length<=4000)(g1:l[i].p.nm.size<=4000)(g2:l[i].p.to.size<=4000)
  (hO:Ai s Ln 0 (u8l (BF l[i].p.b))) (hLn:s0.next<=Ln) (hLc: ∀y,Ln<=y->y<Ln+(l[i].p.b.length+3)->1000<=col y/\ ¬RkF R w y) (hK:KsR s kv2 l[i].p.ks) (hKc: ∀y,KsF kv2 y->1000<=col y/\ ¬RkF R w y)
  (hT:skim 64 td=Ko) (hn:60000<=n) (t1:T.get tm 1=some v) (t7:T.get tm 7=some (.pointer (some ⟨D,0,none⟩))) (t9:T.get tm 9=some (.pointer (some ⟨R,0,none⟩))) (t11:T.get tm 11=some (.int .i64 (i:Nat))) (t12:T.get tm 12=some (.slice (some ⟨Ln,0,none⟩) l[i].p.b.length (l[i].p.b.length+3)))
  (q: ∀n' tm' td' s1 col1 k1 w1 e,n<=n'+1->skim 64 td'=Mt->ScI s0 s1 D M R col1 k1 w1 (m+1) (L+l[i].p.b.length)->Ai s1 Ln 0 (u8l (BF l[i].p.b))->(∀y,Ln<=y->y<Ln+(l[i].p.b.length+3)->1000<=col1 y/\ ¬RkF R w1 y)->KsR s1 kv2 l[i].p.ks->(∀t,t≠14->t≠15->T.get tm' t=T.get tm t)->T.get tm' 14=some (.int .i64 e)->T.get tm' 15=some (.int .i64 e)->W (runF envS n' ⟨3,IZ,Bo,tm',td', .run, .normal,none⟩) s1 Q):
  W (runF envS n ⟨3,IZ,Bo,tm,td, .run, .normal,none⟩) s Q:=by
 obtain⟨b,c,ev,hrow0,hok0⟩:=hA0.at hil
 have hbo:=Bs.lt hok0.b
 have hko:=KsR.lt hok0.k
 have ok_b:=hok0.b
 have ok_k:=hok0.k
 have ok_y:=hok0.y
 have ok_n:=hok0.n
 generalize hx:l[i].p=x at *
 generalize hbv:l[i].bv=bv at *
 generalize hkv:l[i].kv=kv at *
 have hrow:=hrow0.ext0 hI.x
 have hnx:s0.next<=s.next:=hI.x.nxt
 have hro: ∀j u,(x.cells bv kv)[j]?=some u->b+(0+i*6+j)<s0.next:=λj u e=>(hrow0 j u e).1
 have hBv:Bs s bv x.b:=ok_b.ext0 hI.x
 have hkV:KsR s kv x.ks:=ok_k.ext0 hI.x
 have hLs:Ln+(x.b.length+3)<=s.next:=by
  have hl:(u8l (BF x.b)).length=x.b.length+3:=by rw[Br,DD]
  have:=(hO (x.b.length+2) _ (List.getElem?_eq_getElem (by rw[hl];omega))).1
  omega
 have hP:POk 100 4000 w.wl:=hI.ok.mono J J
 have hrf: ∀y,RkF R w y->y<s.next:=hI.rk.lt
 have hgf: ∀{y},RkG R w y->RkF R w y:=λh=>h.imp id λh=> .inl h
 refine VC_.u ?_ hT
 simp only[If_,RR,t1,t7,t9,t11,t12,ev,Aa,Cb,A0,A3,AW,Q2,Aj]
 rw[W_dq λs Q=>AA (s:=s) C4 hil Q]
 refine W.dloadA (b:=b) (o:=0+i*6) (l:=x.cells bv kv) Ye (λj u e=>(hrow j u e).same (s':=dSt s.mem s.next) rfl rfl) rfl λmem1 rd4 em hr4=> ?_
 subst em
 try simp only[Aj]
 refine aS ?_
 refine Ue_ (s:=oSt s.mem s.next) (x:=x) (wl:=w.wl) (Nat.le_refl _) (hI.dk.same rfl rfl) hI.sd.rl hP J ((Ame_ hO J).same (s':=oSt s.mem s.next) rfl rfl) (λy hy=> ?_) (hkV.same (s':=oSt s.mem s.next) rfl rfl) (λy hy=> ?_) ok_n g1 g2 J λs6 col6 e6 k6 ha hd=>⟨_,_,ha.ext,λrd6 wr6 hr6 hw6=> ?_⟩
 ·have h1:Ln+0<=y:=hy.1
  have h2:y<Ln+0+x.b.length:=hy.2
  exact⟨by show y<s.next;omega,(hLc y J J).1⟩
 ·have:=hko y hy
  exact⟨hI.old y this,by show y<s.next;omega⟩
 have n6:s.next<=s6.next:=ha.ext.nxt
 have hrow6:Row s6 b (0+i*6) (x.cells bv kv):=Row.ext (s:=oSt s.mem s.next) (λj u e=>(hrow j u e).same rfl rfl) ha.ext λj hj hg=>by
  have h1:=hro j _ (List.getElem?_eq_getElem hj)
  have h2:=hI.old _ h1
  have h3:col (b+(0+i*6+j))<1000:=hg
  omega
 have hB6:Bs s6 bv x.b:=(hBv.same (s':=oSt s.mem s.next) rfl rfl).ext ha.ext λy hy hg=>by
  have h2:=hI.old _ (hbo y hy)
  have h3:col y<1000:=hg
  omega
 have hk6:KsR s6 kv x.ks:=(hkV.same (s':=oSt s.mem s.next) rfl rfl).ext ha.ext λy hy hg=>by
  have h2:=hI.old _ (hko y hy)
  have h3:col y<1000:=hg
  omega
 have hR6:RkI s6 R w:=(hI.rk.same (s':=oSt s.mem s.next) rfl rfl).ext ha.ext λy _ hy hg=>by
  have h2:=(hI.rc y hy).2
  have h3:col y<1000:=hg
  omega
 try simp only[Aj]
 rw[W_dq λs Q=>AA (s:=s) C4 hil Q]
 refine W.dloadA (b:=b) (o:=0+i*6) (l:=x.cells bv kv) Ye (λj u e=>(hrow6 j u e).same (s':=dSt s6.mem s6.next) rfl rfl) rfl λmem2 rd11 em2 hr11=> ?_
 subst em2
 try simp only[Aa]
 refine aS ?_
 refine Aog_ (s:=oSt s6.mem s6.next) (x:=x) (Nat.le_refl _) (hR6.same rfl rfl) hP J (hB6.same (s':=oSt s6.mem s6.next) rfl rfl) (λy hy=> ?_) (hk6.same (s':=oSt s6.mem s6.next) rfl rfl) (λy hy=> ?_) ok_n g1 g2 J λs7 e7 w7 hf hw=>⟨_,_,hf.ext,λrd12 wr12 hr12 hw12=> ?_⟩
 ·have:=hbo y hy
  exact⟨by show y<s6.next;omega,λh=>by have:=(hI.rc y (hgf h)).1;omega⟩
 ·have:=hko y hy
  exact⟨by show y<s6.next;omega,λh=>by have:=(hI.rc y (hgf h)).1;omega⟩
 have n7:s6.next<=s7.next:=hf.ext.nxt
 obtain⟨rfl,hsd⟩:=Aok_ hI.sd hd hw
 have hok7:POk (m+1) (L+x.b.length) w7.wl:=Ado_ (w:=w.pd) (w':=w7.pd) hI.ok ok_y g1 g2 hw
 have hlen7:k6.fs.length<=300:=by
  have h1:w7.wl.length=k6.fs.length:=hsd.rl.len
  have:=hok7.len
  omega
 have hag: ∀y,y<s.next->1000<=col y->paint col6 s6.next 1000 y=col y:=λy hy hc=>by
  rw[AX J]
  exact ha.agree y hy hc
 have hD7:DkI s7 (paint col6 s6.next 1000) D M k6:=((ha.inv.col λy hy=>AX hy).same (s':=oSt s6.mem s6.next) rfl rfl).ext hf.ext hlen7 λy hy hg=>by
  have h1:=hgf hg
  have h2:=(hI.rc y h1).2
  rw[hag y (hrf y h1) h2]
  exact h2
 have hO7:Ai s7 Ln 0 (u8l (BF x.b)):=by
  have hl:(u8l (BF x.b)).length=x.b.length+3:=by rw[Br,DD]
  have h6:Ai s6 Ln 0 (u8l (BF x.b)):=Ai.ext (s:=oSt s.mem s.next) (λj u e=>(hO j u e).same rfl rfl) ha.ext λj hj hg=>by
   have h2:=(hLc (Ln+(0+j)) J J).1
   have h3:col (Ln+(0+j))<1000:=hg
   omega
  exact Ai.ext (s:=oSt s6.mem s6.next) (λj u e=>(h6 j u e).same rfl rfl) hf.ext λj hj hg=>(hLc (Ln+(0+j)) J J).2 (hgf hg)
 have hK7:KsR s7 kv2 x.ks:=by
  have h6:KsR s6 kv2 x.ks:=(hK.same (s':=oSt s.mem s.next) rfl rfl).ext ha.ext λy hy hg=>by
   have h2:=(hKc y hy).1
   have h3:col y<1000:=hg
   omega
  exact(h6.same (s':=oSt s6.mem s6.next) rfl rfl).ext hf.ext λy hy hg=>(hKc y hy).2 (hgf hg)
 try simp only[Aj,E8]
 rw[AI]
 have w6: ∀y∈wr6,s0.next<=y:=λy hy=>by
  have h1:col y<1000:=(hw6 y hy).2
  by_cases h:y<s0.next
  ·have:=hI.old y h;omega
  ·omega
 have w12: ∀y∈wr12,s0.next<=y:=λy hy=>(hI.rc y (hgf (hw12 y hy).2)).1
 have r4: ∀y∈rd4,y<s0.next:=λy hy=>by
  have h:=hr4 y hy
  have h1:b+(0+i*6)<=y:=h.1
  have h2:y<b+(0+i*6)+6:=h.2
  have:=hro 5 _ rfl
  omega
 have r11: ∀y∈rd11,y<s0.next:=λy hy=>by
  have h:=hr11 y hy
  have h1:b+(0+i*6)<=y:=h.1
  have h2:y<b+(0+i*6)+6:=h.2
  have:=hro 5 _ rfl
  omega
 refine⟨?_, ?_⟩
 ·simp only[List.reverse_cons,List.reverse_nil,List.nil_append,List.cons_append]
  refine Aip_ (N:=s0.next) (cs:=[false,false,false,false,false,false,true,false,false,false,false,false,true,false]) hnx ?_ al al
  simp[ClsW]
  exact⟨r4,w6,r11,w12⟩
 ·refine aK (UP_ ..) ?_
  simp only[SS]
  generalize hs':(⟨(dSt s7.mem s7.next).mem,(dSt s7.mem s7.next).next,s.lim,_,_,s.cx⟩:St)=s8
  have m8:s8.mem=s7.mem:=by rw[<-hs'];rfl
  have n8:s8.next=s7.next:=by rw[<-hs'];rfl
  have x8:Ext Any (λy=>s0.next<=y) s s8:=by
   rw[<-hs']
   refine aU (by show s.next<=s7.next;omega) (λy hy hg=> ?_) ?_ λ_ _ _ _ _=>trivial
   ·have hy0:y<s0.next:=J
    have f1:T.get s6.mem y=T.get s.mem y:=ha.ext.mem y hy λh=>by
     have h1:=hI.old y hy0
     have h3:col y<1000:=h
     omega
    have f2:T.get s7.mem y=T.get s6.mem y:=hf.ext.mem y (by show y<s6.next;omega) λh=>by have:=(hI.rc y (hgf h)).1;omega
    exact f2.trans f1
   ·simp only[List.mem_cons,List.not_mem_nil,or_false]
    rintro m hm y hy hyl
    rcases hm with rfl|rfl|rfl|rfl|rfl|rfl|rfl|rfl|rfl|rfl|rfl|rfl|rfl|rfl<;>first|exact w6 y hy|exact w12 y hy|(cases hy;done)
  refine q _ _ _ _ (paint col6 s6.next 1000) k6 w7 e6 J rfl ⟨hI.x.on x8 hb0 λy hy h=>J,hD7.same m8 n8,hf.inv.same m8 n8,hsd,hok7,λy hy=> ?_,λy hy=> ?_⟩ (λj u e=>(hO7 j u e).same m8 n8) (λy h1 h2=>⟨?_,λhr=> ?_⟩) (hK7.same m8 n8) (λt h14 h15=>by rw[T.get_set,if_neg J,T.get_set,if_neg J]) Y Y
  ·rw[hag y J (hI.old y hy)]
   exact hI.old y hy
  ·rcases hf.foot y hy with h|h
   ·have:=hI.rc y h
    exact⟨this.1,by rw[hag y (hrf y h) this.2];exact this.2⟩
   ·have h':s6.next<=y:=h
    exact⟨J,by rw[C2 h'];exact Nat.le_refl _⟩
  ·have:=(hLc y h1 h2).1
   rw[hag y J this]
   exact this
  ·rcases hf.foot y hr with h|h
   ·exact(hLc y h1 h2).2 h
   ·have h':s6.next<=y:=h
    omega
end
theorem Si:envS.orc.get 5=some (QG (.bool true)):=X
theorem AlZ_:appT envS 34 34=some (1,8,false,[.int .i64 0]):=X
theorem Afn_:elT envS 34=some (1,8,[.int .i64 0]):=X
theorem IE_: ∀l:List Int,(l.map (Value.int .i64)).all oneCell=true
 |[]=>rfl
 |x::l=>by
  show(true&&(l.map (Value.int .i64)).all oneCell)=true
  rw[IE_ l]
  rfl
theorem KsR.src {s:St}{v:Value}{ks:List Int}(h:KsR s v ks): ∃F,Src s 1 v ks.length (ks.map (Value.int .i64)) F:=by
 rcases h with⟨rfl,rfl⟩|⟨b,o,c,rfl,h⟩
 ·exact⟨_,VY⟩
 ·exact⟨_,FQ h am⟩
theorem IU_ {sz b y:Nat}(h:MkF sz 0 b y):False:=Nat.lt_irrefl _ h.1
theorem W.appI {s:St}{v:Value}{b:Nat}{ks:List Int}{Q:Value->St->Prop}(hbd:s.lim<=s.next)(h:KsR s v ks)(hz:ks.length<=1000)(hb:b<=s.next)
  (q: ∀s2 v2,KsR s2 v2 ks->(∀y,KsF v2 y->b<=y)->Ext Any Non s s2->Q v2 s2):W (AH envS .append [34,34] [.slice (some ⟨b,0,none⟩) 0 0,v]) s Q:=by
 obtain⟨F,hs⟩:=h.src
 show W (BV envS 34 34 (.slice (some ⟨b,0,none⟩) 0 0) v) s Q
 refine W.appE hbd (len:=0) (b:=b) (old:=[]) AlZ_ (.inl ⟨rfl,rfl,rfl⟩) hs.g al al J am (IE_ ks) λs2 v2 b2 hb2 h2 x2=> ?_
 rw[Nat.zero_add,List.nil_append]at h2
 obtain⟨c,rfl,hr⟩:=h2.row
 refine q s2 _ (.inr ⟨b2,0,c,rfl,hr⟩) (λy hy=> ?_) ((x2.any hbd).gw hbd λy _ hy=>(IU_ hy).elim)
 have:b2+0<=y:=hy.1
 rcases hb2 with h|h<;>omega
theorem AmY_ {Ln n:Nat}{l:List Nat}{s:St}{Q:Value->St->Prop}(hbd:s.lim<=s.next)(h:Ai s Ln 0 (u8l (BF l)))(hl:l.length<=900000)
  (q: ∀s1,Ext Any (In Ln 0 (l.length+3)) s s1->Q (.tuple #[]) s1):W (Ac envS (runF envS n) 13 [.slice (some ⟨Ln,0,none⟩) l.length (l.length+3)]) s Q:=by
 have:=AmC_ (n:=n) (m:=l.length) (Q:=Q) hbd h (by rw[DD];omega) (by rw[DD];omega) (by rw[DD];omega) λs1 x=>q s1 (by rw[DD]at x;exact x.any hbd)
 rwa [DD]at this
section
variable {n D M R:Nat}{s0:St}{v:Value}{l:List ActV}{p:ByteArray}
theorem ScI.ext0 {s s1:St}{col:Nat->Nat}{k:DkS}{w:RkS}{m L:Nat}(h:ScI s0 s D M R col k w m L)(hb0:s0.lim<=s0.next)(hm:m<=290)(x:Ext Any Non s s1):ScI s0 s1 D M R col k w m L:=
 ⟨h.x.on x hb0 λ_ _ h=>h,h.dk.ext0 x (by have h1:w.wl.length=k.fs.length:=h.sd.rl.len;have:=h.ok.len;omega),h.rk.ext0 x,h.sd,h.ok,h.old,h.rc⟩
theorem ScI.pnt {s:St}{col:Nat->Nat}{k:DkS}{w:RkS}{m L:Nat}(h:ScI s0 s D M R col k w m L):ScI s0 s D M R (paint col s.next 1000) k w m L:=
 ⟨h.x,h.dk.col λy hy=>AX hy,h.rk,h.sd,h.ok,λy hy=>by rw[AX (Nat.lt_of_lt_of_le hy h.x.nxt)];exact h.old y hy,λy hy=>⟨(h.rc y hy).1,by rw[AX (h.rk.lt y hy)];exact(h.rc y hy).2⟩⟩
theorem VN_ {Q:Value×FrameMode->St->Prop}(hb0:s0.lim<=s0.next)(hA0:AlI s0 v l)(hS:Small l)(hcx:s0.cx=cxN)(q: ∀s1,Q (.bool true, .run) s1):
  ∀(m i n:Nat) (tm:T Value) (s:St) (td:List Item) (col:Nat->Nat) (k:DkS) (w:RkS),i+m=l.length->30*m+70000<=n->skim 64 td=Ks->ScI s0 s D M R col k w i (sumA l i)->T.get tm 1=some v->T.get tm 2=some (.string p)->T.get tm 7=some (.pointer (some ⟨D,0,none⟩))->T.get tm 9=some (.pointer (some ⟨R,0,none⟩))->T.get tm 11=some (.int .i64 (i:Nat))->
  W (runF envS n ⟨3,IZ,Bo,tm,td, .run, .normal,none⟩) s Q:=by
 have hlen:=hS.len
 intro m
 induction m with
 |zero=>
  intro i n tm s td col k w hi hn hT hI t1 t2 t7 t9 t11
  refine Y9.u ?_ hT
  simp only[P0,RR,SS,Ap,t1,t11,hA0.len]
  refine aG U8 ?_
  refine AaN_.u ?_
  simp only[CA_,RR,SS]
  refine W.orc Si (W.pure ?_)
  refine aB (rs:=[6]) (vs:=[.bool true]) rfl (.inl WQ_) J J9 O4 (hI.x.cx.trans hcx) Y ?_
  exact q _
 |succ m ih=>
  intro i n tm s td col k w hi hn hT hI t1 t2 t7 t9 t11
  have hil:i<l.length:=J
  have hsz:=JC hil
  have hszL:sumA l (i+1)<=4000:=by
   refine Nat.le_trans ?_ hS.sum
   have: ∀d i,i+d<=l.length->sumA l i<=sumA l (i+d):=λd=>by
    induction d with
    |zero=>intro i _;exact Nat.le_refl _
    |succ d ihd=>
     intro i h
     have h1:=ihd i J
     have h2:=JC (l:=l) (i:=i+d) J
     rw[show i+(d+1)=i+d+1 by omega]
     omega
   have h1:=this (l.length-(i+1)) (i+1) J
   rwa [show i+1+(l.length-(i+1))=l.length by omega]at h1
  unfold szA at hsz
  have hks:=hS.ks _ (List.getElem_mem hil)
  obtain⟨b,c,ev,hrow0,hok0⟩:=hA0.at hil
  refine Y9.u ?_ hT
  simp only[P0,RR,SS,Ap,t1,t11,hA0.len]
  refine aJ U8 ?_
  have hP:=hI.pnt
  have hrl:=hI.rk.lt
  generalize hcol:paint col s.next 1000=colP at *
  have hcolge: ∀y,s.next<=y->1000<=colP y:=λy hy=>by rw[<-hcol,C2 hy];exact Nat.le_refl _
  have hnx:s0.next<=s.next:=hI.x.nxt
  have hbs:s.lim<=s.next:=hI.x.bnd hb0
  refine Yf_.u ?_
  simp only[MN_,RR,SS,Nat.reduceEqDiff, ↓reduceIte,t1,t11,ev,AA C4 hil,Ab K7 al]
  refine aA (b:=b) (o:=0+i*6+4) Fv ((hrow0.ext0 hI.x) 4 _ rfl) ?_
  have z1:Ext Any Non s (s.rdN (b+(0+i*6+4))):=(Ext.refl (F:=Any) (G:=Non) s).rdG hbs _
  refine JI_ (s:=s.rdN (b+(0+i*6+4))) (b:=l[i].p.b) (z1.bnd hbs) ((hok0.b.ext0 hI.x).ext0 z1) J J λs2 x2 o2 n2=> ?_
  have z2:=z1.on x2 hbs λ_ _ h=>h
  replace o2:Ai s2 s.next 0 (u8l (BF l[i].p.b)):=o2
  have n2':s.next+l[i].p.b.length+3<=s2.next:=n2
  refine AjJ_.u ?_
  simp only[GY_,RR,SS,Nat.reduceEqDiff, ↓reduceIte,t1,t11,ev]
  refine aQ (z2.bnd hbs) (r:=[]) Afn_ al rfl (BD al) λs3 n3 x3 _=> ?_
  have z3:=z2.on x3 hbs λ_ _ h=>h
  try simp only[AA C4 hil,Ab IN al]
  refine aA (b:=b) (o:=0+i*6+5) I7 (((hrow0.ext0 hI.x).ext0 z3) 5 _ rfl) ?_
  have z4:=z3.rdG hbs (b+(0+i*6+5))
  refine W.appI (s:=s3.rdN (b+(0+i*6+5))) (z4.bnd hbs) ((hok0.k.ext0 hI.x).ext0 z4) J (x3.nxt) λs5 kv2 hK5 hKy x5=> ?_
  have z5:=z4.on x5 hbs λ_ _ h=>h
  have o5:Ai s5 s.next 0 (u8l (BF l[i].p.b)):=((o2.ext0 x3).ext0 (Ext.rdN (F:=Any) (G:=Non) s3 (b+(0+i*6+5)) λ_=>trivial)).ext0 x5
  have hI5:=hP.ext0 hb0 J z5
  have hKge: ∀y,KsF kv2 y->s.next<=y:=λy hy=>by have:=hKy y hy;omega
  refine Aqf_ (tm:=_) hb0 hI5 J hA0 hil J J J o5 hnx (λy h1 h2=>⟨hcolge y h1,λhr=>by have:=hrl y hr;omega⟩) hK5 (λy hy=>⟨hcolge y (hKge y hy),λhr=>by have:=hrl y hr;have:=hKge y hy;omega⟩) rfl J (by simp[T.get_set,t1,ev]) (an t7) (an t9) (an t11) (by simp[T.get_set];rfl) λn6 tm6 td6 s6 col6 k6 w6 e6 hn6 hT6 hI6 o6 hL6 hK6 g g14 g15=> ?_
  have g1:T.get tm6 1=some v:=by rw[g 1 al al];simp[T.get_set,t1,ev]
  have g2:T.get tm6 2=some (.string p):=by rw[g 2 al al];simp[T.get_set,t2]
  have g7:T.get tm6 7=some (.pointer (some ⟨D,0,none⟩)):=by rw[g 7 al al];simp[T.get_set,t7]
  have g9:T.get tm6 9=some (.pointer (some ⟨R,0,none⟩)):=by rw[g 9 al al];simp[T.get_set,t9]
  have g11:T.get tm6 11=some (.int .i64 (i:Nat)):=by rw[g 11 al al];simp[T.get_set,t11]
  have g12:T.get tm6 12=some (.slice (some ⟨s.next,0,none⟩) l[i].p.b.length (l[i].p.b.length+3)):=by rw[g 12 al al];simp[T.get_set];rfl
  have g13:T.get tm6 13=some kv2:=by rw[g 13 al al];simp[T.get_set]
  have hb6:s6.lim<=s6.next:=hI6.x.bnd hb0
  refine Aml_.u ?_ hT6
  simp only[Bw_,RR,SS,reduceCtorEq, ↓reduceIte,g1,g11,g12,g13,g14,g15,ev,Eh e6,AA C4 hil,Ab K7 al]
  refine aA (b:=b) (o:=0+i*6+4) Fv ((hrow0.ext0 hI6.x) 4 _ rfl) ?_
  have y7:Ext Any Non s6 (s6.rdN (b+(0+i*6+4))):=(Ext.refl (F:=Any) (G:=Non) s6).rdG hb6 _
  refine AhU_ (s:=s6.rdN (b+(0+i*6+4))) (y7.bnd hb6) ((hok0.b.ext0 hI6.x).ext0 y7) J (λj u e=>((o6 j u e).ext0 y7).at') J λs8 x8=> ?_
  have y8:=y7.on x8 hb6 λ_ _ h=>h
  try simp only[SS,reduceCtorEq, ↓reduceIte,A5,Bool.not_true,AA C4 hil,Ab IN al]
  refine aA (b:=b) (o:=0+i*6+5) I7 (((hrow0.ext0 hI6.x).ext0 y8) 5 _ rfl) ?_
  have y9:=y8.rdG hb6 (b+(0+i*6+5))
  refine AqQ_ (s:=s8.rdN (b+(0+i*6+5))) (y9.bnd hb6) J (hK6.ext0 y9) ((hok0.k.ext0 hI6.x).ext0 y9) J λsA xA=> ?_
  have yA:=y9.on xA hb6 λ_ _ h=>h
  try simp only[A5,Bool.not_true]
  refine aG Aii_ ?_
  have hIA:=hI6.ext0 hb0 J yA
  refine Xz_.u ?_
  simp only[Y5,RR,SS,Nat.reduceEqDiff, ↓reduceIte,g12]
  refine AmY_ (yA.bnd hb6) (λj u e=>(o6 j u e).ext0 yA) J λsB xB=> ?_
  have hlenB:k6.fs.length<=300:=by
   have h1:w6.wl.length=k6.fs.length:=hI6.sd.rl.len
   have:=hI6.ok.len
   omega
  have hIB:ScI s0 sB D M R col6 k6 w6 (i+1) (sumA l i+l[i].p.b.length):=⟨hIA.x.on xB hb0 λy hy h=>by have h1:s.next+0<=y:=h.1;omega,hIA.dk.ext xB hlenB λy _ h=>by
   have h1:s.next+0<=y:=h.1
   have h2:y<s.next+0+(l[i].p.b.length+3):=h.2
   exact(hL6 y J J).1,hIA.rk.ext xB λy _ hr h=>by
   have h1:s.next+0<=y:=h.1
   have h2:y<s.next+0+(l[i].p.b.length+3):=h.2
   exact(hL6 y J J).2 hr,hIA.sd,hIA.ok,hIA.old,hIA.rc⟩
  refine Zx_.u ?_
  simp only[IW_,RR,SS,Nat.reduceEqDiff, ↓reduceIte,g2,g7,g9]
  have hPB:POk 100 4000 w6.wl:=hIB.ok.mono J J
  have hwl6:w6.wl.length=w6.ws.length:=aH w6
  have hlm6:=hPB.len
  have hzs: ∀f∈w6.ws,f.rf.b.length<=1000000/\f.rf.safe<=f.rf.b.length:=λf hf=>by
   obtain⟨f1,f2,_⟩:=hPB.ok f.rf (List.mem_map_of_mem hf)
   exact⟨J,f2⟩
  refine AqJ_ (hIB.x.bnd hb0) hIB.dk hIB.rk hIB.sd hPB J λsC xC=> ?_
  have hIC:=hIB.ext0 hb0 J xC
  try simp only[SS,reduceCtorEq, ↓reduceIte,A5,Bool.not_true]
  have fin: ∀(n':Nat) (tm':T Value) (td':List Item) (s':St),30*m+70003<=n'->skim 64 td'=Ri->ScI s0 s' D M R col6 k6 w6 (i+1) (sumA l i+l[i].p.b.length)->(∀t,t≠104->t≠118->T.get tm' t=T.get tm6 t)->T.get tm' 118=some (.bool false)->W (runF envS n' ⟨3,IZ,Bo,tm',td', .run, .normal,none⟩) s' Q:=by
   intro n' tm' td' s' hn' hT' hI' g' g118
   refine aG UI_ ?_ hT' g118
   refine Xi_.u ?_
   have ei:=eiW (i:=i) J
   have h11:T.get tm' 11=some (.int .i64 (i:Nat)):=by rw[g' 11 al al];exact g11
   simp only[BN_,RR,SS,AY,h11,ei]
   exact ih (i+1) _ _ _ _ col6 k6 w6 J J AlP_ ⟨hI'.x,hI'.dk,hI'.rk,hI'.sd,hI'.ok.mono (Nat.le_refl _) J,hI'.old,hI'.rc⟩ (by simp only[T.get_set,Nat.reduceEqDiff,reduceIte];rw[g' 1 al al];exact g1) (by simp only[T.get_set,Nat.reduceEqDiff,reduceIte];rw[g' 2 al al];exact g2) (by simp only[T.get_set,Nat.reduceEqDiff,reduceIte];rw[g' 7 al al];exact g7) (by simp only[T.get_set,Nat.reduceEqDiff,reduceIte];rw[g' 9 al al];exact g9) Y
  have keep: ∀(a b:Value) (t:Nat),t≠104->t≠118->T.get (T.set (T.set tm6 104 a) 118 b) t=T.get tm6 t:=λa b t h1 h2=>by rw[T.get_set,if_neg J,T.get_set,if_neg J]
  rcases hIC.sd.rl.find ⟨#[122,122,122]⟩with⟨l1,l2⟩|⟨j,j',hj,hj',l1,l2,l3,l4⟩
  ·refine AfE_ (hIC.x.bnd hb0) hIC.dk l1 J λsD xD=> ?_
   have hID:=hIC.ext0 hb0 J xD
   refine P3 (hID.x.bnd hb0) hID.rk J hzs J (λ_ sE xE=> ?_) λi' hi' hh=>by rw[show atW w6.wl _=_ from l2]at hh;cases hh
   have hIE:=hID.ext0 hb0 J xE
   simp only[Cr]
   exact fin _ _ _ _ J rfl hIE (keep _ _) Y
  ·refine LR_ (hIC.x.bnd hb0) hIC.dk hj l1 J λsD xD=> ?_
   have hID:=hIC.ext0 hb0 J xD
   refine P3 (hID.x.bnd hb0) hID.rk J hzs J (λhh=>by rw[show atW w6.wl _=_ from l2]at hh;cases hh) λi' hi' hh sE xE=> ?_
   have hIE:=hID.ext0 hb0 J xE
   obtain rfl:j'=i':=by rw[show atW w6.wl _=_ from l2]at hh;injection hh
   have e:((k6.fs[j].lb.length:Nat):Int)=((w6.ws[j'].rf.b.length-w6.ws[j'].rf.safe:Nat):Int):=by
    have e1:w6.pd.wl[j']=w6.ws[j'].rf:=aM hi'
    rw[<-e1,l3]
    unfold prF
    simp
   simp only[Nw_ e]
   exact fin _ _ _ _ J rfl hIE (keep _ _) Y
