import Derived.Test.YtofanlcjeohcjaaIMg26
namespace Go.Proofs.Ytofanlcjeohcjaa.Am
open Go.RowKit
def EO (s:St)(x:Value)(r:List Nat)(n0 n1:Nat):Prop:=(x= .slice none 0 0/\r=[])\/ ∃nb o,MkO s x r nb o/\0<r.length/\r.length<=2000/\n0<=nb/\nb+o+r.length<n1
theorem EO.bs {s:St}{x:Value}{r:List Nat}{n0 n1:Nat}(h:EO s x r n0 n1):Bs s x r:=by
 rcases h with⟨h1,h2⟩|⟨nb,o,h,_,h2,_⟩
 ·exact .inl ⟨h1,h2⟩
 ·exact(h.bn (by omega)).bs
theorem EO.ext {F G:Nat->Prop}{s s':St}{x:Value}{r:List Nat}{n0 n1:Nat}(h:EO s x r n0 n1)(e:Ext F G s s')(hG: ∀y,n0<=y->y<n1-> ¬G y):EO s' x r n0 n1:=by
 rcases h with h|⟨nb,o,h,h1,h2,h3,h4⟩
 ·exact .inl h
 ·exact .inr ⟨nb,o,h.ext e λy hy=>hG y (by have:=hy.1;omega) (by have:=hy.2;omega),h1,h2,h3,h4⟩
theorem EO.same {s s':St}{x:Value}{r:List Nat}{n0 n1:Nat}(h:EO s x r n0 n1)(hm:s'.mem=s.mem)(hn:s'.next=s.next):EO s' x r n0 n1:=by
 rcases h with h|⟨nb,o,h,h1⟩
 ·exact .inl h
 ·exact .inr ⟨nb,o,h.same hm hn,h1⟩
theorem AlX_ {n k m:Nat}{v:Value}{l:List Nat}{s:St}(hbd:s.lim<=s.next)(hbs:Bs s v l)(hby:Byt l)(hz:l.length<=100000)(hm1:1<=m)(hm2:m<=1024)(hlen:k+26+m<=l.length)(hn:200000<=n):
  W (Ab envS (runF envS n) 70 [v, .int .i64 (k+6:Nat), .int .i64 (m:Nat)]) s λu s1=> ∃x,u= .tuple #[.agg (u8l (Bu l k m)).toArray,x, .bool (Bt l k m)]/\Ext Any Non s s1:=by
 refine SF_ hbd hbs hby hz hm1 hm2 hlen hn (λhg s1 w x1 _=>⟨w, ?_,x1⟩) λhg s1 x1=>⟨.slice none 0 0, ?_,x1⟩
 ·have e1:Bu l k m=A9 l k m:=if_pos hg
  have e2:Bt l k m=decide (idB (BM l k m)=A9 l k m):=by unfold Bt;rw[decide_eq_true hg,Bool.true_and]
  rw[e1,e2]
 ·have e1:Bu l k m=IV:=if_neg hg
  have e2:Bt l k m=false:=by unfold Bt;rw[decide_eq_false hg,Bool.false_and]
  rw[e1,e2]
theorem AdR_ {v:Value}{l:List Nat}{s0:St}{Q:Value->St->Prop}(hb0:(s0.cxN cxN).lim<=(s0.cxN cxN).next)(hbs:Bs (s0.cxN cxN) v l)(hby:Byt l)(hz:l.length<=90000): ∀(f k n:Nat) (hs:List Hd) (bad:Nat) (tm:T Value) (td:List Item) (s:St) (w:Value) (bw:Nat),
  k<=l.length->l.length-k<=f->bad*27<=k->hs.length*27<=k->210000+40*f<=n->skim 64 td=KH->Ext Any Non (s0.cxN cxN) s->MkS s 18 hs.length (AV hs) w bw->(∀y,MkF 18 hs.length bw y->s0.next<=y)->
  T.get tm 0=some v->T.get tm 6=some w->T.get tm 7=some (.int .i64 (k:Nat))->T.get tm 8=some (.int .i64 (bad:Nat))->
  (∀s1 w1 b1,Ext Any Non (s0.cxN cxN) s1->MkS s1 18 (A4 l f k hs bad).1.length (AV (A4 l f k hs bad).1) w1 b1->(∀y,MkF 18 (A4 l f k hs bad).1.length b1 y->s0.next<=y)->Q (.tuple #[w1, .int .i64 ((A4 l f k hs bad).2.2.1:Nat), .int .i64 ((A4 l f k hs bad).2.1:Nat), .int .i64 ((A4 l f k hs bad).2.2.2:Nat)]) (s1.cxN s0.cx))->
  W (runF envS n ⟨25,YZ,BY,tm,td, .run, .normal,none⟩) s λp s1=>Q p.1 (s1.cxN s0.cx):=by
 intro f
 induction f with
 |zero=>
  intro k n hs bad tm td s w bw hk hf hc1 hc2 hn hT hx hm hmF h0 h6 h7 h8 q
  have hkl:k=l.length:=by omega
  have hB:=hbs.ext0 hx
  refine AM_.u ?_ hT
  simp only[QQ,RR,SS,Di,h0,h7,hB.len Al]
  refine aI Nc ?_ rfl (by simp[T.get_set,hkl])
  refine Yj.u ?_
  simp only[RQ,RR,SS,Nat.reduceEqDiff, ↓reduceIte,h6,h7,h8]
  have e:A4 l 0 k hs bad=(hs,bad,k,0):=by unfold A4 B6;rw[if_pos hkl]
  rw[e]at q
  exact aF (rs:=[2,3,4,5]) (vs:=[w, .int .i64 (k:Nat), .int .i64 (bad:Nat), .int .i64 0]) rfl (.inl FU_) (by omega) Gh IS hx.cx (by simp[T.get_set]) (q s w bw hx hm hmF)
 |succ f ih=>
  intro k n hs bad tm td s w bw hk hf hc1 hc2 hn hT hx hm hmF h0 h6 h7 h8 q
  have hB:=hbs.ext0 hx
  have over:BR l k=false-> ∀r,B6 l k=r-> ∀s4,Ext Any Non (s0.cxN cxN) s4->MkS s4 18 hs.length (AV hs) w bw->Q (.tuple #[w, .int .i64 (k:Nat), .int .i64 (bad:Nat), .int .i64 (r:Nat)]) (s4.cxN s0.cx):=λhno r hr s4 x4 m4=>by
   have e:A4 l (f+1) k hs bad=(hs,bad,k,r):=by
    unfold A4
    rw[hno,hr]
    rfl
   rw[e]at q
   exact q s4 w bw x4 m4 hmF
  refine AM_.u ?_ hT
  simp only[QQ,RR,SS,Di,h0,h7,hB.len Al]
  by_cases hkl:k=l.length
  ·refine aI Nc ?_ rfl (by simp[T.get_set,hkl])
   refine Yj.u ?_
   simp only[RQ,RR,SS,Nat.reduceEqDiff, ↓reduceIte,h6,h7,h8]
   refine aF (rs:=[2,3,4,5]) (vs:=[w, .int .i64 (k:Nat), .int .i64 (bad:Nat), .int .i64 0]) rfl (.inl FU_) (by omega) Gh IS hx.cx (by simp[T.get_set]) ?_
   refine over ?_ 0 (by unfold B6;rw[if_pos hkl]) s hx hm
   unfold BR
   rw[decide_eq_false (by omega)]
   rfl
  refine aH Nc ?_
  refine AhU_.u ?_
  have e1:wrap64 (((l.length:Nat):Int)-((k:Nat):Int))=((l.length-k:Nat):Int):=by
   rw[Ax (by omega) (by omega)];omega
  simp only[V3,RR,SS,Nat.reduceEqDiff,reduceCtorEq, ↓reduceIte,Cq,Ak,h0,h7,hB.len Al,e1]
  by_cases h6k:l.length<k+6
  ·refine aI Fk_ ?_
   refine Tp_.u ?_
   simp only[VO,RR,SS,Nat.reduceEqDiff, ↓reduceIte,h6,h7,h8]
   refine aF (rs:=[2,3,4,5]) (vs:=[w, .int .i64 (k:Nat), .int .i64 (bad:Nat), .int .i64 1]) rfl (.inl Xc_) (by omega) Gh IS hx.cx (by simp[T.get_set]) ?_
   refine over ?_ 1 (by unfold B6;rw[if_neg hkl,if_pos h6k]) s hx hm
   unfold BR
   rw[decide_eq_false (by omega)]
   rfl
  refine aH Fk_ ?_
  refine AjI_.u ?_
  simp only[Gc_,RR,SS,Nat.reduceEqDiff,reduceCtorEq, ↓reduceIte,h0,h7]
  have hok:okAt l ((k:Nat):Int)=Ct l k:=by
   unfold okAt
   rw[decide_eq_true ⟨by omega,by omega⟩,Bool.true_and]
   rfl
  refine WO_ (hx.bnd hb0) hB hby (by omega) (by omega) (λhso s1 x1=> ?_) λhso s1 x1=> ?_
  ·rw[AX (k:=0) rfl,AX (k:=1) rfl]
   rw[hok]at hso
   rw[Int.toNat_natCast]
   obtain⟨g1,g2⟩:=QZ hso
   have y1:=hx.then0 x1 hb0
   have m1:=hm.ext0 x1
   refine Uj.u ?_
   simp only[OD,RR,SS, ↓reduceIte,D5,Bool.not_true]
   refine aH U4 ?_
   refine Aid_.u ?_
   simp only[Zr,RR,SS,Nat.reduceEqDiff,reduceCtorEq, ↓reduceIte,Cq,h0,h7,(hbs.ext0 y1).len Al,e1]
   generalize hN:AE l k=N at *
   refine Md _ (by omega) ?_
   rw[Im g1 g2]
   simp only[Ak]
   by_cases hsh:l.length<k+26+N
   ·refine aI At_ ?_
    refine Tf_.u ?_
    simp only[LM_,RR,SS,Nat.reduceEqDiff, ↓reduceIte,h6,h7,h8]
    refine aF (rs:=[2,3,4,5]) (vs:=[w, .int .i64 (k:Nat), .int .i64 (bad:Nat), .int .i64 1]) rfl (.inl Vy_) (by omega) Gh IS y1.cx (by simp[T.get_set]) ?_
    refine over ?_ 1 (by unfold B6;rw[if_neg hkl,if_neg h6k,hso];rfl) s1 y1 m1
    unfold BR
    rw[hN,decide_eq_false (show ¬k+26+N<=l.length by omega),Bool.and_false]
   refine aH At_ ?_
   have hlen:k+26+N<=l.length:=by omega
   have hrec:BR l k=true:=by
    unfold BR
    rw[hN,hso,decide_eq_true hlen,decide_eq_true (by omega)]
    rfl
   have es:A4 l (f+1) k hs bad=A4 l f (k+26+N) (if Bt l k N then hs++[(Bu l k N,k,N)]else hs) (if Bt l k N then bad else bad+1):=by
    rw[A4,hrec,hN]
    rfl
   rw[es]at q
   refine AgU_.u ?_
   have ek:wrap64 (((k:Nat):Int)+6)=((k+6:Nat):Int):=by
    rw[Ax (by omega) (by omega)];omega
   simp only[Lu_,RR,SS,Nat.reduceEqDiff,reduceCtorEq, ↓reduceIte,Aw,h0,h7,ek]
   refine W.mono (AlX_ (y1.bnd hb0) (hbs.ext0 y1) hby (by omega) g1 g2 hlen (by omega)) ?_
   rintro _ s2 ⟨x,rfl,x2⟩
   rw[AX (k:=0) rfl,AX (k:=1) rfl,AX (k:=2) rfl]
   have y2:=y1.then0 x2 hb0
   have hidl:(u8l (Bu l k N)).length=16:=by rw[Av];exact Ix hlen
   refine W.alloc Ei λs3 n3 x3 o3=> ?_
   have y3:=y2.then0 x3 hb0
   refine W.store BB hidl (Bx _) (λi hi=>(Aa.owned o3) i (by simpa using hi)) λs4 n4 x4 o4=> ?_
   have ns2:s0.next<=s2.next:=y2.nxt
   have y4:=y3.thenW x4 hb0 ns2
   have o4':Aa s4 s2.next 0 (u8l (Bu l k N)):=o4
   have m2:=m1.ext0 x2
   have m4:MkS s4 18 hs.length (AV hs) w bw:=(m2.ext0 x3).ext x4 λy hy h=>by
    have h1:=h.1
    have h2:=m2.lt y hy
    omega
   refine Aeo_.u ?_
   simp only[Gf_,RR,SS, ↓reduceIte]
   have e26:wrap64 (((k:Nat):Int)+((N+26:Nat):Int))=((k+26+N:Nat):Int):=by
    rw[Ax (by omega) (by omega)];omega
   have next: ∀(hs':List Hd) (bad':Nat) (n':Nat) (tm':T Value) (td':List Item) (s5:St) (w5:Value) (b5:Nat),hs'=(if Bt l k N then hs++[(Bu l k N,k,N)]else hs)->bad'=(if Bt l k N then bad else bad+1)->210000+40*f+10<=n'->skim 64 td'=Jo->Ext Any Non (s0.cxN cxN) s5->MkS s5 18 hs'.length (AV hs') w5 b5->(∀y,MkF 18 hs'.length b5 y->s0.next<=y)->
     T.get tm' 0=some v->T.get tm' 6=some w5->T.get tm' 7=some (.int .i64 (k:Nat))->T.get tm' 8=some (.int .i64 (bad':Nat))->T.get tm' 9=some (.int .i64 (N:Nat))->
     W (runF envS n' ⟨25,YZ,BY,tm',td', .run, .normal,none⟩) s5 λp s1=>Q p.1 (s1.cxN s0.cx):=by
    intro hs' bad' n' tm' td' s5 w5 b5 e1' e2' hn' hT' y5 m5 mF5 k0 k6 k7 k8 k9
    refine Ob_.u ?_ hT'
    simp only[Tb,RR,SS,k7,k9]
    refine Md _ (by omega) ?_
    rw[Im g1 g2]
    simp only[Aw,e26]
    rw[<-e1',<-e2']at q
    refine ih (k+26+N) _ hs' bad' _ _ s5 w5 b5 hlen (by omega) (by rw[e2'];split<;>omega) (by rw[e1'];split<;>(try rw[List.length_append,List.length_singleton])<;>omega) (by omega) Zg_ y5 m5 mF5 (by simp[T.get_set,k0]) (by simp[T.get_set,k6]) (by simp[T.get_set]) (by simp[T.get_set,k8]) q
   cases hg:Bt l k N with
   |false=>
    refine aH UH ?_
    refine Uw_.u ?_
    have eb:wrap64 (((bad:Nat):Int)+1)=((bad+1:Nat):Int):=by
     rw[Ax (by omega) (by omega)];simp
    simp only[DJ_,RR,SS,Nat.reduceEqDiff, ↓reduceIte,Aw,h8,eb]
    exact next hs (bad+1) _ _ _ s4 w bw (by rw[hg];rfl) (by rw[hg];rfl) (by omega) Sb_ y4 m4 hmF (by simp[T.get_set,h0]) (by simp[T.get_set,h6]) (by simp[T.get_set,h7]) (by simp[T.get_set]) (by simp[T.get_set])
   |true=>
    refine aI UH ?_
    refine UD_.u ?_
    simp only[Gu_,RR,SS,Nat.reduceEqDiff, ↓reduceIte,h6,h7]
    refine aG BB o4'.row hidl λs5 m5 n5 x5=> ?_
    have y5:=y4.then0 x5 hb0
    rw[UZ_ (Ix hlen) k N]
    refine aK (y5.bnd hb0) (r:=A2 (Bu l k N,k,N)) Ho (by decide) (AU_ (Ix hlen) k N) (Az (by decide)) λs6 n6 x6 o6=> ?_
    have y6:=y5.then0 x6 hb0
    have h18:(A2 (Bu l k N,k,N)).length=18:=E8 (Ix hlen)
    have hsrc:SrcG s6 18 32 false (List.replicate 16 (.int .u8 0)++[.int .i64 0, .int .i64 0]) (.slice (some ⟨s5.next,0,none⟩) 1 1) 1 (A2 (Bu l k N,k,N)) (In s5.next 0 (1*18)):=(Ej o6.row (by rw[h18])).g
    rw[CC]
    refine W.appU (y6.bnd hb0) Gk ((m4.same m5 n5).ext0 x6) hsrc (by decide) (by decide) (by decide) (by omega) (by rw[h18]) (JV _) λs7 w7 b7 hb7 m7 x7=> ?_
    have y7:Ext Any Non (s0.cxN cxN) s7:=y6.trans x7 hb0 (λ_ _ _=>trivial) λy hy h=>absurd hy (Nat.not_lt_of_le (hmF y h))
    have ns6:s0.next<=s6.next:=y6.nxt
    have e7:AV (hs++[(Bu l k N,k,N)])=AV hs++A2 (Bu l k N,k,N):=MM _ _
    refine next (hs++[(Bu l k N,k,N)]) bad _ _ _ s7 w7 b7 (by rw[hg];rfl) (by rw[hg];rfl) (by omega) rfl y7 (by rw[e7,List.length_append];exact m7) (λy hy=>by have:=hy.2.1;omega) (by simp[T.get_set,h0]) (by simp[T.get_set]) (by simp[T.get_set,h7]) (by simp[T.get_set,h8]) (by simp[T.get_set])
  ·rw[AX (k:=0) rfl,AX (k:=1) rfl]
   rw[hok]at hso
   have y1:=hx.then0 x1 hb0
   have m1:=hm.ext0 x1
   refine Uj.u ?_
   simp only[OD,RR,SS, ↓reduceIte,D5,Bool.not_false]
   refine aI U4 ?_
   refine XV_.u ?_
   simp only[Me_,RR,SS,Nat.reduceEqDiff, ↓reduceIte,h6,h7,h8]
   refine aF (rs:=[2,3,4,5]) (vs:=[w, .int .i64 (k:Nat), .int .i64 (bad:Nat), .int .i64 2]) rfl (.inl AcA_) (by omega) Gh IS y1.cx (by simp[T.get_set]) ?_
   refine over ?_ 2 (by unfold B6;rw[if_neg hkl,if_neg h6k,hso];rfl) s1 y1 m1
   unfold BR
   rw[hso,Bool.and_false,Bool.false_and]
theorem AjG_ {n:Nat}{v:Value}{l:List Nat}{s:St}{Q:Value->St->Prop}(hbd:s.lim<=s.next)(hbs:Bs s v l)(hby:Byt l)(hz:l.length<=90000)(hn:220000+40*l.length<=n)
  (q: ∀s1 w b,Ext Any Non s s1->MkS s1 18 (A6 l).1.length (AV (A6 l).1) w b->(∀y,MkF 18 (A6 l).1.length b y->s.next<=y)->Q (.tuple #[w, .int .i64 ((A6 l).2.2.1:Nat), .int .i64 ((A6 l).2.1:Nat), .int .i64 ((A6 l).2.2.2:Nat)]) s1):W (Ab envS (runF envS n) 25 [v]) s Q:=by
 refine Aax_ λtm h0=> ?_
 refine XQ_.u ?_
 simp only[VM,RR,SS]
 refine AdP_.u ?_
 simp only[Tw,RR,SS]
 refine TC_.u ?_
 simp only[HY_,RR,SS]
 refine AdR_ (s0:=s) hbd (hbs.same rfl rfl) hby hz l.length 0 _ [] 0 _ _ _ (.slice none 0 0) 0 (Nat.zero_le _) (by omega) (by omega) (by simp) (by omega) rfl (Ext.refl _) (.inl ⟨rfl,rfl,rfl⟩) (λy hy=>absurd hy.1 (by simp)) (by simp[T.get_set,h0]) (by simp[T.get_set]) (by simp[T.get_set]) (by simp[T.get_set]) λs1 w1 b1 y1 m1 mF=> ?_
 exact q _ w1 b1 y1.cx' (m1.same rfl rfl) mF
theorem MkS.hiF {s:St}{hs:List Hd}{v:Value}{b:Nat}(h:MkS s 18 hs.length (AV hs) v b): ∀x,HiF v x->MkF 18 hs.length b x:=λx hx=>by
 rcases h with⟨rfl,_⟩|⟨h,h0⟩
 ·exact hx.elim
 ·rw[h.val]at hx
  have h1:b+0<=x:=hx.1
  have h2:x<b+0+hs.length*18:=hx.2
  exact⟨h0,h1,by omega⟩
theorem MkS.hw {s:St}{hs:List Hd}{v:Value}{b:Nat}(h:MkS s 18 hs.length (AV hs) v b):HiW s v:=by
 rcases h with⟨rfl,_⟩|⟨h,_⟩
 ·exact .inl rfl
 ·exact .inr ⟨b,0,_,_,h.val,λj hj=>⟨_,h.own j _ (List.getElem?_eq_getElem (by rw[h.len];exact hj))⟩⟩
section
variable {vp vf:Value}{ps:List PkI}{fs:List FdI}{Q:Value×FrameMode->St->Prop}{s0:St}
theorem AeD_ {K:List KeyP}{SC:List Int}(hb0:s0.lim<=s0.next)(hp:PkR s0 vp ps)(hf:FdR s0 vf fs)(hps:ps.length<=1000000)(hzp: ∀p∈ps,p.hs.length<=400000)(hfs:fs.length<=90000)(hzf: ∀f∈fs,f.l.length<=90000)(hcx:s0.cx=cxN)
  (q: ∀s1 os sc vo vs,Ext Any Non s0 s1->PkR s1 vo os->os.map PkI.key=K->IntR s1 vs sc->sc=SC->Q (.tuple #[vo,vs], .run) s1):
  ∀(k i n:Nat) (last:Int) (os:List PkI) (sc:List Int) (vo vs:Value) (bo bs:Nat) (tm:T Value) (s:St) (td:List Item),i+k=fs.length->100*k+10*ps.length+4000000<=n->skim 64 td=JG->Ext Any Non s0 s->MgO s0 s os sc vo vs bo bs->os.length<=i->sc.length<=i->
  os.map PkI.key++(Ay ps last (fs.drop i)).1=K->sc++(Ay ps last (fs.drop i)).2=SC->
  T.get tm 0=some vp->T.get tm 1=some vf->T.get tm 6=some vo->T.get tm 7=some vs->T.get tm 8=some (.int .i64 last)->T.get tm 9=some (.int .i64 (i:Nat))->
  W (runF envS n ⟨56,RP,BT,tm,td, .run, .normal,none⟩) s Q:=by
 intro k
 induction k with
 |zero=>
  intro i n last os sc vo vs bo bs tm s td hi hn hT hx hO ho1 ho2 hK hSC h0 h1 h6 h7 h8 h9
  refine BL_.u ?_ hT
  simp only[Pf,RR,SS,h1,h9]
  rw[hf.len]
  try simp only[Ak]
  refine aH LS_ ?_
  refine AdA_.u ?_
  simp only[An_,RR,SS,Nat.reduceEqDiff, ↓reduceIte,h6,h7]
  refine aF (rs:=[4,5]) (vs:=[vo,vs]) rfl (.inl Pa_) (by omega) ZW Ux_ (hx.cx.trans hcx) (by simp[T.get_set]) ?_
  rw[List.drop_of_length_le (by omega)]at hK hSC
  exact q s os sc vo vs hx hO.rows.1 (by simpa [Ay]using hK) hO.rows.2 (by simpa [Ay]using hSC)
 |succ k ih=>
  intro i n last os sc vo vs bo bs tm s td hi hn hT hx hO ho1 ho2 hK hSC h0 h1 h6 h7 h8 h9
  have hil:i<fs.length:=by omega
  have hb:=hx.bnd hb0
  obtain⟨b,o,c,ev,ga,gB,gby⟩:=(hf.ext0 hx).at hil
  have hzi:=hzf _ (List.getElem_mem hil)
  have hd:fs.drop i=fs[i]::fs.drop (i+1):=(List.getElem_cons_drop ..).symm
  rw[hd]at hK hSC
  generalize hfi:fs[i]=f at *
  have hun:Ay ps last (f::fs.drop (i+1))=if f.num<=last\/999999<f.num then Ay ps last (fs.drop (i+1))else
   match ps.find? (hitP f)with
   |some p=>(p.key::(Ay ps f.num (fs.drop (i+1))).1,(Ay ps f.num (fs.drop (i+1))).2)
   |none=>((f.num,(f.l.length:Int),(A6 f.l).1.map toI)::(Ay ps f.num (fs.drop (i+1))).1,f.num::(Ay ps f.num (fs.drop (i+1))).2):=rfl
  have next: ∀(n':Nat) (last':Int) (os':List PkI) (sc':List Int) (vo' vs':Value) (bo' bs':Nat) (tm':T Value) (s':St) (td':List Item),n<=n'+60->skim 64 td'=J6->Ext Any Non s0 s'->MgO s0 s' os' sc' vo' vs' bo' bs'->os'.length<=i+1->sc'.length<=i+1->
    os'.map PkI.key++(Ay ps last' (fs.drop (i+1))).1=K->sc'++(Ay ps last' (fs.drop (i+1))).2=SC->
    T.get tm' 0=some vp->T.get tm' 1=some vf->T.get tm' 6=some vo'->T.get tm' 7=some vs'->T.get tm' 8=some (.int .i64 last')->T.get tm' 9=some (.int .i64 (i:Nat))->
    W (runF envS n' ⟨56,RP,BT,tm',td', .run, .normal,none⟩) s' Q:=by
   intro n' last' os' sc' vo' vs' bo' bs' tm' s' td' hn' hT' x' hO' l1 l2 e1 e2 g0 g1 g6 g7 g8 g9
   refine Abk_.u ?_ hT'
   have ei:=eiW (i:=i) (by omega)
   simp only[Ze,RR,SS,Aw,g9,ei]
   exact ih (i+1) _ last' os' sc' vo' vs' bo' bs' _ _ _ (by omega) (by omega) AhW_ x' hO' l1 l2 e1 e2 (by simp[T.get_set,g0]) (by simp[T.get_set,g1]) (by simp[T.get_set,g6]) (by simp[T.get_set,g7]) (by simp[T.get_set,g8]) (by simp[T.get_set])
  have lay: ∀(n' D:Nat) (p:PkI) (sc':List Int) (vs':Value) (bs':Nat) (tm':T Value) (s':St) (td':List Item),n<=n'+50->skim 64 td'=J5->Ext Any Non s0 s'->MgO s0 s' os sc' vo vs' bo bs'->sc'.length<=i+1->Row s' D 0 (pkC p)->HiR s' p.v p.hs->HiW s' p.v->(∀h∈p.hs,h.1.length=16)->
    (∀x,HiF p.v x->s0.next<=x/\ ¬MkF 3 os.length bo x/\ ¬MkF 1 sc'.length bs' x)->(∀o∈os,∀x,HiF o.v x-> ¬HiF p.v x)->
    (os.map PkI.key++p.key::(Ay ps f.num (fs.drop (i+1))).1)=K->sc'++(Ay ps f.num (fs.drop (i+1))).2=SC->
    T.get tm' 0=some vp->T.get tm' 1=some vf->T.get tm' 6=some vo->T.get tm' 7=some vs'->T.get tm' 8=some (.int .i64 f.num)->T.get tm' 9=some (.int .i64 (i:Nat))->T.get tm' 11=some (.pointer (some ⟨D,0,none⟩))->
    W (runF envS n' ⟨56,RP,BT,tm',td', .run, .normal,none⟩) s' Q:=by
   intro n' D p sc' vs' bs' tm' s' td' hn' hT' x' hO' l2 hD hh hw h16 hlo hpn e1 e2 g0 g1 g6 g7 g8 g9 g11
   refine Agp_.u ?_ hT'
   simp only[Ub,RR,SS,g6,g11]
   refine aG CZ hD rfl λs14 m14 n14 x14=> ?_
   have xa14:=x'.then0 x14 hb0
   refine Oj (n:=n) (p:=p) hb0 xa14 (hO'.ext0 x14) (hh.ext0 x14) h16 hlo (by omega) (hw.ext0 x14) hpn λs15 v15 b15 xa15 x15 hO15=> ?_
   refine next _ f.num _ _ v15 vs' b15 bs' _ _ _ (by omega) AkD_ xa15 hO15 (by simp;omega) l2 ?_ e2 (by simp[T.get_set,g0]) (by simp[T.get_set,g1]) (by simp[T.get_set]) (by simp[T.get_set,g7]) (by simp[T.get_set,g8]) (by simp[T.get_set,g9])
   rw[List.map_append,List.append_assoc]
   exact e1
  refine BL_.u ?_ hT
  simp only[Pf,RR,SS,h1,h9]
  rw[hf.len]
  try simp only[Ak]
  refine aI LS_ ?_
  refine AkZ_.u ?_
  simp only[Ak_,RR,SS,Nat.reduceEqDiff, ↓reduceIte,h1,ev,h9,AL Dj hil]
  have hfv:oneCell f.v=true:=gB.one
  refine aG Hf ga rfl λs1 m1 n1 x1=> ?_
  refine W.alloc Nm_ λs2 n2 x2 o2=> ?_
  have n2':s2.next=s1.next+3:=n2
  refine W.store Hf (v:= .agg (fdC f).toArray) rfl (by rw[C2];unfold fdC;simp[oneCell]at hfv ⊢;exact hfv) (λj hj=>Aa.owned o2 j (by simpa using hj)) λs3 n3 x3 o3=> ?_
  rw[C2]at o3
  have xs1:Ext Any Non s s1:=x1.any hb
  have xs2:Ext Any Non s s2:=xs1.then0 x2 hb
  have hlt0:s.next<=s1.next:=xs1.nxt
  have xs3:Ext Any Non s s3:=xs2.trans x3 hb (λ_ _ _=>trivial) λy hy h=>by
   have h1:=h.1
   omega
  have xa3:Ext Any Non s0 s3:=hx.then0 xs3 hb0
  have hO3:=hO.ext0 xs3
  have hb3:=xa3.bnd hb0
  have gB3:Bs s3 f.v f.l:=gB.ext0 xs3
  have o3':Aa s3 s1.next 0 (fdC f):=o3
  have f0:Own s3 s1.next (0+0) (.int .i64 f.num):=o3' 0 _ rfl
  have f1:Own s3 s1.next (0+1) f.v:=o3' 1 _ rfl
  have hC0:s0.next<=s1.next:=Nat.le_trans hx.nxt hlt0
  have h03:s0.next<=s3.next:=xa3.nxt
  generalize hC:s1.next=C at *
  refine Agm_.u ?_
  simp only[V0,RR,SS,Nat.reduceEqDiff, ↓reduceIte,Au CV (by decide)]
  refine aB AT f0.at' ?_
  have xa4:=xa3.thenRd hb0 (C+(0+0))
  by_cases c1:f.num<=last
  ·simp only[SS, ↓reduceIte,GA,h8,c1,decide_true]
   rw[hun,if_pos (.inl c1)]at hK hSC
   refine aI Mi ?_
   exact next _ last os sc vo vs bo bs _ _ _ (by omega) rfl xa4 (hO3.ext0 (Ext.rdN (F:=Any) s3 _ λ_=>trivial)) (by omega) (by omega) hK hSC (by simp[T.get_set,h0]) (by simp[T.get_set,h1,ev]) (by simp[T.get_set,h6]) (by simp[T.get_set,h7]) (by simp[T.get_set,h8]) (by simp[T.get_set,h9])
  simp only[SS,reduceCtorEq, ↓reduceIte,GA,h8,c1,decide_false,Au CV (by decide)]
  refine aB AT (f0.same rfl rfl).at' ?_
  have xa5:=xa4.thenRd hb0 (C+(0+0))
  have y5:Ext Any Non s3 ((s3.rdN (C+(0+0))).rdN (C+(0+0))):=((Ext.refl (F:=Any) (G:=Non) s3).thenRd hb3 _).thenRd hb3 _
  try simp only[Cr]
  by_cases c2:999999<f.num
  ·rw[hun,if_pos (.inr c2)]at hK hSC
   refine aI Mi ?_ rfl (by simp[T.get_set];exact c2)
   exact next _ last os sc vo vs bo bs _ _ _ (by omega) rfl xa5 (hO3.ext0 y5) (by omega) (by omega) hK hSC (by simp[T.get_set,h0]) (by simp[T.get_set,h1,ev]) (by simp[T.get_set,h6]) (by simp[T.get_set,h7]) (by simp[T.get_set,h8]) (by simp[T.get_set,h9])
  rw[hun,if_neg (by omega)]at hK hSC
  refine aH Mi ?_
  generalize hs5:((s3.rdN (C+(0+0))).rdN (C+(0+0)))=s5 at *
  refine AhN_.u ?_
  simp only[Vj,RR,SS,Nat.reduceEqDiff, ↓reduceIte,Au CV (by decide)]
  refine aB AT (f0.ext0 y5).at' ?_
  have xa6:=xa5.thenRd hb0 (C+(0+0))
  have y6:Ext Any Non s3 (s5.rdN (C+(0+0))):=y5.thenRd hb3 _
  generalize hs6:s5.rdN (C+(0+0))=s6 at *
  refine Py_.u ?_
  simp only[Nf_,RR,SS,Nat.reduceEqDiff,reduceCtorEq, ↓reduceIte,h0]
  refine aG Hf (λj u e=>((o3' j u e).ext0 y6).at') rfl λs7 m7 n7 x7=> ?_
  have xa7:=xa6.then0 x7 hb0
  have y7:=y6.then0 x7 hb3
  have h37:s3.next<=s7.next:=y7.nxt
  have far: ∀(w:Value),(∀x,HiF w x->s7.next<=x)-> ∀x,HiF w x->s0.next<=x/\ ¬MkF 3 os.length bo x/\ ¬MkF 1 sc.length bs x:=λw hw x hx=>by
   have h1:=hw x hx
   refine⟨by omega,λh=> ?_,λh=> ?_⟩
   ·have:=hO3.mo.lt x h;omega
   ·have:=hO3.ms.lt x h;omega
  have apart: ∀(w:Value),(∀x,HiF w x->s7.next<=x)-> ∀o∈os,∀x,HiF o.v x-> ¬HiF w x:=λw hw o ho x hx hq=>by
   have h1:=hw x hq
   have h2:=(hO3.hs o ho).1.lt (hO3.hs o ho).2.1 x hx
   omega
  refine OX_ (f:=f) (xa7.bnd hb0) (hp.ext0 xa7) hps hzp (gB3.ext0 y7) (by omega) (λs8 x8 hr=> ?_) λs8 p w x8 hr hw hww h16 hwl=> ?_
  ·rw[hr]at hK hSC
   have xa8:=xa7.then0 x8 hb0
   have y8:=y7.then0 x8 hb3
   rw[AX (k:=0) rfl,AX (k:=1) rfl]
   refine W.alloc Jb λs9 n9 x9 o9=> ?_
   have n9':s9.next=s8.next+4:=n9
   refine W.store CZ (v:= .agg (pkC ⟨0,0, .slice none 0 0,[]⟩).toArray) rfl rfl (λj hj=>Aa.owned o9 j (by simpa using hj)) λs10 n10 x10 o10=> ?_
   rw[C2]at o10
   have hD3:s3.next<=s8.next:=y8.nxt
   have hD0:s0.next<=s8.next:=xa8.nxt
   have y10:Ext Any Non s3 s10:=(y8.then0 x9 hb3).thenW x10 hb3 hD3
   have xa10:Ext Any Non s0 s10:=(xa8.then0 x9 hb0).thenW x10 hb0 hD0
   have o10':Aa s10 s8.next 0 (pkC ⟨0,0, .slice none 0 0,[]⟩):=o10
   have h78:s7.next<=s8.next:=x8.nxt
   have hDn:s8.next+4=s10.next:=by omega
   generalize hD:s8.next=D at *
   refine CX_.u ?_
   simp only[QR,RR,SS, ↓reduceIte,D5,Bool.not_false]
   refine aI UK ?_
   refine QI_.u ?_
   simp only[Kz_,RR,SS,Nat.reduceEqDiff, ↓reduceIte,Au DX (by decide)]
   refine aB BW (f1.ext0 y10).at' ?_
   have xa11:=xa10.thenRd hb0 (C+(0+1))
   have y11:=y10.thenRd hb3 (C+(0+1))
   have z11:Ext Any Non s10 (s10.rdN (C+(0+1))):=(Ext.refl (F:=Any) (G:=Non) s10).thenRd (xa10.bnd hb0) _
   have n11:(s10.rdN (C+(0+1))).next=s10.next:=rfl
   generalize hs11:s10.rdN (C+(0+1))=s11 at *
   refine AjG_ (xa11.bnd hb0) (gB3.ext0 y11) gby (by omega) (by omega) λs12 w b12 x12 hw hwF=> ?_
   have xa12:=xa11.then0 x12 hb0
   have y12:=y11.then0 x12 hb3
   have z12:=z11.then0 x12 (xa10.bnd hb0)
   rw[AX (k:=0) rfl,AX (k:=1) rfl,AX (k:=2) rfl,AX (k:=3) rfl]
   have hwl: ∀x,HiF w x->s11.next<=x:=λx hx=>hwF x (hw.hiF x hx)
   have hwi:HiR s12 w ((A6 f.l).1.map toI):=(hw.hsR rfl).toI
   refine Adh_.u ?_
   simp only[WG,RR,SS,Nat.reduceEqDiff, ↓reduceIte,Au CV (by decide)]
   refine aB AT (f0.ext0 y12).at' ?_
   simp only[Au DX (by decide)]
   refine aB BW ((f1.ext0 y12).same rfl rfl).at' ?_
   have y13:=(y12.thenRd hb3 (C+(0+0))).thenRd hb3 (C+(0+1))
   have xa13:=(xa12.thenRd hb0 (C+(0+0))).thenRd hb0 (C+(0+1))
   have w13:Ext Any Non s12 ((s12.rdN (C+(0+0))).rdN (C+(0+1))):=((Ext.refl (F:=Any) (G:=Non) s12).thenRd (xa12.bnd hb0) _).thenRd (xa12.bnd hb0) _
   have z13:=z12.then0 w13 (xa10.bnd hb0)
   generalize hs13:((s12.rdN (C+(0+0))).rdN (C+(0+1)))=s13 at *
   rw[gB3.len' Al]
   obtain⟨wa,wc,ew⟩:=hw.sl
   rw[ew,CA (MG f.num (f.l.length:Nat) wa _ wc),<-ew]
   refine W.store CZ (v:= .agg (pkC ⟨f.num,(f.l.length:Nat),w,(A6 f.l).1.map toI⟩).toArray) rfl (Ir hwi.one) (λj hj=>let ⟨u,hu⟩:=Aa.owned o10' j (by exact hj);⟨u,hu.ext0 z13⟩) λs14 n14 x14 o14=> ?_
   rw[C2]at o14
   have xa14:=xa13.thenW x14 hb0 hD0
   have y14:=y13.thenW x14 hb3 hD3
   have hnD: ∀x,HiF w x-> ¬In D 0 3 x:=λx h1 h2=>by
    have:=hwl x h1
    have:=h2.2
    omega
   have hwi14:HiR s14 w ((A6 f.l).1.map toI):=(hwi.ext0 w13).ext (IR f.l) x14 hnD
   have hww14:HiW s14 w:=(hw.hw.ext0 w13).ext x14 hnD
   have hl14: ∀x,HiF w x->x<s14.next:=hwi14.lt (IR f.l)
   refine Og_.u ?_
   simp only[KB_,RR,SS,Nat.reduceEqDiff, ↓reduceIte,h7,Au CV (by decide)]
   refine aB AT (f0.ext0 y14).at' ?_
   have xa15:=xa14.thenRd hb0 (C+(0+0))
   have y15:=y14.thenRd hb3 (C+(0+0))
   have w15:Ext Any Non s14 (s14.rdN (C+(0+0))):=(Ext.refl (F:=Any) (G:=Non) s14).thenRd (xa14.bnd hb0) _
   have n15:(s14.rdN (C+(0+0))).next=s14.next:=rfl
   generalize hs15:s14.rdN (C+(0+0))=s15 at *
   refine XC (m:=f.num) hb0 xa15 (hO3.ext0 y15) (by omega) λs16 v16 b16 xa16 x16 hb16 hO16=> ?_
   have hfar:=far w λx hx=>by have:=hwl x hx;omega
   have hapart:=apart w λx hx=>by have:=hwl x hx;omega
   have o14':Aa s14 D 0 (pkC ⟨f.num,(f.l.length:Nat),w,(A6 f.l).1.map toI⟩):=o14
   refine lay _ D ⟨f.num,(f.l.length:Nat),w,(A6 f.l).1.map toI⟩ _ v16 b16 _ s16 _ (by omega) SQ_ xa16 hO16 (by simp;omega) (λj u e=>(((o14' j u e).ext0 w15).ext x16 λh=> ?_).at') ((hwi14.ext0 w15).ext (IR f.l) x16 λx h1 h2=>(hfar x h1).2.2 h2) ((hww14.ext0 w15).ext x16 λx h1 h2=>(hfar x h1).2.2 h2) (IR f.l) (λx hx=>⟨(hfar x hx).1,(hfar x hx).2.1,hb16 x (by have:=hl14 x hx;omega)⟩) hapart hK ?_ (by simp[T.get_set,h0]) (by simp[T.get_set,h1,ev]) (by simp[T.get_set,h6]) (by simp[T.get_set]) (by simp[T.get_set]) (by simp[T.get_set,h9]) (by simp[T.get_set])
   ·have:=hO3.ms.lt _ h
    omega
   ·rw[List.append_assoc]
    exact hSC
  ·rw[hr]at hK hSC
   have xa8:=xa7.then0 x8 hb0
   have y8:=y7.then0 x8 hb3
   rw[AX (k:=0) rfl,AX (k:=1) rfl]
   refine W.alloc Jb λs9 n9 x9 o9=> ?_
   refine W.store CZ (v:= .agg (pkC ⟨p.num,p.size,w,p.hs⟩).toArray) rfl (Ir hw.one) (λj hj=>Aa.owned o9 j (by simpa using hj)) λs10 n10 x10 o10=> ?_
   rw[C2]at o10
   have hl8: ∀x,HiF w x->x<s8.next:=hw.lt h16
   have hnD: ∀x,HiF w x-> ¬In s8.next 0 3 x:=λx h1 h2=>by
    have:=hl8 x h1
    have:=h2.1
    omega
   have hD3:s3.next<=s8.next:=y8.nxt
   have hD0:s0.next<=s8.next:=xa8.nxt
   have y10:Ext Any Non s3 s10:=(y8.then0 x9 hb3).thenW x10 hb3 hD3
   have xa10:Ext Any Non s0 s10:=(xa8.then0 x9 hb0).thenW x10 hb0 hD0
   have o10':Aa s10 s8.next 0 (pkC ⟨p.num,p.size,w,p.hs⟩):=o10
   refine CX_.u ?_
   simp only[QR,RR,SS, ↓reduceIte,D5,Bool.not_true]
   refine aH UK ?_
   exact lay _ s8.next ⟨p.num,p.size,w,p.hs⟩ sc vs bs _ s10 _ (by omega) rfl xa10 (hO3.ext0 y10) (by omega) o10'.row ((hw.ext0 x9).ext h16 x10 hnD) ((hww.ext0 x9).ext x10 hnD) h16 (far w hwl) (apart w hwl) hK hSC (by simp[T.get_set,h0]) (by simp[T.get_set,h1,ev]) (by simp[T.get_set,h6]) (by simp[T.get_set,h7]) (by simp[T.get_set]) (by simp[T.get_set,h9]) (by simp[T.get_set])
theorem AbB_ {n:Nat}{s:St}{Q:Value->St->Prop}(hb:s.lim<=s.next)(hp:PkR s vp ps)(hf:FdR s vf fs)(hps:ps.length<=1000000)(hzp: ∀p∈ps,p.hs.length<=400000)(hfs:fs.length<=90000)(hzf: ∀f∈fs,f.l.length<=90000)(hn:30000000<=n)
  (q: ∀s1 os sc vo vs,Ext Any Non s s1->PkR s1 vo os->os.map PkI.key=(Ay ps 0 fs).1->IntR s1 vs sc->sc=(Ay ps 0 fs).2->Q (.tuple #[vo,vs]) s1):
  W (Ab envS (runF envS n) 56 [vp,vf]) s Q:=by
 refine Uo_ λtm h0 h1=> ?_
 have hf':FdR (s.cxN cxN) vf fs:=hf.same rfl rfl
 refine On_.u ?_
 simp only[Lt_,RR,SS]
 refine Agx_.u ?_
 simp only[Et_,RR,SS]
 refine Ake_.u ?_
 simp only[TX,RR,SS]
 refine Amc_.u ?_
 simp only[Hy_,RR,SS]
 refine Acl_.u ?_
 simp only[Zv,RR,SS]
 exact AeD_ (s0:=s.cxN cxN) (K:=(Ay ps 0 fs).1) (SC:=(Ay ps 0 fs).2) hb (hp.same rfl rfl) hf' hps hzp hfs hzf rfl (λs1 os sc vo vs x1 g1 g2 g3 g4=>q _ os sc vo vs x1.cx' (g1.same rfl rfl) g2 (g3.same rfl rfl) g4) fs.length 0 _ 0 [] [] _ _ s.next s.next _ _ _ (by omega) (by omega) rfl (Ext.refl _)
  ⟨.inl ⟨rfl,rfl,rfl⟩, .inl ⟨rfl,rfl,rfl⟩,Nat.le_refl _,Nat.le_refl _,λx h=>absurd h.1 (Nat.lt_irrefl 0),(λo ho=>by cases ho),(λo ho=>by cases ho), .nil⟩ (by simp) (by simp) (by simp) (by simp) (by simp[T.get_set,h0]) (by simp[T.get_set,h1]) (by simp[T.get_set]) (by simp[T.get_set]) (by simp[T.get_set]) (by simp[T.get_set])
end
structure KeyOk (fs:List FdI)(k:KeyP):Prop where
 of: ∃f∈fs,k=(f.num,(f.l.length:Int),(A6 f.l).1.map toI)
 hi:k.1<=999999
theorem T7: ∀(hs:List Hd) (e:Nat),chainB e hs->e+hs.length<=endB e hs
 |[],_,_=>Nat.le_refl _
 |h::hs,e,hc=>by
  have:=T7 hs _ hc.2
  have h1:=hc.1
  show e+(hs.length+1)<=endB (h.2.1+26+h.2.2) hs
  omega
theorem UP_ (l:List Nat):(A6 l).1.length<=l.length:=by
 obtain⟨h1,h2,_,h4,_⟩:=MX l
 have:=T7 _ 0 h1
 omega
def totF (fs:List FdI):Nat:=(fs.map λf=>f.l.length).sum
theorem Yp_ {fs:List FdI}{f:FdI}(h:f∈fs):f.l.length<=totF fs:=by
 induction fs with
 |nil=>cases h
 |cons g fs ih=>
  unfold totF at ih ⊢
  rw[List.map_cons,List.sum_cons]
  rcases List.mem_cons.1 h with rfl|h
  ·omega
  ·have:=ih h
   omega
def bigF (fs:List FdI):Bool:=decide (30<fs.length)||decide (6000<totF (fs.take 31))
theorem Aak_ {fs:List FdI}{i:Nat}(hi:i<fs.length):totF (fs.take (i+1))=totF (fs.take i)+fs[i].l.length:=by
 unfold totF
 rw[List.take_succ_eq_append_getElem hi,List.map_append,List.sum_append]
 simp
theorem WW_ {fs:List FdI}{N:Nat}(h: ∀f∈fs,f.l.length<=N):totF fs<=fs.length*N:=by
 induction fs with
 |nil=>simp[totF]
 |cons f fs ih=>
  have h1:=ih λg hg=>h g (by simp[hg])
  have h2:=h f (by simp)
  unfold totF at h1 ⊢
  rw[List.map_cons,List.sum_cons,List.length_cons,Nat.succ_mul]
  omega
section
variable {vf:Value}{fs:List FdI}{Q:Value×FrameMode->St->Prop}{s0:St}
theorem AlT_ (hb0:s0.lim<=s0.next)(hf:FdR s0 vf fs)(hfs:fs.length<=9223372036854775807)(hzf: ∀f∈fs,f.l.length<=1048576)(hcx:s0.cx=cxN)(q: ∀s1,Ext Any Non s0 s1->Q (.bool (bigF fs), .run) s1):
  ∀(k i n:Nat) (tm:T Value) (s:St) (td:List Item),i+k=min fs.length 31->10*k+20<=n->skim 64 td=Ja->Ext Any Non s0 s->
  T.get tm 0=some vf->T.get tm 3=some (.int .i64 (totF (fs.take i):Nat))->T.get tm 4=some (.int .i64 (i:Nat))->
  W (runF envS n ⟨54,Eg_,DZ,tm,td, .run, .normal,none⟩) s Q:=by
 have tail: ∀(n':Nat) (tm:T Value) (s:St) (td:List Item),10<=n'->skim 64 td=Na->Ext Any Non s0 s->T.get tm 0=some vf->T.get tm 3=some (.int .i64 (totF (fs.take 31):Nat))->W (runF envS n' ⟨54,Eg_,DZ,tm,td, .run, .normal,none⟩) s Q:=by
  intro n' tm s td hn hT hx h0 h3
  refine Acz_.u ?_ hT
  simp only[Jt_,RR,SS,h0]
  rw[hf.len]
  try simp only[Cs,E1,CO,Cr]
  by_cases c1:30<fs.length
  ·have e1:decide ((30:Int)<((fs.length:Nat):Int))=true:=decide_eq_true (by omega)
   simp only[e1,AK,EN,Dr, ↓reduceIte]
   refine aF (rs:=[2]) (vs:=[.bool true]) rfl (.inl Dc_) (by omega) PN Bf_ (hx.cx.trans hcx) (by simp[T.get_set]) ?_
   have:=q s hx
   unfold bigF at this
   rw[decide_eq_true c1,Bool.true_or]at this
   exact this
  ·have e1:decide ((30:Int)<((fs.length:Nat):Int))=false:=decide_eq_false (by omega)
   have e2:decide ((6000:Int)<((totF (fs.take 31):Nat):Int))=decide (6000<totF (fs.take 31)):=by
    by_cases h:6000<totF (fs.take 31)
    ·rw[decide_eq_true h,decide_eq_true (by omega)]
    ·rw[decide_eq_false h,decide_eq_false (by omega)]
   simp only[SS,e1,reduceCtorEq, ↓reduceIte,Cr,h3,e2]
   refine aF (rs:=[2]) (vs:=[.bool (decide (6000<totF (fs.take 31)))]) rfl (.inl Dc_) (by omega) PN Bf_ (hx.cx.trans hcx) (by simp[T.get_set]) ?_
   have:=q s hx
   unfold bigF at this
   rw[decide_eq_false c1,Bool.false_or]at this
   exact this
 intro k
 induction k with
 |zero=>
  intro i n tm s td hi hn hT hx h0 h3 h4
  have ht:fs.take i=fs.take 31:=by
   rcases Nat.lt_or_ge 31 fs.length with h|h
   ·rw[show i=31 by omega]
   ·rw[List.take_of_length_le (show fs.length<=i by omega),List.take_of_length_le h]
  rw[ht]at h3
  refine Up.u ?_ hT
  simp only[Nn,RR,SS,h0,h4]
  rw[hf.len]
  try simp only[Cs,E1,CO,Ak]
  by_cases c1:i<fs.length
  ·have e1:decide (((i:Nat):Int)<((fs.length:Nat):Int))=true:=decide_eq_true (by omega)
   simp only[SS,e1, ↓reduceIte,Ak]
   refine aH O4 ?_
   exact tail _ _ s _ (by omega) rfl hx (by simp[T.get_set,h0]) (by simp[T.get_set,h3])
  ·have e1:decide (((i:Nat):Int)<((fs.length:Nat):Int))=false:=decide_eq_false (by omega)
   simp only[e1,AK,Fj,Dr,reduceCtorEq, ↓reduceIte]
   refine aH O4 ?_
   exact tail _ _ s _ (by omega) rfl hx (by simp[T.get_set,h0]) (by simp[T.get_set,h3])
 |succ k ih=>
  intro i n tm s td hi hn hT hx h0 h3 h4
  have hil:i<fs.length:=by omega
  obtain⟨b,o,c,ev,ga,gB,_⟩:=(hf.ext0 hx).at hil
  have e1:decide (((i:Nat):Int)<((fs.length:Nat):Int))=true:=decide_eq_true (by omega)
  have hzi:=hzf _ (List.getElem_mem hil)
  have htb:=WW_ (fs:=fs.take i) (N:=1048576) λf hf'=>hzf f (List.mem_of_mem_take hf')
  have hti:(fs.take i).length<=31:=by rw[List.length_take];omega
  have hm:(fs.take i).length*1048576<=31*1048576:=Nat.mul_le_mul_right _ hti
  refine Up.u ?_ hT
  simp only[Nn,RR,SS,h0,h4]
  rw[hf.len]
  simp only[SS, ↓reduceIte,Ak,e1]
  refine aI O4 ?_
  refine Ahk_.u ?_
  simp only[ZT,RR,SS,Nat.reduceEqDiff,reduceCtorEq, ↓reduceIte,h0,ev,h3,h4,AL Dj hil,Au DX (by decide)]
  refine aB BW (ga 1 _ rfl) ?_
  have x1:=hx.thenRd hb0 (b+(o+i*2+1))
  rw[gB.len' Al]
  have es:wrap64 ((totF (fs.take i):Nat)+(fs[i].l.length:Nat):Int)=((totF (fs.take (i+1)):Nat):Int):=by
   rw[Ax (by omega) (by omega),Aak_ hil];omega
  simp only[Aw,es]
  refine QN_.u ?_
  have ei:=eiW (i:=i) (by omega)
  simp only[IE_,RR,SS,Nat.reduceEqDiff, ↓reduceIte,Aw,h4,ei]
  exact ih (i+1) _ _ _ _ (by omega) (by omega) AjX_ x1 (by simp[T.get_set,h0,ev]) (by simp[T.get_set]) (by simp[T.get_set])
theorem VQ_ {n:Nat}{s:St}{Q:Value->St->Prop}(hb:s.lim<=s.next)(hf:FdR s vf fs)(hfs:fs.length<=9223372036854775807)(hzf: ∀f∈fs,f.l.length<=1048576)(hn:1000<=n)(q: ∀s1,Ext Any Non s s1->Q (.bool (bigF fs)) s1):W (Ab envS (runF envS n) 54 [vf]) s Q:=by
 refine Om_ λtm h0=> ?_
 refine AkC_.u ?_
 simp only[WX,RR,SS]
 refine Xi_.u ?_
 simp only[Du_,RR,SS]
 refine Afk_.u ?_
 simp only[W7,RR,SS]
 exact AlT_ (s0:=s.cxN cxN) hb (hf.same rfl rfl) hfs hzf rfl (λs1 x1=>q _ x1.cx') (min fs.length 31) 0 _ _ _ _ (by omega) (by omega) rfl (Ext.refl _) (by simp[T.get_set,h0]) (by simp[T.get_set];rfl) (by simp[T.get_set])
theorem Ado_ (h:bigF fs=false):fs.length<=30/\totF fs<=6000:=by
 unfold bigF at h
 rw[Bool.or_eq_false_iff,decide_eq_false_iff_not,decide_eq_false_iff_not]at h
 have h1:fs.length<=30:=by omega
 rw[List.take_of_length_le (by omega)]at h
 exact⟨h1,by omega⟩
end
section
variable {vf vx vs w:Value}{fs:List FdI}{xs:List PkI}{sc:List Int}{Q:Value×FrameMode->St->Prop}{s0:St}
end
theorem Qd:envS.orc.get 35=some (ND (.bool true)):=by kernel_rfl
theorem AkB_:elT envS 75=some (2,32,[.int .i64 0, .slice none 0 0]):=by kernel_rfl
theorem Aep_:appT envS 75 75=some (2,32,false,[.int .i64 0, .slice none 0 0]):=by kernel_rfl
theorem Zv_ {f:FdI}(h:oneCell f.v=true):(fdC f).all oneCell=true:=by
 unfold fdC
 simp[oneCell]at h ⊢
 exact h
theorem MkS.fd {s:St}{rs:List FdI}{vr:Value}{br:Nat}(mk:MkS s 2 rs.length (fdCs rs) vr br)(hB: ∀f∈rs,Bs s f.v f.l)(hby: ∀f∈rs,Byt f.l):FdR s vr rs:=by
 refine⟨?_,hB,hby⟩
 rcases mk with⟨rfl,h0,_⟩|⟨hm,_⟩
 ·exact .inl ⟨rfl,List.eq_nil_of_length_eq_zero h0⟩
 ·exact .inr ⟨br,0,_,hm.val,hm.own.row⟩
section
variable {vf vx:Value}{fs:List FdI}{xs:List PkI}{Q:Value×FrameMode->St->Prop}{s0:St}
