import Derived.Test.YtofanlcjeohcjaaIMg20
noncomputable section
namespace Go.Proofs.Ytofanlcjeohcjaa.Am
open Go.RowKit
def hitB (l:List Nat)(h:Hd):Bool:=Bt l h.2.1 h.2.2&&decide (Bu l h.2.1 h.2.2=h.1)
structure Good (l:List Nat)(h:Hd):Prop where
 ok:BR l h.2.1=true
 sz:AE l h.2.1=h.2.2
 good:Bt l h.2.1 h.2.2=true
 id:Bu l h.2.1 h.2.2=h.1
def chainB (e:Nat):List Hd->Prop
 |[]=>True
 |h::t=>e<=h.2.1/\chainB (h.2.1+26+h.2.2) t
def endB (e:Nat):List Hd->Nat
 |[]=>e
 |h::t=>endB (h.2.1+26+h.2.2) t
theorem Abh_ {e e':Nat}(h:e'<=e): ∀{t:List Hd},chainB e t->chainB e' t
 |[],_=>trivial
 |_::_,⟨h1,h2⟩=>⟨by omega,h2⟩
theorem AlJ_ {e e':Nat}(h:e'<=e): ∀(t:List Hd),endB e' t<=endB e t
 |[]=>h
 |_::_=>Nat.le_refl _
theorem IR_ {l:List Nat}{k:Nat}:B6 l k=0↔k=l.length:=by
 unfold B6
 constructor
 ·intro h
  split at h
  ·assumption
  ·split at h
   ·omega
   ·split at h<;>omega
 ·intro h
  rw[if_pos h]
theorem PO {l:List Nat}: ∀(f k:Nat) (hs:List Hd) (bad:Nat),k<=l.length-> ∃new,(A4 l f k hs bad).1=hs++new/\chainB k new/\endB k new<=(A4 l f k hs bad).2.2.1/\(∀h∈new,Good l h)/\(A4 l f k hs bad).2.2.1<=l.length/\((A4 l f k hs bad).2.2.2=0↔(A4 l f k hs bad).2.2.1=l.length)/\(A4 l f k hs bad).2.2.2<=2
 |0,k,hs,bad,hk=>⟨[],by simp[A4],trivial,Nat.le_refl _,λ_ h=>by simp at h,hk,IR_,YF l k⟩
 |f+1,k,hs,bad,hk=>by
  unfold A4
  cases hr:BR l k with
  |false=>exact⟨[],by simp,trivial,Nat.le_refl _,λ_ h=>by simp at h,hk,IR_,YF l k⟩
  |true=>
   have hlen:k+26+AE l k<=l.length:=by
    unfold BR at hr
    rw[Bool.and_eq_true]at hr
    exact of_decide_eq_true hr.2
   simp -implicitDefEqProofs only[reduceIte]
   cases hg:Bt l k (AE l k)with
   |false=>
    simp -implicitDefEqProofs only[Bool.false_eq_true,reduceIte]
    obtain⟨new,e1,e2,e3,e4,e5,e6,e7⟩:=PO f (k+26+AE l k) hs (bad+1) hlen
    exact⟨new,e1,Abh_ (by omega) e2,Nat.le_trans (AlJ_ (by omega) new) e3,e4,e5,e6,e7⟩
   |true=>
    simp -implicitDefEqProofs only[reduceIte]
    obtain⟨new,e1,e2,e3,e4,e5,e6,e7⟩:=PO f (k+26+AE l k) (hs++[(Bu l k (AE l k),k,AE l k)]) bad hlen
    refine⟨(Bu l k (AE l k),k,AE l k)::new,by rw[e1,List.append_assoc];rfl,⟨Nat.le_refl _,e2⟩,e3,λh hh=> ?_,e5,e6,e7⟩
    rcases List.mem_cons.1 hh with rfl|hh
    ·exact⟨hr,rfl,hg,rfl⟩
    ·exact e4 h hh
theorem MX (l:List Nat):chainB 0 (A6 l).1/\endB 0 (A6 l).1<=(A6 l).2.2.1/\(∀h∈(A6 l).1,Good l h)/\(A6 l).2.2.1<=l.length/\((A6 l).2.2.2=0↔(A6 l).2.2.1=l.length)/\(A6 l).2.2.2<=2:=by
 obtain⟨new,e1,e2,e3,e4,e5,e6,e7⟩:=PO (l:=l) l.length 0 [] 0 (Nat.zero_le _)
 rw[List.nil_append]at e1
 have:(A6 l).1=new:=e1
 rw[this]
 exact⟨e2,e3,e4,e5,e6,e7⟩
theorem Good.facts {l:List Nat}{h:Hd}(g:Good l h):LV_ l h=false/\hitB l h=true/\h.2.1+26+h.2.2<=l.length/\1<=h.2.2/\h.2.2<=1024/\h.1.length=16/\idB (BM l h.2.1 h.2.2)=h.1:=by
 have hr:=g.ok
 unfold BR at hr
 rw[Bool.and_eq_true,Bool.and_eq_true,decide_eq_true_eq,decide_eq_true_eq,g.sz]at hr
 obtain⟨⟨h1,h2⟩,h3⟩:=hr
 obtain⟨g1,g2⟩:=QZ h2
 rw[g.sz]at g1 g2
 have h4:h.1.length=16:=by rw[<-g.id];exact Ix h3
 have hg:=g.good
 unfold Bt at hg
 rw[Bool.and_eq_true,decide_eq_true_eq,decide_eq_true_eq]at hg
 have hid:=g.id
 unfold Bu at hid
 rw[if_pos hg.1]at hid
 refine⟨?_, ?_,h3,g1,g2,h4,by rw[hg.2,hid]⟩
 ·unfold LV_ GP
  rw[if_pos h1]
  simp[h2,g.sz,h3]
 ·unfold hitB
  rw[g.good,g.id]
  simp
theorem MG (x y:Int)(a:Option Addr)(n c:Nat):Cv envS 85 [(0, .int .i64 x),(1, .int .i64 y),(2, .slice a n c)]=some [.int .i64 x, .int .i64 y, .slice a n c]:=by kernel_rfl
theorem HiR.slice {s:St}{v:Value}{hs:List HdI}(h:HiR s v hs): ∃a n c,v= .slice a n c:=by
 rcases h with⟨rfl,_⟩|⟨b,o,c,rfl,_⟩
 ·exact⟨_,_,_,rfl⟩
 ·exact⟨_,_,_,rfl⟩
theorem IR (l:List Nat): ∀h∈(A6 l).1.map toI,h.1.length=16:=λh hh=>by
 obtain⟨g,hg,rfl⟩:=List.mem_map.1 hh
 exact((MX l).2.2.1 g hg).facts.2.2.2.2.2.1
theorem Es.hi {s s':St}{v:Value}{hs:List Hd}(h:Es s s' v hs):HiR s' v (hs.map toI)/\ ∀x,HiF v x->s.next<=x:=by
 rcases h with⟨rfl,rfl⟩|⟨b,hb,hm,_⟩
 ·exact⟨.inl ⟨rfl,rfl⟩,λx hx=>hx.elim⟩
 ·have hr:HsR s' v hs:= .inr ⟨b,0,_,hm.val,hm.own.row⟩
  refine⟨hr.toI,λx hx=> ?_⟩
  rw[hm.val]at hx
  have h1:b+0<=x:=hx.1
  omega
theorem MgO.rows {s0 s:St}{os:List PkI}{sc:List Int}{vo vs:Value}{bo bs:Nat}(h:MgO s0 s os sc vo vs bo bs):PkR s vo os/\IntR s vs sc:=by
 refine⟨⟨?_,λp hp=>(h.hs p hp).1,λp hp=>(h.hs p hp).2.1⟩, ?_⟩
 ·rcases h.mo with⟨rfl,h0,_⟩|⟨hm,_⟩
  ·exact .inl ⟨rfl,List.eq_nil_of_length_eq_zero h0⟩
  ·exact .inr ⟨bo,0,_,hm.val,hm.own.row⟩
 ·rcases h.ms with⟨rfl,h0,_⟩|⟨hm,_⟩
  ·exact .inl ⟨rfl,List.eq_nil_of_length_eq_zero h0⟩
  ·exact .inr ⟨bs,0,_,hm.val,hm.own.row⟩
section
variable {vp vf:Value}{ps:List PkI}{fs:List FdI}{Q:Value×FrameMode->St->Prop}{s0:St}
theorem Oi_ {K:List KeyP}{SC:List Int}(hb0:s0.lim<=s0.next)(hp:PkR s0 vp ps)(hf:FdR s0 vf fs)(hps:ps.length<=1000000)(hzp: ∀p∈ps,p.hs.length<=400000)(hfs:fs.length<=90000)(hzf: ∀f∈fs,f.l.length<=200000)(hcx:s0.cx=cxN)
  (q: ∀s1 os sc vo vs bo,Ext Any Non s0 s1->PkR s1 vo os->os.map PkI.key=K->IntR s1 vs sc->sc=SC->PkW s0.next s1 os vo bo->Q (.tuple #[vo,vs], .run) s1):
  ∀(k i n:Nat) (last:Int) (os:List PkI) (sc:List Int) (vo vs:Value) (bo bs:Nat) (tm:T Value) (s:St) (td:List Item),i+k=fs.length->100*k+10*ps.length+13000000<=n->skim 64 td=L7->Ext Any Non s0 s->MgO s0 s os sc vo vs bo bs->os.length<=i->sc.length<=i->
  os.map PkI.key++(Ay ps last (fs.drop i)).1=K->sc++(Ay ps last (fs.drop i)).2=SC->
  T.get tm 0=some vp->T.get tm 6=some vo->T.get tm 7=some vs->T.get tm 8=some (.int .i64 last)->T.get tm 17=some vf->T.get tm 18=some (.int .i64 (fs.length:Nat))->T.get tm 19=some (.int .i64 (i:Nat))->
  W (runF envS n ⟨55,ZR,BL,tm,td, .run, .normal,none⟩) s Q:=by
 intro k
 induction k with
 |zero=>
  intro i n last os sc vo vs bo bs tm s td hi hn hT hx hO ho1 ho2 hK hSC h0 h6 h7 h8 h17 h18 h19
  refine Ux.u ?_ hT
  simp only[Qq,RR,SS,Ak,h18,h19]
  refine aH HK_ ?_
  refine RT_.u ?_
  simp only[Zq,RR,SS,Nat.reduceEqDiff, ↓reduceIte,h6,h7]
  refine aF (rs:=[4,5]) (vs:=[vo,vs]) rfl (.inl Sd_) (by omega) TD AaQ_ (hx.cx.trans hcx) (by simp[T.get_set]) ?_
  rw[List.drop_of_length_le (by omega)]at hK hSC
  exact q s os sc vo vs bo hx hO.rows.1 (by simpa [Ay]using hK) hO.rows.2 (by simpa [Ay]using hSC) hO.pw
 |succ k ih=>
  intro i n last os sc vo vs bo bs tm s td hi hn hT hx hO ho1 ho2 hK hSC h0 h6 h7 h8 h17 h18 h19
  have hil:i<fs.length:=by omega
  have hb:=hx.bnd hb0
  obtain⟨b,o,c,ev,ga,gB,gby⟩:=(hf.ext0 hx).at hil
  have hzi:=hzf _ (List.getElem_mem hil)
  have hd:fs.drop i=fs[i]::fs.drop (i+1):=(List.getElem_cons_drop ..).symm
  rw[hd]at hK hSC
  generalize hfi:fs[i]=f at *
  have hun:Ay ps last (f::fs.drop (i+1))=if f.num<=last\/999999<f.num then Ay ps last (fs.drop (i+1))else
   match ps.find? (hitP f)with
   |some p=>(p.key::(Ay ps f.num (fs.drop (i+1))).1,(Ay ps f.num (fs.drop (i+1))).2)
   |none=>((f.num,(f.l.length:Int),(A6 f.l).1.map toI)::(Ay ps f.num (fs.drop (i+1))).1,f.num::(Ay ps f.num (fs.drop (i+1))).2):=rfl
  have next: ∀(n':Nat) (last':Int) (os':List PkI) (sc':List Int) (vo' vs':Value) (bo' bs':Nat) (tm':T Value) (s':St) (td':List Item),n<=n'+60->skim 64 td'=It->Ext Any Non s0 s'->MgO s0 s' os' sc' vo' vs' bo' bs'->os'.length<=i+1->sc'.length<=i+1->
    os'.map PkI.key++(Ay ps last' (fs.drop (i+1))).1=K->sc'++(Ay ps last' (fs.drop (i+1))).2=SC->
    T.get tm' 0=some vp->T.get tm' 6=some vo'->T.get tm' 7=some vs'->T.get tm' 8=some (.int .i64 last')->T.get tm' 17=some vf->T.get tm' 18=some (.int .i64 (fs.length:Nat))->T.get tm' 19=some (.int .i64 (i:Nat))->
    W (runF envS n' ⟨55,ZR,BL,tm',td', .run, .normal,none⟩) s' Q:=by
   intro n' last' os' sc' vo' vs' bo' bs' tm' s' td' hn' hT' x' hO' l1 l2 e1 e2 g0 g6 g7 g8 g17 g18 g19
   refine Vz_.u ?_ hT'
   have ei:=eiW (i:=i) (by omega)
   simp only[Hk_,RR,SS,Aw,g19,ei]
   exact ih (i+1) _ last' os' sc' vo' vs' bo' bs' _ _ _ (by omega) (by omega) Zc_ x' hO' l1 l2 e1 e2 (by simp[T.get_set,g0]) (by simp[T.get_set,g6]) (by simp[T.get_set,g7]) (by simp[T.get_set,g8]) (by simp[T.get_set,g17]) (by simp[T.get_set,g18]) (by simp[T.get_set])
  refine Ux.u ?_ hT
  simp only[Qq,RR,SS,Ak,h18,h19]
  refine aI HK_ ?_
  refine QH_.u ?_
  simp only[LL_,RR,SS,Nat.reduceEqDiff, ↓reduceIte,h17,ev,h19,AL Dj hil]
  have hfv:oneCell f.v=true:=by
   rcases gB with⟨e,_⟩|⟨b',o',c',e,_⟩<;>rw[e]<;>rfl
  refine aG Hf ga rfl λs1 m1 n1 x1=> ?_
  refine W.alloc Nm_ λs2 n2 x2 o2=> ?_
  have n2':s2.next=s1.next+3:=n2
  refine W.store Hf (v:= .agg (fdC f).toArray) rfl (by rw[C2];unfold fdC;simp[oneCell]at hfv ⊢;exact hfv) (λj hj=>Aa.owned o2 j (by simpa using hj)) λs3 n3 x3 o3=> ?_
  rw[C2]at o3
  have xs1:Ext Any Non s s1:=x1.any hb
  have xs2:Ext Any Non s s2:=xs1.then0 x2 hb
  have hlt0:s.next<=s1.next:=xs1.nxt
  have xs3:Ext Any Non s s3:=xs2.trans x3 hb (λ_ _ _=>trivial) λy hy h=>by
   have h1:=h.1
   omega
  have xa3:Ext Any Non s0 s3:=hx.then0 xs3 hb0
  have hO3:=hO.ext0 xs3
  have hb3:=xa3.bnd hb0
  have gB3:Bs s3 f.v f.l:=gB.ext0 xs3
  have o3':Aa s3 s1.next 0 (fdC f):=o3
  have f0:Own s3 s1.next (0+0) (.int .i64 f.num):=o3' 0 _ rfl
  have f1:Own s3 s1.next (0+1) f.v:=o3' 1 _ rfl
  have hCn:s1.next+3=s3.next:=by omega
  have hC0:s0.next<=s1.next:=Nat.le_trans hx.nxt hlt0
  generalize hC:s1.next=C at *
  refine Abw_.u ?_
  simp only[BF_,RR,SS,Nat.reduceEqDiff, ↓reduceIte,Au CV (by decide)]
  refine aB AT f0.at' ?_
  have xa4:=xa3.thenRd hb0 (C+(0+0))
  by_cases c1:f.num<=last
  ·simp only[SS, ↓reduceIte,GA,h8,c1,decide_true]
   rw[hun,if_pos (.inl c1)]at hK hSC
   refine aI MP ?_
   exact next _ last os sc vo vs bo bs _ _ _ (by omega) rfl xa4 (hO3.ext0 (Ext.rdN (F:=Any) s3 _ λ_=>trivial)) (by omega) (by omega) hK hSC (by simp[T.get_set,h0]) (by simp[T.get_set,h6]) (by simp[T.get_set,h7]) (by simp[T.get_set,h8]) (by simp[T.get_set,h17,ev]) (by simp[T.get_set,h18]) (by simp[T.get_set,h19])
  simp only[SS,reduceCtorEq, ↓reduceIte,GA,h8,c1,decide_false,Au CV (by decide)]
  refine aB AT (f0.same rfl rfl).at' ?_
  have xa5:=xa4.thenRd hb0 (C+(0+0))
  have y5:Ext Any Non s3 ((s3.rdN (C+(0+0))).rdN (C+(0+0))):=((Ext.refl (F:=Any) (G:=Non) s3).thenRd hb3 _).thenRd hb3 _
  try simp only[Cr]
  by_cases c2:999999<f.num
  ·rw[hun,if_pos (.inr c2)]at hK hSC
   refine aI MP ?_ rfl (by simp[T.get_set];exact c2)
   exact next _ last os sc vo vs bo bs _ _ _ (by omega) rfl xa5 (hO3.ext0 y5) (by omega) (by omega) hK hSC (by simp[T.get_set,h0]) (by simp[T.get_set,h6]) (by simp[T.get_set,h7]) (by simp[T.get_set,h8]) (by simp[T.get_set,h17,ev]) (by simp[T.get_set,h18]) (by simp[T.get_set,h19])
  rw[hun,if_neg (by omega)]at hK hSC
  refine aH MP ?_
  generalize hs5:((s3.rdN (C+(0+0))).rdN (C+(0+0)))=s5 at *
  have f0a:Own s5 C (0+0) (.int .i64 f.num):=f0.ext0 y5
  have f1a:Own s5 C (0+1) f.v:=f1.ext0 y5
  have gB5:=gB3.ext0 y5
  refine Xb_.u ?_
  simp only[Lh_,RR,SS,Nat.reduceEqDiff, ↓reduceIte,Au CV (by decide)]
  refine aB AT f0a.at' ?_
  have xa6:=xa5.thenRd hb0 (C+(0+0))
  have y6:Ext Any Non s3 (s5.rdN (C+(0+0))):=y5.thenRd hb3 _
  generalize hs6:s5.rdN (C+(0+0))=s6 at *
  refine Yg_.u ?_
  simp only[UZ,RR,SS,Nat.reduceEqDiff,reduceCtorEq, ↓reduceIte,h0]
  refine Akd_ (f:=f) (xa6.bnd hb0) (hp.ext0 xa6) (by omega) (λj u e=>((o3' j u e).ext0 y6).at') (gB3.ext0 y6) (by omega) λs7 r x7 hr=> ?_
  have xa7:=xa6.then0 x7 hb0
  have y7:Ext Any Non s3 s7:=y6.then0 x7 hb3
  have hb7:=xa7.bnd hb0
  refine Aia_.u ?_
  simp only[SF,RR,SS, ↓reduceIte,Gv]
  rcases hr with⟨rfl,hr⟩|⟨j,hj,rfl,hr⟩
  ·rw[hr]at hK hSC
   refine aH Hc_ ?_
   refine AkJ_.u ?_
   simp only[Wn,RR,SS,Nat.reduceEqDiff, ↓reduceIte,Au DX (by decide)]
   refine aB BW (f1.ext0 y7).at' ?_
   have xa8:=xa7.thenRd hb0 (C+(0+1))
   have y8:=y7.thenRd hb3 (C+(0+1))
   generalize hs8:s7.rdN (C+(0+1))=s8 at *
   refine QP_ (xa8.bnd hb0) (gB3.ext0 y8) (Bs.lt (gB3.ext0 y8)) gby (by omega) (by omega) λs9 w x9 hw=> ?_
   have xa9:=xa8.then0 x9 hb0
   have y9:=y8.then0 x9 hb3
   obtain⟨hwi,hwl⟩:=hw.hi
   rw[AX (k:=0) rfl,AX (k:=1) rfl,AX (k:=2) rfl,AX (k:=3) rfl]
   refine AhV_.u ?_
   simp only[Dd_,RR,SS,Nat.reduceEqDiff, ↓reduceIte,h6,Au CV (by decide)]
   refine aB AT (f0.ext0 y9).at' ?_
   simp only[Au DX (by decide)]
   refine aB BW ((f1.ext0 y9).same rfl rfl).at' ?_
   have y10:=(y9.thenRd hb3 (C+(0+0))).thenRd hb3 (C+(0+1))
   have xa10:=(xa9.thenRd hb0 (C+(0+0))).thenRd hb0 (C+(0+1))
   have z10:Ext Any Non s9 ((s9.rdN (C+(0+0))).rdN (C+(0+1))):=((Ext.refl (F:=Any) (G:=Non) s9).thenRd (xa9.bnd hb0) _).thenRd (xa9.bnd hb0) _
   generalize hs10:((s9.rdN (C+(0+0))).rdN (C+(0+1)))=s10 at *
   rw[gB3.len' Al]
   obtain⟨wa,wn,wc,ew⟩:=hwi.slice
   rw[ew,CA (MG f.num (f.l.length:Nat) wa wn wc),<-ew]
   have hO10:=hO3.ext0 y10
   have hn8:s3.next<=s8.next:=y8.nxt
   refine Oj (n:=n) (p:=⟨f.num,(f.l.length:Nat),w,(A6 f.l).1.map toI⟩) hb0 xa10 hO10 (hwi.ext0 z10) (IR f.l) (λx hx=> ?_) (by omega) ((hw.hw λg hg=>((MX f.l).2.2.1 g hg).facts.2.2.2.2.2.1).ext0 z10) (λo ho x hx hq=>by have h1:=hwl x hq;have h2:=(hO3.hs o ho).1.lt (hO3.hs o ho).2.1 x hx;omega) λs11 v11 b11 xa11 x11 hO11=> ?_
   ·have h1:=hwl x hx
    have h2:=xa8.nxt
    refine⟨by omega,λh=> ?_,λh=> ?_⟩
    ·have:=hO3.mo.lt x h;omega
    ·have:=hO3.ms.lt x h;omega
   refine Aka_.u ?_
   have f0b:Own s11 C (0+0) (.int .i64 f.num):=(f0.ext0 y10).ext x11 λh=>by
    have:=hO.mo.lt _ h
    omega
   simp only[YO,RR,SS,Nat.reduceEqDiff, ↓reduceIte,h7,Au CV (by decide)]
   refine aB AT f0b.at' ?_
   have xa12:=xa11.thenRd hb0 (C+(0+0))
   refine XC (m:=f.num) hb0 xa12 (hO11.ext0 (Ext.rdN (F:=Any) s11 _ λ_=>trivial)) (by omega) λs13 v13 b13 xa13 _ _ hO13=> ?_
   refine next _ f.num _ _ v11 v13 b11 b13 _ _ _ (by omega) AcR_ xa13 hO13 (by simp;omega) (by simp;omega) ?_ ?_ (by simp[T.get_set,h0]) (by simp[T.get_set]) (by simp[T.get_set]) (by simp[T.get_set]) (by simp[T.get_set,h17,ev]) (by simp[T.get_set,h18]) (by simp[T.get_set,h19])
   ·rw[List.map_append,List.append_assoc]
    exact hK
   ·rw[List.append_assoc]
    exact hSC
  ·rw[hr]at hK hSC
   refine aI Hc_ ?_
   obtain⟨b',o',c',ev',gp,ghp,g16,_,_⟩:=(hp.ext0 xa7).at hj
   have hzj:=hzp _ (List.getElem_mem hj)
   generalize hpj:ps[j]=p at *
   refine Aal_.u ?_
   simp only[Xr,RR,SS,Nat.reduceEqDiff,reduceCtorEq, ↓reduceIte,h0,ev',AL Bv hj]
   refine aG CZ gp rfl λs8 m8 n8 x8=> ?_
   refine W.alloc Jb λs9 n9 x9 o9=> ?_
   have n9':s9.next=s8.next+4:=n9
   refine W.store CZ (v:= .agg (pkC p).toArray) rfl (Xd_ ghp) (λj hj=>Aa.owned o9 j (by simpa using hj)) λs10 n10 x10 o10=> ?_
   rw[C2]at o10
   have xs9:Ext Any Non s7 s9:=(x8.any hb7).then0 x9 hb7
   have hl78:s7.next<=s8.next:=x8.nxt
   have xs10:Ext Any Non s7 s10:=xs9.trans x10 hb7 (λ_ _ _=>trivial) λy hy h=>by
    have h1:=h.1
    omega
   have xa10:=xa7.then0 xs10 hb0
   have y10:=y7.then0 xs10 hb3
   have o10':Aa s10 s8.next 0 (pkC p):=o10
   have p0:Own s10 s8.next (0+0) (.int .i64 p.num):=o10' 0 _ rfl
   have p1:Own s10 s8.next (0+1) (.int .i64 p.size):=o10' 1 _ rfl
   have p2:Own s10 s8.next (0+2) p.v:=o10' 2 _ rfl
   have hDn:s8.next+4=s10.next:=by omega
   have hD3:s3.next<=s8.next:=Nat.le_trans y7.nxt hl78
   generalize hD:s8.next=D at *
   refine Aap_.u ?_
   simp only[JJ_,RR,SS, ↓reduceIte,Au DY (by decide)]
   refine aB Cn p2.at' ?_
   have xa11:=xa10.thenRd hb0 (D+(0+2))
   have z11:Ext Any Non s10 (s10.rdN (D+(0+2))):=(Ext.refl (F:=Any) (G:=Non) s10).thenRd (xa10.bnd hb0) _
   generalize hs11:s10.rdN (D+(0+2))=s11 at *
   have n11:s11.next=s10.next:=by rw[<-hs11];rfl
   refine Aek_ (xa11.bnd hb0) ((ghp.ext0 xs10).ext0 z11) g16 hzj (by omega) λs12 w x12 hw hwl hww=> ?_
   have xa12:=xa11.then0 x12 hb0
   have z12:Ext Any Non s10 s12:=z11.then0 x12 (xa10.bnd hb0)
   refine aL Cn hw.one (p2.ext0 z12) λs13 n13 x13 o13=> ?_
   have z13:Ext Any (In D (0+2) 1) s10 s13:=(z12.weak (xa10.bnd hb0) (λ_ _ h=>h) λ_ _ h=>h.elim).trans x13 (xa10.bnd hb0) (λ_ _ _=>trivial) λ_ _ h=>h
   have xa13:Ext Any Non s0 s13:=xa12.trans x13 hb0 (λ_ _ _=>trivial) λy hy h=>by
    have h1:=h.1
    have h2:=hx.nxt
    omega
   have q0:Own s13 D (0+0) (.int .i64 p.num):=p0.ext z13 λh=>by have h1:=h.1;omega
   have q1:Own s13 D (0+1) (.int .i64 p.size):=p1.ext z13 λh=>by have h1:=h.1;omega
   have hw13:HiR s13 w p.hs:=hw.ext g16 x13 λx hx h=>by
    have h1:=hwl x hx
    have h2:=h.2
    omega
   have rowD:Row s13 D 0 (pkC ⟨p.num,p.size,w,p.hs⟩):=λj u e=>by
    match j,e with
    |0,e=>cases e;exact q0.at'
    |1,e=>cases e;exact q1.at'
    |2,e=>cases e;exact o13.at'
    |j+3,e=>cases e
   refine AaX_.u ?_
   simp only[Wo,RR,SS,Nat.reduceEqDiff, ↓reduceIte,h6]
   refine aG CZ rowD rfl λs14 m14 n14 x14=> ?_
   have xa14:=xa13.then0 x14 hb0
   have hO13:MgO s0 s13 os sc vo vs bo bs:=by
    have h10:=hO3.ext0 y10
    have g3: ∀x,MkF 3 os.length bo x-> ¬In D (0+2) 1 x:=λx h1 h2=>by
     have:=hO3.mo.lt x h1
     have:=h2.1
     omega
    have g4: ∀x,MkF 1 sc.length bs x-> ¬In D (0+2) 1 x:=λx h1 h2=>by
     have:=hO3.ms.lt x h1
     have:=h2.1
     omega
    exact⟨h10.mo.ext z13 g3,h10.ms.ext z13 g4,h10.no,h10.ns,h10.dj,λo ho=>⟨(h10.hs o ho).1.ext (h10.hs o ho).2.1 z13 λx h1 h2=>by
     have h3:=(hO3.hs o ho).1.lt (hO3.hs o ho).2.1 x h1
     have h4:=h2.1
     omega,(h10.hs o ho).2⟩,λo ho=>(h10.ow o ho).ext z13 λx h1 h2=>by
     have h3:=(hO3.hs o ho).1.lt (hO3.hs o ho).2.1 x h1
     have h4:=h2.1
     omega,h10.sp⟩
   refine Oj (n:=n) (p:=⟨p.num,p.size,w,p.hs⟩) hb0 xa14 (hO13.ext0 x14) (hw13.ext0 x14) g16 (λx hx=> ?_) (by omega) ((hww.ext x13 λx hx h=>by
    have h1:=hwl x hx
    have h2:=h.2
    omega).ext0 x14) (λo ho x hx hq=>by
    have h1:=hwl x hq
    have h2:=(hO3.hs o ho).1.lt (hO3.hs o ho).2.1 x hx
    have h3:=y10.nxt
    omega) λs15 v15 b15 xa15 x15 hO15=> ?_
   ·have h1:=hwl x hx
    have h2:=xa11.nxt
    have h3:=y10.nxt
    refine⟨by omega,λh=> ?_,λh=> ?_⟩
    ·have:=hO3.mo.lt x h;omega
    ·have:=hO3.ms.lt x h;omega
   have hkey:p.num=f.num:=by
    have:=List.find?_some hr
    unfold hitP at this
    rw[Bool.and_eq_true,decide_eq_true_eq]at this
    exact this.1
   refine next _ f.num _ _ v15 vs b15 bs _ _ _ (by omega) ZV_ xa15 hO15 (by simp;omega) (by omega) ?_ hSC (by simp[T.get_set,h0]) (by simp[T.get_set]) (by simp[T.get_set,h7]) (by simp[T.get_set]) (by simp[T.get_set,h17,ev]) (by simp[T.get_set,h18]) (by simp[T.get_set,h19])
   rw[List.map_append,List.append_assoc]
   exact hK
theorem Ahj_ {n:Nat}{s:St}{Q:Value->St->Prop}(hb:s.lim<=s.next)(hp:PkR s vp ps)(hf:FdR s vf fs)(hps:ps.length<=1000000)(hzp: ∀p∈ps,p.hs.length<=400000)(hfs:fs.length<=90000)(hzf: ∀f∈fs,f.l.length<=200000)(hn:33000000<=n)
  (q: ∀s1 os sc vo vs bo,Ext Any Non s s1->PkR s1 vo os->os.map PkI.key=(Ay ps 0 fs).1->IntR s1 vs sc->sc=(Ay ps 0 fs).2->PkW s.next s1 os vo bo->Q (.tuple #[vo,vs]) s1):
  W (Ab envS (runF envS n) 55 [vp,vf]) s Q:=by
 refine VB_ λtm h0 h1=> ?_
 have hf':FdR (s.cxN cxN) vf fs:=hf.same rfl rfl
 refine YW_.u ?_
 simp only[DC_,RR,SS]
 refine Oo_.u ?_
 simp only[Uv,RR,SS]
 refine AiE_.u ?_
 simp only[Ve,RR,SS]
 refine Tz_.u ?_
 simp only[DD_,RR,SS]
 refine AeZ_.u ?_
 simp only[SM,RR,SS,Nat.reduceEqDiff, ↓reduceIte,h1]
 rw[hf'.len]
 exact Oi_ (s0:=s.cxN cxN) (K:=(Ay ps 0 fs).1) (SC:=(Ay ps 0 fs).2) hb (hp.same rfl rfl) hf' hps hzp hfs hzf rfl (λs1 os sc vo vs bo x1 g1 g2 g3 g4 g5=>q _ os sc vo vs bo x1.cx' (g1.same rfl rfl) g2 (g3.same rfl rfl) g4 (g5.same rfl rfl)) fs.length 0 _ 0 [] [] _ _ s.next s.next _ _ _ (by omega) (by omega) rfl (Ext.refl _)
  ⟨.inl ⟨rfl,rfl,rfl⟩, .inl ⟨rfl,rfl,rfl⟩,Nat.le_refl _,Nat.le_refl _,λx h=>absurd h.1 (Nat.lt_irrefl 0),(λo ho=>by cases ho),(λo ho=>by cases ho), .nil⟩ (by simp) (by simp) (by simp) (by simp) (by simp[T.get_set,h0]) (by simp[T.get_set]) (by simp[T.get_set]) (by simp[T.get_set]) (by simp[T.get_set]) (by simp[T.get_set]) (by simp[T.get_set])
end
def BJ:Nat:=Ar Try.f12
abbrev I9:Nat:=91
def X3:Code:=Try.f12.body.getD .skip
theorem LY:envS.fn.get 12=some Try.f12:=by kernel_rfl
theorem AlQ_:G2 envS 12 91 BJ X3:=λh=>
 aM LY (h _ (by kernel_rfl) (by kernel_rfl))
theorem Qj:Try.f12.results.toList=[.tmp 4]:=by kernel_rfl
def Hd_:List Item:=skim 64 [.code X3]
def X9:=nx Hd_
def Mn:=nx X9
def Vq:=bt Mn
def MR_:=bf Mn
def Hv_:=nx Vq
def BH_:=nx MR_
def KN:=nx BH_
def Sb:=nx KN
def Zp:=bt Sb
def Rx:=bf Sb
def XI:=nx Zp
def KS_:=nx Rx
theorem Aje_:skim 64 XI.tail=KN:=by kernel_rfl
def LR_:=nx KS_
def DN_:=nx LR_
def Tf:=nx DN_
def Ka:=nx Tf
def QB:=nx Ka
def Rs:=bt QB
def NU:=bf QB
def DK_:=nx Rs
def Cm_:=nx NU
def Jp_:=bf DK_
theorem Qf_:skim 64 Jp_.tail=Ka:=by kernel_rfl
def LE_:Rg:=λE call round tm=>
 mv (some (.bool false)) λv4=>
 setF 4 v4 tm λtm1=>
 M.pure tm1
theorem AiY_:RegEq 12 91 BJ Hd_ LE_:={}
def Js_:Rg:=λE call round tm=>
 mv (T.get tm 0) λv14=>
 cN call round 34 [(some v14),(some (.int .i64 60)),(some (.int .i64 300))] λv15=>
 mv (some v15) λv16=>
 sK v16 false (oS (T.get tm 1) λa=>M.pure a) λv17=>
 sK v16 false (M.on (some (.func (.func 54) #[] #[])) λf=>M.on (seqO [(some v17)]) λl=>Bk call round f l) λv18=>
 M.bind (M.on (some v16) λa=>M.on (some (.bool true)) λb=>M.on (some v18) λc=>A3 a b c) λv19=>
 setF 19 v19 tm λtm1=>
 M.pure tm1
theorem Abl_:RegEq 12 91 BJ X9 Js_:={}
theorem MJ:Ah Mn=some 19:=by kernel_rfl
def Q7:Rg:=λE call round tm=>
 cN call round 35 [] λv20=>
 mv (some v20) λv4=>
 setF 4 v4 tm λtm1=>
 M.pure tm1
theorem ZV:RegEq 12 91 BJ Vq Q7:={}
def GV_:Rg:=λE call round tm=>
 mv (T.get tm 0) λv21=>
 cN call round 36 [(some v21)] λv22=>
 M.bind (oS (seqP []) λps=>AU E 75 0 ps) λv23=>
 mv (T.get tm 1) λv24=>
 lN E .append [75,75] [(some v23),(some v24)] λv25=>
 mv (some v22) λv5=>
 setF 5 v5 tm λtm1=>
 mv (some v25) λv6=>
 setF 6 v6 tm1 λtm2=>
 M.pure tm2
theorem OR_:RegEq 12 91 BJ MR_ GV_:={}
theorem Gl_: ∃k,Hv_= .code .ret::k:=⟨Hv_.tail,by kernel_rfl⟩
def IP_:Rg:=λE call round tm=>
 mv (some (.int .i64 0)) λv7=>
 setF 7 v7 tm λtm1=>
 M.pure tm1
theorem AjF_:RegEq 12 91 BJ BH_ IP_:={}
def Mo:Rg:=λE call round tm=>
 mv (T.get tm 7) λv26=>
 mv (T.get tm 6) λv27=>
 lN E .len [75] [(some v27)] λv28=>
 bI E .lss 3 (.tmp 26) (.tmp 28) (some v26) (some v28) λv29=>
 setF 29 v29 tm λtm1=>
 M.pure tm1
theorem MM_:RegEq 12 91 BJ KN Mo:={}
theorem Xd:Ah Sb=some 29:=by kernel_rfl
def Z8:Rg:=λE call round tm=>
 mv (T.get tm 6) λv32=>
 mv (T.get tm 7) λv33=>
 mv (T.get tm 1) λv34=>
 mv (T.get tm 7) λv35=>
 iD E 75 (some v34) (some v35) λv36=>
 fD E 78 1 (some v36) λv37=>
 lD E 22 (some v37) λv38=>
 cN call round 16 [(some v38)] λv39=>
 iD E 75 (some v32) (some v33) λv40=>
 fD E 78 1 (some v40) λv41=>
 M.bind (oS (some v41) λa=>oS (some v39) λb=>Ao E 22 a b) λ_=>
 M.pure tm
theorem Xf_:RegEq 12 91 BJ Zp Z8:={}
def Cc_:Rg:=λE call round tm=>
 mv (T.get tm 5) λv43=>
 mv (T.get tm 6) λv44=>
 cN call round 55 [(some v43),(some v44)] λv45=>
 mv (some v45) λv42=>
 eX 0 (some v42) λv46=>
 eX 1 (some v42) λv47=>
 mv (some v46) λv8=>
 setF 8 v8 tm λtm1=>
 mv (some v47) λv9=>
 setF 9 v9 tm1 λtm2=>
 M.pure tm2
theorem VG_:RegEq 12 91 BJ Rx Cc_:={}
def WI:Rg:=λE call round tm=>
 mv (T.get tm 7) λv30=>
 bI E .add 3 (.tmp 30) (.const (.int .i64 1)) (some v30) (some (.int .i64 1)) λv31=>
 mv (some v31) λv7=>
 setF 7 v7 tm λtm1=>
 M.pure tm1
theorem Aiw_:RegEq 12 91 BJ XI WI:={}
def Xl:Rg:=λE call round tm=>
 mv (T.get tm 0) λv49=>
 mv (T.get tm 1) λv50=>
 cN call round 56 [(some v49),(some v50)] λv51=>
 mv (some v51) λv48=>
 eX 0 (some v48) λv52=>
 eX 1 (some v48) λv53=>
 mv (some v52) λv10=>
 setF 10 v10 tm λtm1=>
 mv (some v53) λv11=>
 setF 11 v11 tm1 λtm2=>
 M.pure tm2
theorem Xp_:RegEq 12 91 BJ KS_ Xl:={}
def WU:Rg:=λE call round tm=>
 mv (T.get tm 8) λv54=>
 mv (T.get tm 10) λv55=>
 cN call round 45 [(some v54),(some v55)] λv56=>
 mv (some v56) λv57=>
 sK v57 true (oS (T.get tm 9) λa=>M.pure a) λv58=>
 sK v57 true (oS (T.get tm 11) λa=>M.pure a) λv59=>
 sK v57 true (M.on (some (.func (.func 57) #[] #[])) λf=>M.on (seqO [(some v58),(some v59)]) λl=>Bk call round f l) λv60=>
 M.bind (M.on (some v57) λa=>M.on (some v60) λb=>M.on (some (.bool false)) λc=>A3 a b c) λv61=>
 mv (some v61) λv12=>
 setF 12 v12 tm λtm1=>
 M.pure tm1
theorem Akf_:RegEq 12 91 BJ LR_ WU:={}
def Wx:Rg:=λE call round tm=>
 mv (T.get tm 8) λv62=>
 cN call round 46 [(some v62)] λv63=>
 M.pure tm
theorem Vm_:RegEq 12 91 BJ DN_ Wx:={}
def S9:Rg:=λE call round tm=>
 mv (some (.int .i64 0)) λv13=>
 setF 13 v13 tm λtm1=>
 M.pure tm1
theorem Aeq_:RegEq 12 91 BJ Tf S9:={}
def Pj:Rg:=λE call round tm=>
 mv (T.get tm 13) λv64=>
 mv (T.get tm 6) λv65=>
 lN E .len [75] [(some v65)] λv66=>
 bI E .lss 3 (.tmp 64) (.tmp 66) (some v64) (some v66) λv67=>
 setF 67 v67 tm λtm1=>
 M.pure tm1
theorem XW:RegEq 12 91 BJ Ka Pj:={}
theorem Wh:Ah QB=some 67:=by kernel_rfl
def YE:Rd:=λE call round tm=>
 PD (T.get tm 6) λp0=>
 PD (T.get tm 13) λp1=>
 ID E 75 (some p0.1) (some p1.1) λp2=>
 FD E 78 1 (some p2.1) λp3=>
 LD E 22 (some p3.1) λp4=>
 PD (T.get tm 1) λp5=>
 PD (T.get tm 13) λp6=>
 ID E 75 (some p5.1) (some p6.1) λp7=>
 FD E 78 1 (some p7.1) λp8=>
 LD E 22 (some p8.1) λp9=>
 CN call round 23 [(some p4.1),(some p9.1)] λp10=>
 fJ [p10,p9,p8,p7,p6,p5,p4,p3,p2,p1,p0] tm
theorem PH_:DrawEq 12 91 BJ Rs [0,0,3,7,15,0,0,96,224,480,1023,2047] YE:={}
theorem UJ_ (E:Env)(call round:Ac)(x70 x71 x72 x73 x74 x75 x76 x77 x78 x79 x80:Value)(tm:T Value)(s:St):AH call round (A7 E BJ 91 (hdC Rs)) [x80,x79,x78,x77,x76,x75,x74,x73,x72,x71,x70] tm s=(M.bind (oS (some x80) λa=>kUn E.P .not a) λv81=>setT 81 v81 tm λtm1=>M.pure tm1) s:=by kernel_rfl
def Cf_:Rg:=λE call round tm=>
 mv (T.get tm 12) λv82=>
 mv (some v82) λv83=>
 sK v83 true (oS (T.get tm 5) λa=>M.pure a) λv84=>
 sK v83 true (oS (T.get tm 0) λa=>M.pure a) λv85=>
 sK v83 true (M.on (some (.func (.func 45) #[] #[])) λf=>M.on (seqO [(some v84),(some v85)]) λl=>Bk call round f l) λv86=>
 M.bind (M.on (some v83) λa=>M.on (some v86) λb=>M.on (some (.bool false)) λc=>A3 a b c) λv87=>
 mv (some v87) λv88=>
 sK v88 true (M.on (some (.func (.func 35) #[] #[])) λf=>M.on (seqO []) λl=>Bk call round f l) λv89=>
 M.bind (M.on (some v88) λa=>M.on (some v89) λb=>M.on (some (.bool false)) λc=>A3 a b c) λv90=>
 mv (some v90) λv4=>
 setF 4 v4 tm λtm1=>
 M.pure tm1
theorem Aau_:RegEq 12 91 BJ NU Cf_:={}
theorem Acv_:Ah DK_=some 81:=by kernel_rfl
theorem Pj_: ∃k,Cm_= .code .ret::k:=⟨Cm_.tail,by kernel_rfl⟩
def V9:Rg:=λE call round tm=>
 mv (T.get tm 13) λv68=>
 bI E .add 3 (.tmp 68) (.const (.int .i64 1)) (some v68) (some (.int .i64 1)) λv69=>
 mv (some v69) λv13=>
 setF 13 v13 tm λtm1=>
 M.pure tm1
theorem AdK_:RegEq 12 91 BJ Jp_ V9:={}
def C1:Nat:=Ar Try.f46
abbrev KP:Nat:=32
def EB_:Code:=Try.f46.body.getD .skip
theorem Qo:envS.fn.get 46=some Try.f46:=by kernel_rfl
theorem AhG_:G1 envS 46 32 C1 EB_:=λh=>
 aM Qo (h _ (by kernel_rfl))
theorem Ix_:Try.f46.results.toList=[]:=by kernel_rfl
def Iv_:List Item:=skim 64 [.code EB_]
def J1:=nx Iv_
def Sf:=nx J1
def Ta:=bt Sf
def SJ_:=bf Sf
def K1:=nx Ta
def MK:=nx K1
def Nn_:=bt MK
def Ly:=bf MK
def DQ_:=nx Nn_
def Im_:=nx Ly
theorem AiZ_:skim 64 DQ_.tail=K1:=by kernel_rfl
theorem WD_:skim 64 Im_.tail=J1:=by kernel_rfl
def HV_:Rg:=λE call round tm=>
 mv (some (.int .i64 0)) λv2=>
 setF 2 v2 tm λtm1=>
 M.pure tm1
theorem Qy_:RegEq 46 32 C1 Iv_ HV_:={}
def Lp:Rg:=λE call round tm=>
 mv (T.get tm 2) λv4=>
 mv (T.get tm 0) λv5=>
 lN E .len [55] [(some v5)] λv6=>
 bI E .lss 3 (.tmp 4) (.tmp 6) (some v4) (some v6) λv7=>
 setF 7 v7 tm λtm1=>
 M.pure tm1
theorem PT:RegEq 46 32 C1 J1 Lp:={}
theorem NK:Ah Sf=some 7:=by kernel_rfl
def Gg_:Rg:=λE call round tm=>
 mv (some (.int .i64 0)) λv3=>
 setF 3 v3 tm λtm1=>
 M.pure tm1
theorem RZ_:RegEq 46 32 C1 Ta Gg_:={}
def LU:Rg:=λE call round tm=>
 mv (T.get tm 3) λv10=>
 mv (T.get tm 0) λv11=>
 mv (T.get tm 2) λv12=>
 iD E 55 (some v11) (some v12) λv13=>
 fD E 85 2 (some v13) λv14=>
 lD E 36 (some v14) λv15=>
 lN E .len [36] [(some v15)] λv16=>
 bI E .lss 3 (.tmp 10) (.tmp 16) (some v10) (some v16) λv17=>
 setF 17 v17 tm λtm1=>
 M.pure tm1
theorem Mp:RegEq 46 32 C1 K1 LU:={}
theorem QV:Ah MK=some 17:=by kernel_rfl
def T2:Rg:=λE call round tm=>
 mv (T.get tm 0) λv20=>
 mv (T.get tm 2) λv21=>
 iD E 55 (some v20) (some v21) λv22=>
 fD E 85 2 (some v22) λv23=>
 lD E 36 (some v23) λv24=>
 mv (T.get tm 3) λv25=>
 M.bind (oS (seqP [(1,(some (.int .i64 (-7))))]) λps=>Bj E 35 ps) λv26=>
 iD E 36 (some v24) (some v25) λv27=>
 M.bind (oS (some v27) λa=>oS (some v26) λb=>Ao E 35 a b) λ_=>
 M.pure tm
theorem TA_:RegEq 46 32 C1 Nn_ T2:={}
def Fg_:Rg:=λE call round tm=>
 mv (T.get tm 0) λv28=>
 mv (T.get tm 2) λv29=>
 M.bind (oS (seqP [(0,(some (.int .i64 (-7))))]) λps=>Bj E 85 ps) λv30=>
 iD E 55 (some v28) (some v29) λv31=>
 M.bind (oS (some v31) λa=>oS (some v30) λb=>Ao E 85 a b) λ_=>
 M.pure tm
theorem AhB_:RegEq 46 32 C1 Ly Fg_:={}
def FI_:Rg:=λE call round tm=>
 mv (T.get tm 3) λv18=>
 bI E .add 3 (.tmp 18) (.const (.int .i64 1)) (some v18) (some (.int .i64 1)) λv19=>
 mv (some v19) λv3=>
 setF 3 v3 tm λtm1=>
 M.pure tm1
theorem AhM_:RegEq 46 32 C1 DQ_ FI_:={}
def Y0:Rg:=λE call round tm=>
 mv (T.get tm 2) λv8=>
 bI E .add 3 (.tmp 8) (.const (.int .i64 1)) (some v8) (some (.int .i64 1)) λv9=>
 mv (some v9) λv2=>
 setF 2 v2 tm λtm1=>
 M.pure tm1
theorem Ya_:RegEq 46 32 C1 Im_ Y0:={}
def BT:Nat:=Ar Try.f56
abbrev RP:Nat:=72
def FA_:Code:=Try.f56.body.getD .skip
theorem ZW:envS.fn.get 56=some Try.f56:=by kernel_rfl
theorem Uo_:G2 envS 56 72 BT FA_:=λh=>
 aM ZW (h _ (by kernel_rfl) (by kernel_rfl))
theorem Ux_:Try.f56.results.toList=[.tmp 4, .tmp 5]:=by kernel_rfl
def Mk_:List Item:=skim 64 [.code FA_]
def Nq_:=nx Mk_
def DU_:=nx Nq_
def Sk:=nx DU_
def FF_:=nx Sk
def JG:=nx FF_
def PP:=nx JG
def Ls_:=bt PP
def Sp:=bf PP
def JA_:=nx Ls_
def Ie_:=nx Sp
def Mw:=nx JA_
def J6:=bt Mw
def CP_:=bf Mw
theorem AhW_:skim 64 J6.tail=JG:=by kernel_rfl
def Ag_:=nx CP_
def VL:=nx Ag_
def Qi:=nx VL
def Z1:=bt Qi
def J5:=bf Qi
def Ns_:=nx Z1
theorem AkD_:skim 64 J5.tail=J6:=by kernel_rfl
def AO_:=nx Ns_
theorem SQ_:skim 64 AO_.tail=J5:=by kernel_rfl
def Lt_:Rg:=λE call round tm=>
 mv (some (.slice none 0 0)) λv4=>
 setF 4 v4 tm λtm1=>
 mv (some (.slice none 0 0)) λv5=>
 setF 5 v5 tm1 λtm2=>
 M.pure tm2
theorem On_:RegEq 56 72 BT Mk_ Lt_:={}
def Et_:Rg:=λE call round tm=>
 mv (some (.slice none 0 0)) λv6=>
 setF 6 v6 tm λtm1=>
 M.pure tm1
theorem Agx_:RegEq 56 72 BT Nq_ Et_:={}
def TX:Rg:=λE call round tm=>
 mv (some (.slice none 0 0)) λv7=>
 setF 7 v7 tm λtm1=>
 M.pure tm1
theorem Ake_:RegEq 56 72 BT DU_ TX:={}
def Hy_:Rg:=λE call round tm=>
 mv (some (.int .i64 0)) λv8=>
 setF 8 v8 tm λtm1=>
 M.pure tm1
theorem Amc_:RegEq 56 72 BT Sk Hy_:={}
def Zv:Rg:=λE call round tm=>
 mv (some (.int .i64 0)) λv9=>
 setF 9 v9 tm λtm1=>
 M.pure tm1
theorem Acl_:RegEq 56 72 BT FF_ Zv:={}
def Pf:Rg:=λE call round tm=>
 mv (T.get tm 9) λv17=>
 mv (T.get tm 1) λv18=>
 lN E .len [75] [(some v18)] λv19=>
 bI E .lss 3 (.tmp 17) (.tmp 19) (some v17) (some v19) λv20=>
 setF 20 v20 tm λtm1=>
 M.pure tm1
theorem BL_:RegEq 56 72 BT JG Pf:={}
theorem LS_:Ah PP=some 20:=by kernel_rfl
def Ak_:Rg:=λE call round tm=>
 mv (T.get tm 1) λv23=>
 mv (T.get tm 9) λv24=>
 iD E 75 (some v23) (some v24) λv25=>
 lD E 78 (some v25) λv26=>
 M.bind (AI E 78) λv10=>
 setF 10 v10 tm λtm1=>
 M.bind (oS (some v10) λa=>oS (some v26) λb=>Ao E 78 a b) λ_=>
 M.pure tm1
theorem AkZ_:RegEq 56 72 BT Ls_ Ak_:={}
def An_:Rg:=λE call round tm=>
 mv (T.get tm 6) λv70=>
 mv (T.get tm 7) λv71=>
 mv (some v70) λv4=>
 setF 4 v4 tm λtm1=>
 mv (some v71) λv5=>
 setF 5 v5 tm1 λtm2=>
 M.pure tm2
theorem AdA_:RegEq 56 72 BT Sp An_:={}
def V0:Rg:=λE call round tm=>
 fD E 78 0 (T.get tm 10) λv27=>
 lD E 3 (some v27) λv28=>
 mv (T.get tm 8) λv29=>
 bI E .leq 3 (.tmp 28) (.tmp 29) (some v28) (some v29) λv30=>
 mv (some v30) λv31=>
 sK v31 false (oS (T.get tm 10) λa=>kFld E 78 a 0) λv32=>
 sK v31 false (oS (some v32) λa=>A5 E 3 a) λv33=>
 sK v31 false (oS (some v33) λa=>oS (some (.int .i64 999999)) λb=>Cl.get (aBin E .gtr 3 (.tmp 33) (.const (.int .i64 999999))) a b) λv34=>
 M.bind (M.on (some v31) λa=>M.on (some (.bool true)) λb=>M.on (some v34) λc=>A3 a b c) λv35=>
 setF 35 v35 tm λtm1=>
 M.pure tm1
theorem Agm_:RegEq 56 72 BT JA_ V0:={}
theorem Pa_: ∃k,Ie_= .code .ret::k:=⟨Ie_.tail,by kernel_rfl⟩
theorem Mi:Ah Mw=some 35:=by kernel_rfl
def Ze:Rg:=λE call round tm=>
 mv (T.get tm 9) λv21=>
 bI E .add 3 (.tmp 21) (.const (.int .i64 1)) (some v21) (some (.int .i64 1)) λv22=>
 mv (some v22) λv9=>
 setF 9 v9 tm λtm1=>
 M.pure tm1
theorem Abk_:RegEq 56 72 BT J6 Ze:={}
def Vj:Rg:=λE call round tm=>
 fD E 78 0 (T.get tm 10) λv36=>
 lD E 3 (some v36) λv37=>
 mv (some v37) λv8=>
 setF 8 v8 tm λtm1=>
 M.pure tm1
theorem AhN_:RegEq 56 72 BT CP_ Vj:={}
def Nf_:Rg:=λE call round tm=>
 mv (T.get tm 0) λv39=>
 lD E 78 (T.get tm 10) λv40=>
 cN call round 104 [(some v39),(some v40)] λv41=>
 mv (some v41) λv38=>
 eX 0 (some v38) λv42=>
 eX 1 (some v38) λv43=>
 M.bind (AI E 85) λv11=>
 setF 11 v11 tm λtm1=>
 M.bind (oS (some v11) λa=>oS (some v42) λb=>Ao E 85 a b) λ_=>
 mv (some v43) λv12=>
 setF 12 v12 tm1 λtm2=>
 M.pure tm2
theorem Py_:RegEq 56 72 BT Ag_ Nf_:={}
def QR:Rg:=λE call round tm=>
 mv (T.get tm 12) λv44=>
 M.bind (oS (some v44) λa=>kUn E.P .not a) λv45=>
 setF 45 v45 tm λtm1=>
 M.pure tm1
theorem CX_:RegEq 56 72 BT VL QR:={}
theorem UK:Ah Qi=some 45:=by kernel_rfl
def Kz_:Rg:=λE call round tm=>
 fD E 78 1 (T.get tm 10) λv47=>
 lD E 22 (some v47) λv48=>
 cN call round 25 [(some v48)] λv49=>
 mv (some v49) λv46=>
 eX 0 (some v46) λv50=>
 eX 1 (some v46) λv51=>
 eX 2 (some v46) λv52=>
 eX 3 (some v46) λv53=>
 mv (some v50) λv13=>
 setF 13 v13 tm λtm1=>
 mv (some v51) λv14=>
 mv (some v52) λv15=>
 mv (some v53) λv16=>
 M.pure tm1
theorem QI_:RegEq 56 72 BT Z1 Kz_:={}
def Ub:Rg:=λE call round tm=>
 mv (T.get tm 6) λv66=>
 lD E 85 (T.get tm 11) λv67=>
 M.bind (oS (seqP [(0,(some v67))]) λps=>AU E 55 1 ps) λv68=>
 lN E .append [55,55] [(some v66),(some v68)] λv69=>
 mv (some v69) λv6=>
 setF 6 v6 tm λtm1=>
 M.pure tm1
theorem Agp_:RegEq 56 72 BT J5 Ub:={}
def WG:Rg:=λE call round tm=>
 fD E 78 0 (T.get tm 10) λv54=>
 lD E 3 (some v54) λv55=>
 fD E 78 1 (T.get tm 10) λv56=>
 lD E 22 (some v56) λv57=>
 lN E .len [22] [(some v57)] λv58=>
 mv (T.get tm 13) λv59=>
 M.bind (oS (seqP [(0,(some v55)),(1,(some v58)),(2,(some v59))]) λps=>Bj E 85 ps) λv60=>
 M.bind (oS (T.get tm 11) λa=>oS (some v60) λb=>Ao E 85 a b) λ_=>
 M.pure tm
theorem Adh_:RegEq 56 72 BT Ns_ WG:={}
def KB_:Rg:=λE call round tm=>
 mv (T.get tm 7) λv61=>
 fD E 78 0 (T.get tm 10) λv62=>
 lD E 3 (some v62) λv63=>
 M.bind (oS (seqP [(0,(some v63))]) λps=>AU E 44 1 ps) λv64=>
 lN E .append [44,44] [(some v61),(some v64)] λv65=>
 mv (some v65) λv7=>
 setF 7 v7 tm λtm1=>
 M.pure tm1
theorem Og_:RegEq 56 72 BT AO_ KB_:={}
def Dh:Nat:=Ar Try.f104
abbrev Vy:Nat:=48
def MY_:Code:=Try.f104.body.getD .skip
theorem O7:envS.fn.get 104=some Try.f104:=by kernel_rfl
theorem Ait_:G2 envS 104 48 Dh MY_:=λh=>
 aM O7 (h _ (by kernel_rfl) (by kernel_rfl))
theorem Ay_:Try.f104.results.toList=[.cell 4 85, .tmp 5]:=by kernel_rfl
def AC_:List Item:=skim 64 [.code MY_]
def DE_:=nx AC_
def LW:=nx DE_
def RF:=nx LW
def Ng:=bt RF
def ZC:=bf RF
def IZ:=nx Ng
def GN_:=nx ZC
def Qc:=bt IZ
def Db_:=bf IZ
def BN_:=nx Qc
theorem Za_:skim 64 Db_.tail=LW:=by kernel_rfl
def Ep_:Rg:=λE call round tm=>
 M.bind (oS (T.get tm 1) λa=>kBox a) λv3=>
 setF 3 v3 tm λtm1=>
 M.bind (AI E 85) λv4=>
 setF 4 v4 tm1 λtm2=>
 mv (some (.bool false)) λv5=>
 setF 5 v5 tm2 λtm3=>
 M.pure tm3
theorem Aho_:RegEq 104 48 Dh AC_ Ep_:={}
def JP_:Rg:=λE call round tm=>
 mv (some (.int .i64 0)) λv6=>
 setF 6 v6 tm λtm1=>
 M.pure tm1
theorem OH_:RegEq 104 48 Dh DE_ JP_:={}
def QX:Rg:=λE call round tm=>
 mv (T.get tm 6) λv7=>
 mv (T.get tm 0) λv8=>
 lN E .len [55] [(some v8)] λv9=>
 bI E .lss 3 (.tmp 7) (.tmp 9) (some v7) (some v9) λv10=>
 setF 10 v10 tm λtm1=>
 M.pure tm1
theorem LT_:RegEq 104 48 Dh LW QX:={}
theorem UR:Ah RF=some 10:=by kernel_rfl
def GA_:Rd:=λE call round tm=>
 PD (T.get tm 0) λp0=>
 PD (T.get tm 6) λp1=>
 ID E 55 (some p0.1) (some p1.1) λp2=>
 FD E 85 0 (some p2.1) λp3=>
 LD E 3 (some p3.1) λp4=>
 FD E 78 0 (T.get tm 3) λp5=>
 LD E 3 (some p5.1) λp6=>
 BI E .eql 3 (.tmp 17) (.tmp 19) (some p4.1) (some p6.1) λp7=>
 PD (some p7.1) λp8=>
 SK p8.1 true (oS (T.get tm 0) λa=>M.pure a) λp9=>
 SK p8.1 true (oS (T.get tm 6) λa=>M.pure a) λp10=>
 SK p8.1 true (oS (some p9.1) λa=>oS (some p10.1) λb=>BE E 55 a b) λp11=>
 SK p8.1 true (oS (some p11.1) λa=>kFld E 85 a 1) λp12=>
 SK p8.1 true (oS (some p12.1) λa=>A5 E 3 a) λp13=>
 SK p8.1 true (oS (T.get tm 3) λa=>kFld E 78 a 1) λp14=>
 SK p8.1 true (oS (some p14.1) λa=>A5 E 22 a) λp15=>
 SK p8.1 true (oS (seqO [(some p15.1)]) λl=>AS E .len [22] l) λp16=>
 SK p8.1 true (oS (some p13.1) λa=>oS (some p16.1) λb=>Cl.get (aBin E .eql 3 (.tmp 26) (.tmp 29)) a b) λp17=>
 fJ [p17,p16,p15,p14,p13,p12,p11,p10,p9,p8,p7,p6,p5,p4,p3,p2,p1,p0] tm
theorem Acm_:DrawEq 104 48 Dh Ng [0,0,3,7,15,0,32,127,255,511,511,2047,4095,8191,511,16895,49663,131071,262143] GA_:={}
theorem VX (E:Env)(call round:Ac)(x13 x14 x15 x16 x17 x18 x19 x20 x21 x22 x23 x24 x25 x26 x27 x28 x29 x30:Value)(tm:T Value)(s:St):AH call round (A7 E Dh 48 (hdC Ng)) [x30,x29,x28,x27,x26,x25,x24,x23,x22,x21,x20,x19,x18,x17,x16,x15,x14,x13] tm s=(M.bind (M.on (some x21) λa=>M.on (some x30) λb=>M.on (some (.bool false)) λc=>A3 a b c) λv31=>setT 31 v31 tm λtm1=>M.pure tm1) s:=by kernel_rfl
def Aw_:Rg:=λE call round tm=>
 M.bind (oS (seqP []) λps=>Bj E 85 ps) λv47=>
 M.bind (oS (T.get tm 4) λa=>oS (some v47) λb=>Ao E 85 a b) λ_=>
 mv (some (.bool false)) λv5=>
 setF 5 v5 tm λtm1=>
 M.pure tm1
theorem Agd_:RegEq 104 48 Dh ZC Aw_:={}
theorem U8:Ah IZ=some 31:=by kernel_rfl
theorem Vp_: ∃k,GN_= .code .ret::k:=⟨GN_.tail,by kernel_rfl⟩
def Y3:Rd:=λE call round tm=>
 FD E 78 0 (T.get tm 3) λp0=>
 LD E 3 (some p0.1) λp1=>
 PD (T.get tm 0) λp2=>
 PD (T.get tm 6) λp3=>
 ID E 55 (some p2.1) (some p3.1) λp4=>
 FD E 85 1 (some p4.1) λp5=>
 LD E 3 (some p5.1) λp6=>
 M.bind (apartO (oS (seqP []) λps=>AU E 36 0 ps)) λp7=>
 PD (T.get tm 0) λp8=>
 PD (T.get tm 6) λp9=>
 ID E 55 (some p8.1) (some p9.1) λp10=>
 FD E 85 2 (some p10.1) λp11=>
 LD E 36 (some p11.1) λp12=>
 LN E .append [36,36] [(some p7.1),(some p12.1)] λp13=>
 M.bind (apartO (oS (seqP [(0,(some p1.1)),(1,(some p6.1)),(2,(some p13.1))]) λps=>Bj E 85 ps)) λp14=>
 M.bind (apartO (oS (T.get tm 4) λa=>oS (some p14.1) λb=>Ao E 85 a b)) λp15=>
 M.pure (([p14.1,p13.1,p12.1,p11.1,p10.1,p9.1,p8.1,p7.1,p6.1,p5.1,p4.1,p3.1,p2.1,p1.1,p0.1],tm),[p15.2,p14.2,p13.2,p12.2,p11.2,p10.2,p9.2,p8.2,p7.2,p6.2,p5.2,p4.2,p3.2,p2.2,p1.2,p0.2])
theorem TP_:DrawEq 104 48 Dh Qc [0,1,0,0,12,28,60,0,0,0,768,1792,3840,8064,16383,32767,65535] Y3:={}
theorem Aaj_ (E:Env)(call round:Ac)(x32 x33 x34 x35 x36 x37 x38 x39 x40 x41 x42 x43 x44 x45 x46:Value)(tm:T Value)(s:St):AH call round (A7 E Dh 48 (hdC Qc)) [x46,x45,x44,x43,x42,x41,x40,x39,x38,x37,x36,x35,x34,x33,x32] tm s=(M.bind (oS (some (.bool true)) λa=>M.pure a) λv5=>setT 5 v5 tm λtm1=>M.pure tm1) s:=by kernel_rfl
def UN:Rg:=λE call round tm=>
 mv (T.get tm 6) λv11=>
 bI E .add 3 (.tmp 11) (.const (.int .i64 1)) (some v11) (some (.int .i64 1)) λv12=>
 mv (some v12) λv6=>
 setF 6 v6 tm λtm1=>
 M.pure tm1
theorem PW_:RegEq 104 48 Dh Db_ UN:={}
theorem Aan_: ∃k,BN_= .code .ret::k:=⟨BN_.tail,by kernel_rfl⟩
def DL:Nat:=Ar Try.f57
abbrev Amg_:Nat:=26
def VT:Code:=Try.f57.body.getD .skip
theorem Ss:envS.fn.get 57=some Try.f57:=by kernel_rfl
theorem VP_:G2 envS 57 26 DL VT:=λh=>
 aM Ss (h _ (by kernel_rfl) (by kernel_rfl))
theorem PO_:Try.f57.results.toList=[.tmp 4]:=by kernel_rfl
def Kn_:List Item:=skim 64 [.code VT]
def He_:=nx Kn_
def Bl_:=nx He_
def BB_:=bf Bl_
def KC:=nx BB_
def Ow:=nx KC
def Rw:=bt Ow
def JM_:=bf Ow
def ZP:=nx Rw
def AY_:=nx JM_
def IY_:=bf ZP
theorem Ow_:skim 64 IY_.tail=KC:=by kernel_rfl
def LF_:Rg:=λE call round tm=>
 mv (some (.bool false)) λv4=>
 setF 4 v4 tm λtm1=>
 M.pure tm1
theorem Ajj_:RegEq 57 26 DL Kn_ LF_:={}
def Ui:Rg:=λE call round tm=>
 mv (T.get tm 0) λv6=>
 lN E .len [44] [(some v6)] λv7=>
 mv (T.get tm 1) λv8=>
 lN E .len [44] [(some v8)] λv9=>
 bI E .neq 3 (.tmp 7) (.tmp 9) (some v7) (some v9) λv10=>
 setF 10 v10 tm λtm1=>
 M.pure tm1
theorem AgR_:RegEq 57 26 DL He_ Ui:={}
theorem NV_:Ah Bl_=some 10:=by kernel_rfl
def Ko_:Rg:=λE call round tm=>
 mv (some (.int .i64 0)) λv5=>
 setF 5 v5 tm λtm1=>
 M.pure tm1
theorem Uk_:RegEq 57 26 DL BB_ Ko_:={}
def RE:Rg:=λE call round tm=>
 mv (T.get tm 5) λv11=>
 mv (T.get tm 0) λv12=>
 lN E .len [44] [(some v12)] λv13=>
 bI E .lss 3 (.tmp 11) (.tmp 13) (some v11) (some v13) λv14=>
 setF 14 v14 tm λtm1=>
 M.pure tm1
theorem Lg_:RegEq 57 26 DL KC RE:={}
theorem Ts:Ah Ow=some 14:=by kernel_rfl
def Wy:Rd:=λE call round tm=>
 PD (T.get tm 0) λp0=>
 PD (T.get tm 5) λp1=>
 ID E 44 (some p0.1) (some p1.1) λp2=>
 LD E 3 (some p2.1) λp3=>
 PD (T.get tm 1) λp4=>
 PD (T.get tm 5) λp5=>
 ID E 44 (some p4.1) (some p5.1) λp6=>
 LD E 3 (some p6.1) λp7=>
 fJ [p7,p6,p5,p4,p3,p2,p1,p0] tm
theorem Ahi_:DrawEq 57 26 DL Rw [0,0,3,7,0,0,48,112,255] Wy:={}
theorem Acf_ (E:Env)(call round:Ac)(x17 x18 x19 x20 x21 x22 x23 x24:Value)(tm:T Value)(s:St):AH call round (A7 E DL 26 (hdC Rw)) [x24,x23,x22,x21,x20,x19,x18,x17] tm s=(M.bind (oS (some x20) λa=>oS (some x24) λb=>Cl.get (aBin E .neq 3 (.tmp 20) (.tmp 24)) a b) λv25=>setT 25 v25 tm λtm1=>M.pure tm1) s:=by kernel_rfl
def HD_:Rg:=λE call round tm=>
 mv (some (.bool true)) λv4=>
 setF 4 v4 tm λtm1=>
 M.pure tm1
theorem VD_:RegEq 57 26 DL JM_ HD_:={}
theorem Xm_:Ah ZP=some 25:=by kernel_rfl
theorem Aga_: ∃k,AY_= .code .ret::k:=⟨AY_.tail,by kernel_rfl⟩
def Fz_:Rg:=λE call round tm=>
 mv (T.get tm 5) λv15=>
 bI E .add 3 (.tmp 15) (.const (.int .i64 1)) (some v15) (some (.int .i64 1)) λv16=>
 mv (some v16) λv5=>
 setF 5 v5 tm λtm1=>
 M.pure tm1
theorem AeF_:RegEq 57 26 DL IY_ Fz_:={}
theorem ZR_:Cv envS 35 [(1, .int .i64 (-7))]=some (u8l (List.replicate 16 0)++[.int .i64 (-7), .int .i64 0]):=by kernel_rfl
theorem AeU_:Cv envS 85 [(0, .int .i64 (-7))]=some [.int .i64 (-7), .int .i64 0, .slice none 0 0]:=by kernel_rfl
theorem W8:SJ_=[]:=by kernel_rfl
section
variable {os:List PkI}{bo C n0:Nat}{s0:St}
def OvI (os:List PkI)(bo i:Nat)(s:St):Prop:= ∀j (hj:j<os.length),i<=j->Own s bo (j*3+2) os[j].v/\An s bo (j*3) 3/\HiW s os[j].v
theorem OvI.same {i:Nat}{s s':St}(h:OvI os bo i s)(hm:s'.mem=s.mem)(hn:s'.next=s.next):OvI os bo i s':=λj hj hi=>
 let ⟨a,b,c⟩:=h j hj hi
 ⟨a.same hm hn,λk hk=>let ⟨u,hu⟩:=b k hk;⟨u,hu.same hm hn⟩,c.same hm hn⟩
theorem AdS_ {α:Type}{R:α->α->Prop}{l:List α}(h:l.Pairwise R){i j:Nat}(hi:i<l.length)(hj:j<l.length)(hij:i<j):R l[i] l[j]:=List.pairwise_iff_getElem.1 h i j hi hj hij
theorem UW_ (hno:n0<=bo)(hlo: ∀o∈os,∀x,HiF o.v x->n0<=x/\ ¬MkF 3 os.length bo x)(hsp:os.Pairwise λp q=> ∀x,HiF p.v x-> ¬HiF q.v x){i:Nat}(hi:i<os.length){b o N c:Nat}(hv:os[i].v= .slice (some ⟨b,o,none⟩) N c){Q:Value×FrameMode->St->Prop}(hb0:s0.lim<=s0.next)(hN:N<=1000000000):
  ∀(k m n:Nat) (tm:T Value) (s:St) (td:List Item),k+m=N->10*m+10<=n->skim 64 td=K1->Ext Any (λy=>n0<=y) s0 s->OvI os bo i s->
  T.get tm 0=some (.slice (some ⟨bo,0,none⟩) os.length C)->T.get tm 2=some (.int .i64 (i:Nat))->T.get tm 3=some (.int .i64 (k:Nat))->
  (∀n' tm' s1 td',n<=n'+10*m+5->skim 64 td'=Ly->Ext Any (λy=>n0<=y) s0 s1->OvI os bo i s1->T.get tm' 0=some (.slice (some ⟨bo,0,none⟩) os.length C)->T.get tm' 2=some (.int .i64 (i:Nat))->W (runF envS n' ⟨46,KP,C1,tm',td', .run, .normal,none⟩) s1 Q)->
  W (runF envS n ⟨46,KP,C1,tm,td, .run, .normal,none⟩) s Q:=by
 have hF: ∀x,In b o (N*18) x->HiF os[i].v x:=λx hx=>by rw[hv];exact hx
 intro k m
 induction m generalizing k with
 |zero=>
  intro n tm s td hk hn hT hx hI h0 h2 h3 q
  obtain⟨g1,g2,g3⟩:=hI i hi (Nat.le_refl _)
  refine Mp.u ?_ hT
  simp only[LU,RR,SS,h0,h2,h3,AL Bv hi,Au DY (by decide)]
  refine aB (v:=os[i].v) Cn (by rw[Nat.zero_add];exact g1.at') ?_
  rw[hv]
  simp only[Ak,AP Dg]
  refine aH QV ?_
  exact q _ _ _ _ (by omega) rfl (hx.trans (Ext.rdN (F:=Any) (G:=Non) s _ λ_=>trivial) hb0 (λ_ _ _=>trivial) λ_ _ h=>h.elim) (hI.same rfl rfl) (by simp[T.get_set,h0]) (by simp[T.get_set,h2])
 |succ m ih=>
  intro n tm s td hk hn hT hx hI h0 h2 h3 q
  obtain⟨g1,g2,g3⟩:=hI i hi (Nat.le_refl _)
  have hkN:k<N:=by omega
  refine Mp.u ?_ hT
  simp only[LU,RR,SS,h0,h2,h3,AL Bv hi,Au DY (by decide)]
  refine aB (v:=os[i].v) Cn (by rw[Nat.zero_add];exact g1.at') ?_
  rw[hv]
  simp only[Ak,AP Dg]
  refine aI QV ?_
  have x1:Ext Any (λy=>n0<=y) s0 (s.rdN (bo+(0+i*3+2))):=hx.trans (Ext.rdN (F:=Any) (G:=Non) s _ λ_=>trivial) hb0 (λ_ _ _=>trivial) λ_ _ h=>h.elim
  have I1:OvI os bo i (s.rdN (bo+(0+i*3+2))):=hI.same rfl rfl
  generalize s.rdN (bo+(0+i*3+2))=s1 at *
  obtain⟨f1,f2,f3⟩:=I1 i hi (Nat.le_refl _)
  refine TA_.u ?_
  simp only[T2,RR,SS,Nat.reduceEqDiff,reduceCtorEq, ↓reduceIte,h0,h2,h3,AL Bv hi,Au DY (by decide)]
  refine aB (v:=os[i].v) Cn (by rw[Nat.zero_add];exact f1.at') ?_
  have x2:Ext Any (λy=>n0<=y) s0 (s1.rdN (bo+(0+i*3+2))):=x1.trans (Ext.rdN (F:=Any) (G:=Non) s1 _ λ_=>trivial) hb0 (λ_ _ _=>trivial) λ_ _ h=>h.elim
  have I2:OvI os bo i (s1.rdN (bo+(0+i*3+2))):=I1.same rfl rfl
  generalize s1.rdN (bo+(0+i*3+2))=s2 at *
  obtain⟨e1,e2,e3⟩:=I2 i hi (Nat.le_refl _)
  rw[hv]
  simp only[CA ZR_,AL Dg hkN]
  have hO:An s2 b o (N*18):=by
   rcases e3 with h|⟨b',o',N',c',h,hO⟩
   ·rw[hv]at h;cases h
   ·rw[hv]at h;cases h;exact hO
  have hk18:(k+1)*18<=N*18:=Nat.mul_le_mul_right _ hkN
  have hl:(u8l (List.replicate 16 0)++[Value.int .i64 (-7),Value.int .i64 0]:List Value).length=18:=rfl
  refine W.store Kd (by rw[C2];rfl) (by rw[C2];rfl) (λj hj=>by
   obtain⟨u,hu⟩:=hO (k*18+j) (by omega)
   exact⟨u,by rw[Nat.add_assoc];exact hu⟩) λs3 n3 x3 o3=> ?_
  rw[C2]at o3
  have hin: ∀y,In b (o+k*18) 18 y->In b o (N*18) y:=λy h=>⟨by have:=h.1;omega,by have:=h.2;omega⟩
  have x3':Ext Any (λy=>n0<=y) s0 s3:=x2.trans x3 hb0 (λ_ _ _=>trivial) λy _ h=>(hlo _ (List.getElem_mem hi) y (hF y (hin y h))).1
  have I3:OvI os bo i s3:=λj hj hij=>by
   obtain⟨a1,a2,a3⟩:=I2 j hj hij
   have hrow: ∀y,In bo (j*3) 3 y-> ¬In b (o+k*18) 18 y:=λy h1 h2=>by
    refine(hlo _ (List.getElem_mem hi) y (hF y (hin y h2))).2 ⟨by omega,by have:=h1.1;omega, ?_⟩
    have h3:=h1.2
    have:(j+1)*3<=os.length*3:=Nat.mul_le_mul_right _ hj
    omega
   refine⟨a1.ext x3 (hrow _ ⟨by omega,by omega⟩),a2.ext1 x3 hrow, ?_⟩
   rcases Nat.lt_or_ge i j with h|h
   ·exact a3.ext x3 λy h1 h2=>AdS_ hsp hi hj h y (hF y (hin y h2)) h1
   ·have hj':j=i:=by omega
    subst hj'
    refine .inr ⟨b,o,N,c,hv, ?_⟩
    exact An.ext (a:=o+k*18) hO (by rw[hl];exact x3) o3
  refine AhM_.u ?_
  have ei:=eiW (i:=k) (by omega)
  simp only[FI_,RR,SS,Nat.reduceEqDiff, ↓reduceIte,Aw,h3,ei]
  exact ih (k+1) _ _ s3 _ (by omega) (by omega) AiZ_ x3' I3 (by simp[T.get_set,h0]) (by simp[T.get_set,h2]) (by simp[T.get_set]) λn' tm' s4 td' e=>q n' tm' s4 td' (by omega)
theorem AjV_ (hno:n0<=bo)(hlo: ∀o∈os,∀x,HiF o.v x->n0<=x/\ ¬MkF 3 os.length bo x)(hsp:os.Pairwise λp q=> ∀x,HiF p.v x-> ¬HiF q.v x){Q:Value×FrameMode->St->Prop}(hb0:s0.lim<=s0.next)(hcx:s0.cx=cxN){M:Nat}(hM: ∀o∈os,o.hs.length<=M)(hM2:M<=1000000)(hl0:os.length<=1000000)(hlen: ∀p∈os,∀a N c,p.v= .slice a N c->N=p.hs.length)
  (q: ∀s1,Ext Any (λy=>n0<=y) s0 s1->Q (.tuple #[], .run) s1):
  ∀(k i n:Nat) (tm:T Value) (s:St) (td:List Item),i+k=os.length->(10*M+40)*k+20<=n->skim 64 td=J1->Ext Any (λy=>n0<=y) s0 s->OvI os bo i s->
  T.get tm 0=some (.slice (some ⟨bo,0,none⟩) os.length C)->T.get tm 2=some (.int .i64 (i:Nat))->
  W (runF envS n ⟨46,KP,C1,tm,td, .run, .normal,none⟩) s Q:=by
 intro k
 induction k with
 |zero=>
  intro i n tm s td hi hn hT hx hI h0 h2
  refine PT.u ?_ hT
  simp only[Lp,RR,SS,Ak,h0,h2,AP Bv]
  refine aH NK ?_
  exact aF (rs:=[]) (vs:=[]) rfl (.inr W8) (by omega) Qo Ix_ (hx.cx.trans hcx) rfl (q s hx)
 |succ k ih=>
  intro i n tm s td hi hn hT hx hI h0 h2
  have hil:i<os.length:=by omega
  have hmul:(10*M+40)*(k+1)=(10*M+40)*k+(10*M+40):=Nat.mul_succ _ _
  refine PT.u ?_ hT
  simp only[Lp,RR,SS,Ak,h0,h2,AP Bv]
  refine aI NK ?_
  refine RZ_.u ?_
  simp only[Gg_,RR,SS]
  have last: ∀n' tm' s1 td',(10*M+40)*k+30<=n'->skim 64 td'=Ly->Ext Any (λy=>n0<=y) s0 s1->OvI os bo i s1->T.get tm' 0=some (.slice (some ⟨bo,0,none⟩) os.length C)->T.get tm' 2=some (.int .i64 (i:Nat))->W (runF envS n' ⟨46,KP,C1,tm',td', .run, .normal,none⟩) s1 Q:=by
   intro n' tm' s1 td' hn' hT' x1 I1 k0 k2
   obtain⟨g1,g2,g3⟩:=I1 i hil (Nat.le_refl _)
   refine AhB_.u ?_ hT'
   simp only[Fg_,RR,SS,k0,k2,CA AeU_,AL Bv hil]
   refine W.store CZ rfl rfl (λj hj=>by rw[Nat.zero_add];exact g2 j hj) λs2 n2 x2 o2=> ?_
   rw[Nat.zero_add]at x2
   have hmk: ∀y,In bo (i*3) 3 y->MkF 3 os.length bo y:=λy h=>⟨by omega,by have:=h.1;omega,by
    have h3:=h.2
    have:(i+1)*3<=os.length*3:=Nat.mul_le_mul_right _ hil
    omega⟩
   have x2':Ext Any (λy=>n0<=y) s0 s2:=x1.trans x2 hb0 (λ_ _ _=>trivial) λy _ h=>by have:=h.1;omega
   have I2:OvI os bo (i+1) s2:=λj hj hij=>by
    obtain⟨a1,a2,a3⟩:=I1 j hj (by omega)
    have hd: ∀y,In bo (j*3) 3 y-> ¬In bo (i*3) 3 y:=λy h1 h2=>by
     have h3:=h1.1
     have h4:=h2.2
     have:(i+1)*3<=j*3:=Nat.mul_le_mul_right _ hij
     omega
    exact⟨a1.ext x2 (hd _ ⟨by omega,by omega⟩),a2.ext1 x2 hd,a3.ext x2 λy h1 h2=>(hlo _ (List.getElem_mem hj) y h1).2 (hmk y h2)⟩
   refine Ya_.u ?_
   have ei:=eiW (i:=i) (by omega)
   simp only[Y0,RR,SS,Aw,k2,ei]
   exact ih (i+1) _ _ s2 _ (by omega) (by omega) WD_ x2' I2 (by simp[T.get_set,k0]) (by simp[T.get_set])
  obtain⟨g1,g2,g3⟩:=hI i hil (Nat.le_refl _)
  rcases g3 with hv|⟨b,o,N,c,hv,hO⟩
  ·refine Mp.u ?_
   simp only[LU,RR,SS,Nat.reduceEqDiff,reduceCtorEq, ↓reduceIte,h0,h2,AL Bv hil,Au DY (by decide)]
   refine aB (v:=os[i].v) Cn (by rw[Nat.zero_add];exact g1.at') ?_
   rw[hv]
   simp only[Ak,AP Dg]
   refine aH QV ?_
   exact last _ _ _ _ (by omega) rfl (hx.trans (Ext.rdN (F:=Any) (G:=Non) s _ λ_=>trivial) hb0 (λ_ _ _=>trivial) λ_ _ h=>h.elim) (hI.same rfl rfl) (by simp[T.get_set,h0]) (by simp[T.get_set,h2])
  ·have hN:=hlen _ (List.getElem_mem hil) _ _ _ hv
   have hNM:=hM _ (List.getElem_mem hil)
   exact UW_ hno hlo hsp hil hv hb0 (by omega) 0 N _ _ s _ (by omega) (by omega) rfl hx hI (by simp[T.get_set,h0]) (by simp[T.get_set,h2]) (by simp[T.get_set]) λn' tm' s1 td' hn'=>last n' tm' s1 td' (by omega)
end
theorem Add_ {n n0 bo M:Nat}{vo:Value}{os:List PkI}{s:St}{Q:Value->St->Prop}(hb:s.lim<=s.next)(hp:PkR s vo os)(hw:PkW n0 s os vo bo)(hM: ∀o∈os,o.hs.length<=M)(hM2:M<=1000000)(hl:os.length<=1000000)(hn:(10*M+40)*os.length+100<=n)
  (q: ∀s1,Ext Any (λy=>n0<=y) s s1->Q (.tuple #[]) s1):W (Ab envS (runF envS n) 46 [vo]) s Q:=by
 refine AhG_ λtm h0=> ?_
 refine Qy_.u ?_
 simp only[HV_,RR,SS]
 rcases hw.mo with⟨rfl,h1,_⟩|⟨hm,_⟩
 ·refine PT.u ?_
  simp only[Lp,RR,SS,reduceCtorEq, ↓reduceIte,Ak,h0,AP Bv]
  refine aH NK ?_
  exact aF (rs:=[]) (vs:=[]) rfl (.inr W8) (by omega) Qo Ix_ rfl rfl (q _ (Ext.refl s))
 ·have hlen: ∀p∈os,∀a N c,p.v= .slice a N c->N=p.hs.length:=λp hp' a N c e=>by
   rcases hp.hs p hp' with⟨e1,e2⟩|⟨b,o,c',e1,_⟩
   ·rw[e1]at e;cases e;rw[e2];rfl
   ·rw[e1]at e;cases e;rfl
  have hI:OvI os bo 0 s:=λj hj _=>by
   have h3: ∀k (hk:k<3),Own s bo (j*3+k) ((pkC os[j])[k]'(hk)):=λk hk=>by
    have:=hm.own (j*3+k) _ (by rw[Fx hj hk];exact List.getElem?_eq_getElem (by exact hk))
    rwa [Nat.zero_add]at this
   exact⟨h3 2 (by decide),λk hk=>⟨_,h3 k hk⟩,hw.ow _ (List.getElem_mem hj)⟩
  have hv:=hm.val
  refine AjV_ (s0:=s.cxN cxN) hw.no hw.lo hw.sp hb rfl hM hM2 hl hlen (λs1 x1=>q _ x1.cx') os.length 0 _ _ _ _ (by omega) ?_ rfl (Ext.refl _) (hI.same rfl rfl) (by simp[T.get_set,h0,hv];rfl) (by simp[T.get_set])
  omega
theorem IntR.at {s:St}{v:Value}{l:List Int}(h:IntR s v l){i:Nat}(hi:i<l.length): ∃b o c,v= .slice (some ⟨b,o,none⟩) l.length c/\At s b (o+i*1) (.int .i64 l[i]):=by
 rcases h with⟨_,rfl⟩|⟨b,o,c,rfl,h3⟩
 ·simp at hi
 ·refine⟨b,o,c,rfl, ?_⟩
  rw[Nat.mul_one]
  exact h3 i _ (by rw[List.getElem?_map,List.getElem?_eq_getElem hi];rfl)
section
variable {va vb:Value}{l:List Int}{Q:Value×FrameMode->St->Prop}{s0:St}
theorem Aet_ (hb0:s0.lim<=s0.next)(ha:IntR s0 va l)(hb:IntR s0 vb l)(hl:l.length<=1000000000)(hcx:s0.cx=cxN)(q: ∀s1,Ext Any Non s0 s1->Q (.bool true, .run) s1):
  ∀(k i n:Nat) (tm:T Value) (s:St) (td:List Item),i+k=l.length->10*k+20<=n->skim 64 td=KC->Ext Any Non s0 s->
  T.get tm 0=some va->T.get tm 1=some vb->T.get tm 5=some (.int .i64 (i:Nat))->
  W (runF envS n ⟨57,Amg_,DL,tm,td, .run, .normal,none⟩) s Q:=by
 intro k
 induction k with
 |zero=>
  intro i n tm s td hi hn hT hx h0 h1 h5
  refine Lg_.u ?_ hT
  simp only[RE,RR,SS,h0,h5]
  rw[ha.len]
  try simp only[Ak]
  refine aH Ts ?_
  refine VD_.u ?_
  simp only[HD_,RR,SS]
  refine aF (rs:=[4]) (vs:=[.bool true]) rfl (.inl Aga_) (by omega) Ss PO_ (hx.cx.trans hcx) (by simp[T.get_set]) ?_
  exact q s hx
 |succ k ih=>
  intro i n tm s td hi hn hT hx h0 h1 h5
  have hil:i<l.length:=by omega
  obtain⟨ba,oa,ca,ea,ga⟩:=(ha.ext0 hx).at hil
  obtain⟨bb,ob,cb,eb,gb⟩:=(hb.ext0 hx).at hil
  refine Lg_.u ?_ hT
  simp only[RE,RR,SS,h0,h5]
  rw[ha.len]
  try simp only[Ak]
  refine aI Ts ?_
  refine Ahi_.u ?_
  have a0:At (dSt s.mem s.next) ba (oa+i*1) (.int .i64 l[i]):=ga.same rfl rfl
  have b0:At (dSt s.mem s.next) bb (ob+i*1) (.int .i64 l[i]):=gb.same rfl rfl
  simp only[Wy,RR,T.get_set,Nat.reduceEqDiff, ↓reduceIte,h0,h1,h5,ea,eb,AJ,Ag]
  rw[W_dq λs Q=>AL (s:=s) Kc hil Q]
  dsimp only
  refine aC AT a0 λrd3 hr3=> ?_
  try simp only[Ag]
  rw[W_dq λs Q=>AL (s:=s) Kc hil Q]
  dsimp only
  refine aC AT b0 λrd7 hr7=> ?_
  rw[AK]
  refine⟨CI (by simp) (by simp), ?_⟩
  refine aJ (Acf_ ..) ?_
  have eqn: ∀x:Int,(!decide (x=x))=false:=λx=>by simp
  simp only[SS,CQ]
  have hx': ∀(l:List OpLog),(∀m∈l,m.wr=[])->Ext Any Non s0 ⟨(dSt s.mem s.next).mem,(dSt s.mem s.next).next,s.lim,rdsL s.lim l s.rd,wrsL s.lim l s.wr,s.cx⟩:=λl hl=>hx.then0 (Ext.draw (F:=Any) (Nat.le_refl _) (λ_ _=>rfl) hl λ_ _ _ _ _=>trivial) hb0
  refine aH Xm_ ?_
  refine AeF_.u ?_
  have ei:=eiW (i:=i) (by omega)
  simp only[Fz_,RR,SS,Nat.reduceEqDiff, ↓reduceIte,Aw,h5,ei]
  exact ih (i+1) _ _ _ _ (by omega) (by omega) Ow_ (hx' _ (by simp)) (by simp[T.get_set,h0,ea]) (by simp[T.get_set,h1,eb]) (by simp[T.get_set])
end
theorem Afu_ {va vb:Value}{l:List Int}{n:Nat}{s:St}{Q:Value->St->Prop}(hbd:s.lim<=s.next)(ha:IntR s va l)(hb:IntR s vb l)(hl:l.length<=1000000000)(hn:10*l.length+100<=n)
  (q: ∀s1,Ext Any Non s s1->Q (.bool true) s1):W (Ab envS (runF envS n) 57 [va,vb]) s Q:=by
 refine VP_ λtm h0 h1=> ?_
 have ha':IntR (s.cxN cxN) va l:=ha.same rfl rfl
 have hb':IntR (s.cxN cxN) vb l:=hb.same rfl rfl
 refine Ajj_.u ?_
 simp only[LF_,RR,SS]
 refine AgR_.u ?_
 simp only[Ui,RR,SS,Nat.reduceEqDiff,reduceCtorEq, ↓reduceIte,h0,h1]
 rw[ha'.len,hb'.len]
 try simp only[CQ]
 refine aH NV_ ?_
 refine Uk_.u ?_
 simp only[Ko_,RR,SS]
 exact Aet_ (s0:=s.cxN cxN) hbd ha' hb' hl rfl (λs1 x1=>q _ x1.cx') l.length 0 _ _ _ _ (by omega) (by omega) rfl (Ext.refl _) (by simp[T.get_set,h0]) (by simp[T.get_set,h1]) (by simp[T.get_set])
