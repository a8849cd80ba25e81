import Derived.Test.YtndednnianphoaaGreatDoorJo25
noncomputable section
namespace Go.Proofs.YtndednnianphoaaGreatDoor.Am
open Go.RowKit
theorem BP_ (k:Nat): ∀(l:List (Nat×Nat)) (m m':Nat),m<=m'->maxJ k m l<=maxJ k m' l
 |[],_,_,h=>h
 |r::l,m,m',h=>BP_ k l _ _ (by split<;>omega)
theorem ZZ (k:Nat): ∀(L:LsJ) (m m':Nat),m<=m'->maxA k m L<=maxA k m' L
 |[],_,_,h=>h
 |p::L,m,m',h=>ZZ k L _ _ (BP_ k p.1 _ _ h)
theorem ZH (k i:Nat)(L:LsJ):maxA k 0 (L.drop i)<=maxA k 0 L:=by
 have h:=Ec k (L.take i) (L.drop i) 0
 rw[List.take_append_drop]at h
 rw[h]
 exact ZZ k _ _ _ (Nat.zero_le _)
theorem Sy: ∀(R:List (Nat×Nat)) (kk:Nat),kk<=9*R.length-> ∃j t,j<=R.length/\t.length<9/\(Aq R).take kk=Aq (R.take j)++t
 |[],kk,h=>⟨0,[],Nat.le_refl _,by decide,by simp[Aq]⟩
 |r::R,kk,h=>by
  rcases Nat.lt_or_ge kk 9 with h9|h9
  ·refine⟨0,(Aq (r::R)).take kk,Nat.zero_le _,by rw[List.length_take];omega,by simp[Aq]⟩
  ·obtain⟨j,t,h1,h2,h3⟩:=Sy R (kk-9) (by rw[List.length_cons]at h;omega)
   refine⟨j+1,t,by rw[List.length_cons];omega,h2, ?_⟩
   show(recJ r++Aq R).take kk=(recJ r++Aq (R.take j))++t
   rw[List.take_append,B7,List.take_of_length_le (by rw[B7];omega),h3,List.append_assoc]
def CrP (f g:FileS):Prop:=g.name=f.name/\g.lb=[]/\ ∃kk,kk<=f.lb.length/\g.sb=f.sb++f.lb.take kk
def CR:List FileS->List FileS->Prop
 |[],[]=>True
 |f::fs,g::gs=>CrP f g/\CR fs gs
 |_,_=>False
theorem CR.of: ∀{fs gs:List FileS},gs.length=fs.length->(∀t (h:t<fs.length) (h':t<gs.length),CrP fs[t] gs[t])->CR fs gs
 |[],[],_,_=>trivial
 |f::fs,g::gs,hl,h=>⟨h 0 (by simp) (by simp),CR.of (by simpa using hl) λt h1 h2=>h (t+1) (by simpa using h1) (by simpa using h2)⟩
 |[],_::_,hl,_=>by simp at hl
 |_::_,[],hl,_=>by simp at hl
theorem CrG.cr {fs gs:List FileS}{V:Nat->Prop}(h:CrG fs gs V)(hV: ∀t,t<fs.length->V t):CR fs gs:=
 CR.of h.1 λt h1 h2=>by
  obtain⟨v,b,kk,hk,e⟩:=(h.2 t h1 h2).1 (hV t h1)
  rw[e]
  exact⟨rfl,rfl,kk,hk,rfl⟩
theorem FJ.cr: ∀{m:Nat} {fs gs:List FileS} {L:LsJ},FJ m fs L->CR fs gs->FJ m gs L
 |_,[],[],[],_,_=>trivial
 |m,f::fs,g::gs,p::L,h,hc=>by
  obtain⟨h1,h2,kk,_,h3⟩:=hc.1
  refine⟨⟨h1.trans h.1.name, ?_,h2⟩,FJ.cr h.2 hc.2⟩
  rw[h3,h.1.sb,h.1.lb]
  simp
 |_,[],_::_,_,_,hc=>hc.elim
 |_,_::_,[],_,_,hc=>hc.elim
 |_,[],[],_::_,h,_=>h.elim
 |_,_::_,_::_,[],h,_=>h.elim
theorem CR.snoc: ∀{fs gs:List FileS} {f:FileS},CR (fs++[f]) gs-> ∃gs' g,gs=gs'++[g]/\CR fs gs'/\CrP f g
 |[],[],_,h=>h.elim
 |[],[g],_,h=>⟨[],g,rfl,trivial,h.1⟩
 |[],_::_::_,_,h=>h.2.elim
 |_::_,[],_,h=>h.elim
 |a::fs,b::gs,f,h=>by
  obtain⟨gs',g,e,h1,h2⟩:=CR.snoc (fs:=fs) (gs:=gs) h.2
  exact⟨b::gs',g,by rw[e];rfl,⟨h.1,h1⟩,h2⟩
theorem FJ.used: ∀{m:Nat} {fs:List FileS} {L:LsJ},FJ m fs L->LsOk L->(fs.map λf=>f.sb.length+f.lb.length).sum<=908*L.length
 |_,[],[],_,_=>Nat.zero_le _
 |m,f::fs,p::L,h,hL=>by
  have h1:=FJ.used h.2 λq hq=>hL q (by simp[hq])
  obtain⟨_,h2,h3⟩:=hL p (by simp)
  rw[List.map_cons,List.sum_cons,h.1.sb,h.1.lb,List.length_append,Et,List.length_cons]
  simp only[List.length_nil]
  omega
 |_,[],_::_,h,_=>h.elim
 |_,_::_,[],h,_=>h.elim
structure RestJ (fs:List FileS)(m:Nat)(L:LsJ)(t:Nat):Prop where
 f:FJ m fs L
 ok:LsOk L
 m0:L=[]->m=1
 m1:1<=m
 ml:m+L.length<=t+1
 ll:L.length<=t
 mx:maxA 1 0 L+maxA 2 0 L<=20*t
theorem LsOk.one {R:List (Nat×Nat)}{t:List Nat}(h1: ∀r∈R,BC r)(h2:R.length<=100)(h3:t.length<9):LsOk [(R,t)]:=λp hp=>by
 rw[List.mem_singleton.1 hp]
 exact⟨h1,h2,h3⟩
theorem LsOk.app {A B:LsJ}(h1:LsOk A)(h2:LsOk B):LsOk (A++B):=λp hp=>by
 rcases List.mem_append.1 hp with h|h
 ·exact h1 p h
 ·exact h2 p h
theorem Kk {a b:Nat}(ha:a<256)(hb:b<256): ∀r∈[(1,a),(2,b)],BC r:=λr hr=>by
 rcases List.mem_cons.1 hr with rfl|hr
 ·exact⟨by simp,by simp,ha⟩
 ·rw[List.mem_singleton.1 hr]
  exact⟨by simp,by simp,hb⟩
theorem XU_ {R:List (Nat×Nat)}{j:Nat}(h: ∀r∈R,BC r): ∀r∈R.take j,BC r:=λr hr=>h r (List.mem_of_mem_take hr)
theorem WZ (a b j:Nat):maxJ 1 a ([(1,a),(2,b)].take j)=a:=by
 match j with
 |0=>rfl
 |1=>show max a a=a;omega
 |j+2=>
  rw[List.take_of_length_le (show [(1,a),(2,b)].length<=j+2 by simp)]
  show max a a=a
  omega
theorem Cn_ (a b j:Nat):maxJ 2 b ([(1,a),(2,b)].take j)=b:=by
 match j with
 |0=>rfl
 |1=>rfl
 |j+2=>
  rw[List.take_of_length_le (show [(1,a),(2,b)].length<=j+2 by simp)]
  show max b b=b
  omega
theorem RestJ.cut {m t:Nat}{L:LsJ}{fs fs' gs:List FileS}(h:RestJ fs m L t)(ht:20*t<256)(ho:OutJ m L (maxA 1 0 L) (maxA 2 0 L) fs')(hc:CR fs' gs): ∃m' L',RestJ gs m' L' (t+1)/\maxA 1 0 L'=maxA 1 0 L/\maxA 2 0 L'=maxA 2 0 L:=by
 have hmx:=h.mx
 have hml:=h.ml
 have hll:=h.ll
 have hm1:=h.m1
 generalize ha:maxA 1 0 L=a at *
 generalize hb:maxA 2 0 L=b at *
 rcases ho with ho|⟨fs0,g,rfl,hf0,hgn,hgs,hgl⟩|⟨i,hi,ho⟩
 ·exact⟨m,L,⟨ho.cr hc,h.ok,h.m0,h.m1,by omega,by omega,by omega⟩,ha,hb⟩
 ·obtain⟨gs',g',rfl,hc1,h1,h2,kk,hk,h3⟩:=hc.snoc
  rw[hgl]at hk h3
  rw[Et]at hk
  obtain⟨j,t',hj,ht',e⟩:=Sy [(1,a),(2,b)] kk hk
  refine⟨m,L++[([(1,a),(2,b)].take j,t')],⟨(hf0.cr hc1).snoc ⟨h1.trans hgn, ?_,h2⟩,h.ok.app (LsOk.one (XU_ (Kk (by omega) (by omega))) (by rw[List.length_take];simp;omega) ht'),λe=>by simp at e,h.m1,by rw[List.length_append,List.length_singleton];omega,by rw[List.length_append,List.length_singleton];omega, ?_⟩, ?_, ?_⟩
  ·rw[h3,hgs,e]
   rfl
  ·rw[Ec,Ec,ha,hb]
   show maxJ 1 a _+maxJ 2 b _<=_
   rw[WZ,Cn_]
   omega
  ·rw[Ec,ha]
   exact WZ a b j
  ·rw[Ec,hb]
   exact Cn_ a b j
 ·have d1:=ZH 1 i L
  have d2:=ZH 2 i L
  rw[ha]at d1
  rw[hb]at d2
  have e1:maxA 1 0 (L.drop i++[([(1,a),(2,b)],[])])=a:=by
   rw[Ec]
   show max (maxA 1 0 (L.drop i)) a=a
   omega
  have e2:maxA 2 0 (L.drop i++[([(1,a),(2,b)],[])])=b:=by
   rw[Ec]
   show max (maxA 2 0 (L.drop i)) b=b
   omega
  refine⟨m+i,L.drop i++[([(1,a),(2,b)],[])],⟨ho.cr hc,LsOk.app (λp hp=>h.ok p (List.mem_of_mem_drop hp)) (LsOk.one (Kk (by omega) (by omega)) (by simp) (by simp)),λe=>by simp at e,by omega,by rw[List.length_append,List.length_singleton,List.length_drop];omega,by rw[List.length_append,List.length_singleton,List.length_drop];omega,by rw[e1,e2];omega⟩,e1,e2⟩
theorem RestJ.one {i t a b:Nat}{R:List (Nat×Nat)}{g:FileS}{gs:List FileS}(hi:1<=i)(hit:i<=t+1)(hs:Safe g (nmJ i) (Aq R))(hR: ∀r∈R,BC r)(hRl:R.length<=100)(h1:maxJ 1 0 R=a)(h2:maxJ 2 0 R=b)(hab:a+b<=20*(t+1))(hc:CR [g] gs): ∃m' L',RestJ gs m' L' (t+1)/\maxA 1 0 L'=a/\maxA 2 0 L'=b:=by
 refine⟨i,[(R,[])],⟨FJ.cr (fs:=[g]) ⟨by rw[List.append_nil];exact hs,trivial⟩ hc,LsOk.one hR hRl (by simp),λe=>by simp at e,hi,by simp;omega,by simp, ?_⟩,h1,h2⟩
 show maxJ 1 0 R+maxJ 2 0 R<=_
 omega
theorem RestJ.brk {i t:Nat}{R:List (Nat×Nat)}{r:Nat×Nat}{g:FileS}{gs:List FileS}(hi:1<=i)(hit:i<=t+1)(hn:g.name=nmJ i)(hsb:g.sb=Aq R)(hlb:g.lb=[]\/g.lb=recJ r)(hR: ∀r∈R,BC r)(hr:BC r)(hRl:R.length<=99)(hab:maxJ 1 0 (R++[r])+maxJ 2 0 (R++[r])<=20*(t+1))(hc:CR [g] gs): ∃m' L',RestJ gs m' L' (t+1)/\((maxA 1 0 L'=maxJ 1 0 R/\maxA 2 0 L'=maxJ 2 0 R)\/(maxA 1 0 L'=maxJ 1 0 (R++[r])/\maxA 2 0 L'=maxJ 2 0 (R++[r]))):=by
 have g1:maxJ 1 0 R<=maxJ 1 0 (R++[r]):=by rw[Fd];exact Mg
 have g2:maxJ 2 0 R<=maxJ 2 0 (R++[r]):=by rw[Fd];exact Mg
 match gs,hc with
 |[g'],⟨⟨h1,h2,kk,hk,h3⟩,_⟩=>
  have hR': ∀x∈R++[r],BC x:=λx hx=>by
   rcases List.mem_append.1 hx with hx|hx
   ·exact hR x hx
   ·rw[List.mem_singleton.1 hx];exact hr
  have lt: ∀tl:List Nat,tl.length<9->g'.sb=Aq R++tl-> ∃m' L',RestJ [g'] m' L' (t+1)/\((maxA 1 0 L'=maxJ 1 0 R/\maxA 2 0 L'=maxJ 2 0 R)\/(maxA 1 0 L'=maxJ 1 0 (R++[r])/\maxA 2 0 L'=maxJ 2 0 (R++[r]))):=λtl htl e=>
   ⟨i,[(R,tl)],⟨⟨⟨h1.trans hn,e,h2⟩,trivial⟩,LsOk.one hR (by omega) htl,λe=>by simp at e,hi,by simp;omega,by simp,by show maxJ 1 0 R+maxJ 2 0 R<=_;omega⟩, .inl ⟨rfl,rfl⟩⟩
  rcases hlb with hlb|hlb
  ·rw[hlb,hsb]at h3
   exact lt [] (by simp) (by simpa using h3)
  ·rw[hlb,hsb]at h3
   rw[hlb,B7]at hk
   rcases Nat.lt_or_ge kk 9 with h9|h9
   ·exact lt _ (by rw[List.length_take];omega) h3
   ·rw[List.take_of_length_le (by rw[B7];omega)]at h3
    refine⟨i,[(R++[r],[])],⟨⟨⟨h1.trans hn, ?_,h2⟩,trivial⟩,LsOk.one hR' (by simp;omega) (by simp),λe=>by simp at e,hi,by simp;omega,by simp,by show maxJ 1 0 (R++[r])+maxJ 2 0 (R++[r])<=_;omega⟩, .inr ⟨rfl,rfl⟩⟩
    rw[h3,SW,BN_,List.append_nil]
def AT:Nat:=Ar Tryz.f5
abbrev CS:Nat:=173
def Cy_:Code:=Tryz.f5.body.getD .skip
theorem JF:envS.fn.get 5=some Tryz.f5:=by kernel_rfl
theorem Uf_:G1 envS 5 173 AT Cy_:=λh=>
 aI JF (h _ (by kernel_rfl))
theorem LI:Tryz.f5.results.toList=[.tmp 2]:=by kernel_rfl
def TO:List Item:=skim 64 [.code Cy_]
def GY_:=nx TO
def Ws:=nx GY_
def HN_:=nx Ws
def Ox:=nx HN_
def UL:=bt Ox
def WE:=bf Ox
def Ya:=nx UL
def GA_:=nx WE
def Ej:=nx GA_
def NT:=nx Ej
def NP:=bt NT
def Xs:=bf NT
def U9:=nx NP
def Df_:=nx Xs
def OM:=nx U9
def QG:=nx Df_
def UZ:=bt OM
def Hb_:=bf OM
def Sw:=nx UZ
def VD:=nx Hb_
def LV:=bf VD
def Dm_:=nx LV
def BF_:=nx Dm_
def Za:=nx BF_
def CS_:=bf Za
def H0:=nx CS_
def Nq:=nx H0
def SE:=bt Nq
def KA:=bf Nq
def UK:=nx SE
def WT:=nx KA
def Xb:=nx UK
def YW:=bf WT
def U7:=bf Xb
theorem VQ_:skim 64 YW.tail=Ej:=by kernel_rfl
def QS:=nx U7
theorem Cf_:skim 64 QS.tail=H0:=by kernel_rfl
def Ix_:Rg:=λE call round tm=>
 mv (some (.bool false)) λv2=>
 setF 2 v2 tm λtm1=>
 M.pure tm1
theorem KX_:RegEq 5 173 AT TO Ix_:={}
def V0:Rg:=λE call round tm=>
 cN call round 6 [] λv17=>
 mv (some v17) λv3=>
 setF 3 v3 tm λtm1=>
 M.pure tm1
theorem Yu_:RegEq 5 173 AT GY_ V0:={}
def X0:Rg:=λE call round tm=>
 cN call round 23 [(some (.int .i64 1048576))] λv19=>
 mv (some v19) λv18=>
 eX 0 (some v18) λv20=>
 eX 1 (some v18) λv21=>
 mv (some v20) λv4=>
 setF 4 v4 tm λtm1=>
 mv (some v21) λv5=>
 setF 5 v5 tm1 λtm2=>
 M.pure tm2
theorem WG_:RegEq 5 173 AT Ws X0:={}
def Nb:Rg:=λE call round tm=>
 mv (T.get tm 0) λv22=>
 lN E .len [50] [(some v22)] λv23=>
 bI E .gtr 3 (.tmp 23) (.const (.int .i64 12)) (some v23) (some (.int .i64 12)) λv24=>
 mv (some v24) λv25=>
 sK v25 false (oS (T.get tm 5) λa=>M.pure a) λv26=>
 sK v25 false (oS (some v26) λa=>oS (some (.int .i64 0)) λb=>Cl.get (aBin E .neq 29 (.tmp 26) (.const (.int .i64 0))) a b) λv27=>
 M.bind (M.on (some v25) λa=>M.on (some (.bool true)) λb=>M.on (some v27) λc=>Aw a b c) λv28=>
 mv (some v28) λv29=>
 sK v29 false (oS (T.get tm 4) λa=>M.pure a) λv30=>
 sK v29 false (oS (some v30) λa=>oS (some (.pointer none)) λb=>Cl.get (aBin E .eql 25 (.tmp 30) (.const (.pointer none))) a b) λv31=>
 M.bind (M.on (some v29) λa=>M.on (some (.bool true)) λb=>M.on (some v31) λc=>Aw a b c) λv32=>
 setF 32 v32 tm λtm1=>
 M.pure tm1
theorem ON_:RegEq 5 173 AT HN_ Nb:={}
theorem Ao_:Ak Ox=some 32:=by kernel_rfl
def GZ_:Rg:=λE call round tm=>
 mv (T.get tm 3) λv33=>
 mv (some v33) λv34=>
 sK v34 true (oS (T.get tm 5) λa=>M.pure a) λv35=>
 sK v34 true (oS (some v35) λa=>oS (some (.int .i64 0)) λb=>Cl.get (aBin E .eql 29 (.tmp 35) (.const (.int .i64 0))) a b) λv36=>
 M.bind (M.on (some v34) λa=>M.on (some v36) λb=>M.on (some (.bool false)) λc=>Aw a b c) λv37=>
 mv (some v37) λv2=>
 setF 2 v2 tm λtm1=>
 M.pure tm1
theorem UQ_:RegEq 5 173 AT UL GZ_:={}
def RN:Rg:=λE call round tm=>
 M.bind (oS (seqP []) λps=>BP E 55 ps) λv38=>
 M.bind (oS (some v38) λa=>kBox a) λv39=>
 mv (some v39) λv6=>
 setF 6 v6 tm λtm1=>
 M.pure tm1
theorem IO_:RegEq 5 173 AT WE RN:={}
theorem Qh_: ∃k,Ya= .code .ret::k:=⟨Ya.tail,by kernel_rfl⟩
def Fp_:Rg:=λE call round tm=>
 mv (some (.int .i64 0)) λv7=>
 setF 7 v7 tm λtm1=>
 M.pure tm1
theorem TA_:RegEq 5 173 AT GA_ Fp_:={}
def OT:Rg:=λE call round tm=>
 mv (T.get tm 7) λv40=>
 mv (T.get tm 0) λv41=>
 lN E .len [50] [(some v41)] λv42=>
 bI E .lss 3 (.tmp 40) (.tmp 42) (some v40) (some v42) λv43=>
 setF 43 v43 tm λtm1=>
 M.pure tm1
theorem Fm_:RegEq 5 173 AT Ej OT:={}
theorem AG_:Ak NT=some 43:=by kernel_rfl
def Hn_:Rg:=λE call round tm=>
 mv (T.get tm 0) λv46=>
 mv (T.get tm 7) λv47=>
 iD E 50 (some v46) (some v47) λv48=>
 lD E 57 (some v48) λv49=>
 M.bind (Ce E 57) λv8=>
 setF 8 v8 tm λtm1=>
 M.bind (oS (some v8) λa=>oS (some v49) λb=>AB E 57 a b) λ_=>
 M.pure tm1
theorem Lu_:RegEq 5 173 AT NP Hn_:={}
def FF_:Rg:=λE call round tm=>
 mv (T.get tm 4) λv155=>
 cN call round 13 [(some v155)] λv156=>
 mv (some v156) λv154=>
 eX 0 (some v154) λv157=>
 eX 1 (some v154) λv158=>
 mv (some v157) λv15=>
 setF 15 v15 tm λtm1=>
 mv (some v158) λv16=>
 setF 16 v16 tm1 λtm2=>
 M.pure tm2
theorem YS_:RegEq 5 173 AT Xs FF_:={}
def Z5:Rg:=λE call round tm=>
 fD E 57 0 (T.get tm 8) λv50=>
 lD E 22 (some v50) λv51=>
 lN E .len [22] [(some v51)] λv52=>
 bI E .gtr 3 (.tmp 52) (.const (.int .i64 20)) (some v52) (some (.int .i64 20)) λv53=>
 setF 53 v53 tm λtm1=>
 M.pure tm1
theorem NE_:RegEq 5 173 AT U9 Z5:={}
def EM_:Rg:=λE call round tm=>
 mv (T.get tm 3) λv159=>
 mv (some v159) λv160=>
 sK v160 true (oS (T.get tm 16) λa=>M.pure a) λv161=>
 sK v160 true (oS (some v161) λa=>oS (some (.int .i64 0)) λb=>Cl.get (aBin E .eql 29 (.tmp 161) (.const (.int .i64 0))) a b) λv162=>
 M.bind (M.on (some v160) λa=>M.on (some v162) λb=>M.on (some (.bool false)) λc=>Aw a b c) λv163=>
 mv (some v163) λv164=>
 sK v164 true (oS (T.get tm 15) λa=>M.pure a) λv165=>
 sK v164 true (oS (some v165) λa=>oS (some (.pointer none)) λb=>Cl.get (aBin E .neq 26 (.tmp 165) (.const (.pointer none))) a b) λv166=>
 M.bind (M.on (some v164) λa=>M.on (some v166) λb=>M.on (some (.bool false)) λc=>Aw a b c) λv167=>
 mv (some v167) λv168=>
 sK v168 true (oS (T.get tm 6) λa=>M.pure a) λv169=>
 sK v168 true (oS (T.get tm 15) λa=>M.pure a) λv170=>
 sK v168 true (M.on (some (.func (.func 25) #[] #[])) λf=>M.on (seqO [(some v169),(some v170)]) λl=>Be call round f l) λv171=>
 M.bind (M.on (some v168) λa=>M.on (some v171) λb=>M.on (some (.bool false)) λc=>Aw a b c) λv172=>
 mv (some v172) λv2=>
 setF 2 v2 tm λtm1=>
 M.pure tm1
theorem Yy_:RegEq 5 173 AT Df_ EM_:={}
theorem Ea_:Ak OM=some 53:=by kernel_rfl
theorem VF_: ∃k,QG= .code .ret::k:=⟨QG.tail,by kernel_rfl⟩
def AL_:Rg:=λE call round tm=>
 mv (T.get tm 3) λv54=>
 mv (some v54) λv2=>
 setF 2 v2 tm λtm1=>
 M.pure tm1
theorem ZT_:RegEq 5 173 AT UZ AL_:={}
def Si:Rg:=λE call round tm=>
 fD E 57 1 (T.get tm 8) λv55=>
 lD E 3 (some v55) λv56=>
 bI E .geq 3 (.tmp 56) (.const (.int .i64 0)) (some v56) (some (.int .i64 0)) λv57=>
 mv (some v57) λv58=>
 sK v58 true (oS (T.get tm 4) λa=>M.pure a) λv59=>
 sK v58 true (oS (T.get tm 8) λa=>kFld E 57 a 1) λv60=>
 sK v58 true (oS (some v60) λa=>AQ E 3 a) λv61=>
 sK v58 true (M.on (some (.func (.func 24) #[] #[])) λf=>M.on (seqO [(some v59),(some v61)]) λl=>Be call round f l) λv62=>
 sK v58 true (oS (some v62) λa=>oS (some (.int .i64 0)) λb=>Cl.get (aBin E .neq 29 (.tmp 62) (.const (.int .i64 0))) a b) λv63=>
 M.bind (M.on (some v58) λa=>M.on (some v63) λb=>M.on (some (.bool false)) λc=>Aw a b c) λv64=>
 setF 64 v64 tm λtm1=>
 M.pure tm1
theorem Lf_:RegEq 5 173 AT Hb_ Si:={}
theorem XS_: ∃k,Sw= .code .ret::k:=⟨Sw.tail,by kernel_rfl⟩
theorem Yk:Ak VD=some 64:=by kernel_rfl
def Ij_:Rg:=λE call round tm=>
 mv (T.get tm 4) λv66=>
 cN call round 13 [(some v66)] λv67=>
 mv (some v67) λv65=>
 eX 0 (some v65) λv68=>
 eX 1 (some v65) λv69=>
 mv (some v68) λv9=>
 setF 9 v9 tm λtm1=>
 mv (some v69) λv10=>
 setF 10 v10 tm1 λtm2=>
 M.pure tm2
theorem OV_:RegEq 5 173 AT LV Ij_:={}
def La:Rg:=λE call round tm=>
 mv (T.get tm 10) λv70=>
 bI E .neq 29 (.tmp 70) (.const (.int .i64 0)) (some v70) (some (.int .i64 0)) λv71=>
 mv (some v71) λv11=>
 setF 11 v11 tm λtm1=>
 M.pure tm1
theorem DF_:RegEq 5 173 AT Dm_ La:={}
def Lx:Rg:=λE call round tm=>
 mv (T.get tm 11) λv72=>
 mv (some v72) λv73=>
 sK v73 true (oS (T.get tm 10) λa=>M.pure a) λv74=>
 sK v73 true (oS (some v74) λa=>oS (some (.int .i64 10)) λb=>Cl.get (aBin E .neq 29 (.tmp 74) (.const (.int .i64 10))) a b) λv75=>
 sK v73 true (oS (some v75) λa=>M.pure a) λv76=>
 sK v76 false (oS (T.get tm 8) λa=>kFld E 57 a 1) λv77=>
 sK v76 false (oS (some v77) λa=>AQ E 3 a) λv78=>
 sK v76 false (oS (some v78) λa=>oS (some (.int .i64 0)) λb=>Cl.get (aBin E .lss 3 (.tmp 78) (.const (.int .i64 0))) a b) λv79=>
 sK v73 true (M.on (some v76) λa=>M.on (some (.bool true)) λb=>M.on (some v79) λc=>Aw a b c) λv80=>
 sK v73 true (oS (some v80) λa=>M.pure a) λv81=>
 sK v81 false (oS (T.get tm 9) λa=>M.pure a) λv82=>
 sK v81 false (oS (some v82) λa=>oS (some (.pointer none)) λb=>Cl.get (aBin E .neq 26 (.tmp 82) (.const (.pointer none))) a b) λv83=>
 sK v73 true (M.on (some v81) λa=>M.on (some (.bool true)) λb=>M.on (some v83) λc=>Aw a b c) λv84=>
 M.bind (M.on (some v73) λa=>M.on (some v84) λb=>M.on (some (.bool false)) λc=>Aw a b c) λv85=>
 mv (some v85) λv86=>
 sK v86 false (oS (T.get tm 11) λa=>M.pure a) λv87=>
 sK v86 false (oS (some v87) λa=>kUn E.P .not a) λv88=>
 sK v86 false (oS (some v88) λa=>M.pure a) λv89=>
 sK v89 true (oS (T.get tm 9) λa=>M.pure a) λv90=>
 sK v89 true (oS (some v90) λa=>oS (some (.pointer none)) λb=>Cl.get (aBin E .eql 26 (.tmp 90) (.const (.pointer none))) a b) λv91=>
 sK v89 true (oS (some v91) λa=>M.pure a) λv92=>
 sK v92 false (oS (T.get tm 6) λa=>M.pure a) λv93=>
 sK v92 false (oS (T.get tm 9) λa=>M.pure a) λv94=>
 sK v92 false (M.on (some (.func (.func 25) #[] #[])) λf=>M.on (seqO [(some v93),(some v94)]) λl=>Be call round f l) λv95=>
 sK v92 false (oS (some v95) λa=>kUn E.P .not a) λv96=>
 sK v89 true (M.on (some v92) λa=>M.on (some (.bool true)) λb=>M.on (some v96) λc=>Aw a b c) λv97=>
 sK v86 false (M.on (some v89) λa=>M.on (some v97) λb=>M.on (some (.bool false)) λc=>Aw a b c) λv98=>
 M.bind (M.on (some v86) λa=>M.on (some (.bool true)) λb=>M.on (some v98) λc=>Aw a b c) λv99=>
 setF 99 v99 tm λtm1=>
 M.pure tm1
theorem EW_:RegEq 5 173 AT BF_ Lx:={}
theorem Uy:Ak Za=some 99:=by kernel_rfl
def NF:Rg:=λE call round tm=>
 mv (some (.int .i64 0)) λv12=>
 setF 12 v12 tm λtm1=>
 M.pure tm1
theorem Wa:RegEq 5 173 AT CS_ NF:={}
def Kl:Rg:=λE call round tm=>
 mv (T.get tm 12) λv100=>
 fD E 57 0 (T.get tm 8) λv101=>
 lD E 22 (some v101) λv102=>
 lN E .len [22] [(some v102)] λv103=>
 bI E .lss 3 (.tmp 100) (.tmp 103) (some v100) (some v103) λv104=>
 mv (some v104) λv105=>
 sK v105 true (oS (T.get tm 11) λa=>M.pure a) λv106=>
 sK v105 true (oS (some v106) λa=>kUn E.P .not a) λv107=>
 M.bind (M.on (some v105) λa=>M.on (some v107) λb=>M.on (some (.bool false)) λc=>Aw a b c) λv108=>
 setF 108 v108 tm λtm1=>
 M.pure tm1
theorem LE:RegEq 5 173 AT H0 Kl:={}
theorem JN:Ak Nq=some 108:=by kernel_rfl
def Qy:Rg:=λE call round tm=>
 mv (T.get tm 6) λv112=>
 mv (T.get tm 9) λv113=>
 fD E 57 0 (T.get tm 8) λv114=>
 lD E 22 (some v114) λv115=>
 mv (T.get tm 12) λv116=>
 iD E 22 (some v115) (some v116) λv117=>
 lD E 4 (some v117) λv118=>
 cN call round 26 [(some v112),(some v113),(some v118)] λv119=>
 mv (some v119) λv111=>
 eX 0 (some v111) λv120=>
 eX 1 (some v111) λv121=>
 mv (some v120) λv13=>
 setF 13 v13 tm λtm1=>
 mv (some v121) λv14=>
 setF 14 v14 tm1 λtm2=>
 M.pure tm2
theorem TY_:RegEq 5 173 AT SE Qy:={}
def Y0:Rg:=λE call round tm=>
 mv (T.get tm 4) λv138=>
 cN call round 28 [(some v138)] λv139=>
 mv (T.get tm 11) λv140=>
 bI E .eql 4 (.tmp 139) (.tmp 140) (some v139) (some v140) λv141=>
 mv (some v141) λv142=>
 sK v142 false (oS (T.get tm 4) λa=>M.pure a) λv143=>
 sK v142 false (oS (T.get tm 8) λa=>kFld E 57 a 2) λv144=>
 sK v142 false (oS (some v144) λa=>AQ E 3 a) λv145=>
 sK v142 false (oS (T.get tm 8) λa=>kFld E 57 a 2) λv146=>
 sK v142 false (oS (some v146) λa=>AQ E 3 a) λv147=>
 sK v142 false (oS (T.get tm 8) λa=>kFld E 57 a 2) λv148=>
 sK v142 false (oS (some v148) λa=>AQ E 3 a) λv149=>
 sK v142 false (oS (seqP [(0,(some v145)),(1,(some v147)),(2,(some v149))]) λps=>BY E 63 3 ps) λv150=>
 sK v142 false (M.on (some (.func (.func 29) #[] #[])) λf=>M.on (seqO [(some v143),(some v150)]) λl=>Be call round f l) λv151=>
 sK v142 false (oS (some v151) λa=>oS (some (.int .i64 0)) λb=>Cl.get (aBin E .neq 29 (.tmp 151) (.const (.int .i64 0))) a b) λv152=>
 M.bind (M.on (some v142) λa=>M.on (some (.bool true)) λb=>M.on (some v152) λc=>Aw a b c) λv153=>
 setF 153 v153 tm λtm1=>
 M.pure tm1
theorem VP_:RegEq 5 173 AT KA Y0:={}
def Pn:Rg:=λE call round tm=>
 mv (T.get tm 13) λv122=>
 M.bind (oS (some v122) λa=>kUn E.P .not a) λv123=>
 mv (some v123) λv124=>
 sK v124 false (oS (T.get tm 14) λa=>M.pure a) λv125=>
 sK v124 false (oS (some v125) λa=>M.pure a) λv126=>
 sK v126 true (oS (T.get tm 8) λa=>kFld E 57 a 1) λv127=>
 sK v126 true (oS (some v127) λa=>AQ E 3 a) λv128=>
 sK v126 true (oS (some v128) λa=>oS (some (.int .i64 0)) λb=>Cl.get (aBin E .lss 3 (.tmp 128) (.const (.int .i64 0))) a b) λv129=>
 sK v126 true (oS (some v129) λa=>M.pure a) λv130=>
 sK v130 false (oS (T.get tm 9) λa=>M.pure a) λv131=>
 sK v130 false (M.on (some (.func (.func 27) #[] #[])) λf=>M.on (seqO [(some v131)]) λl=>Be call round f l) λv132=>
 sK v130 false (oS (some v132) λa=>kUn E.P .not a) λv133=>
 sK v126 true (M.on (some v130) λa=>M.on (some (.bool true)) λb=>M.on (some v133) λc=>Aw a b c) λv134=>
 sK v124 false (M.on (some v126) λa=>M.on (some v134) λb=>M.on (some (.bool false)) λc=>Aw a b c) λv135=>
 M.bind (M.on (some v124) λa=>M.on (some (.bool true)) λb=>M.on (some v135) λc=>Aw a b c) λv136=>
 setF 136 v136 tm λtm1=>
 M.pure tm1
theorem Wk:RegEq 5 173 AT UK Pn:={}
theorem Sb_:Ak WT=some 153:=by kernel_rfl
theorem YA:Ak Xb=some 136:=by kernel_rfl
def AV_:Rg:=λE call round tm=>
 mv (T.get tm 7) λv44=>
 bI E .add 3 (.tmp 44) (.const (.int .i64 1)) (some v44) (some (.int .i64 1)) λv45=>
 mv (some v45) λv7=>
 setF 7 v7 tm λtm1=>
 M.pure tm1
theorem SO_:RegEq 5 173 AT YW AV_:={}
def Pg:Rg:=λE call round tm=>
 mv (T.get tm 14) λv137=>
 mv (some v137) λv11=>
 setF 11 v11 tm λtm1=>
 M.pure tm1
theorem Ad_:RegEq 5 173 AT U7 Pg:={}
def KZ:Rg:=λE call round tm=>
 mv (T.get tm 12) λv109=>
 bI E .add 3 (.tmp 109) (.const (.int .i64 1)) (some v109) (some (.int .i64 1)) λv110=>
 mv (some v110) λv12=>
 setF 12 v12 tm λtm1=>
 M.pure tm1
theorem DB_:RegEq 5 173 AT QS KZ:={}
def E8:Nat:=Ar Tryz.f25
abbrev SW_:Nat:=72
def R6:Code:=Tryz.f25.body.getD .skip
theorem ZO:envS.fn.get 25=some Tryz.f25:=by kernel_rfl
theorem AcO_:G2 envS 25 72 E8 R6:=λh=>
 aI ZO (h _ (by kernel_rfl) (by kernel_rfl))
theorem WS_:Tryz.f25.results.toList=[.tmp 4]:=by kernel_rfl
def Da_:List Item:=skim 64 [.code R6]
def Yb:=nx Da_
def Po:=nx Yb
def Xg:=nx Po
def S5:=nx Xg
def FC_:=nx S5
def TU:Rg:=λE call round tm=>
 mv (some (.bool false)) λv4=>
 setF 4 v4 tm λtm1=>
 M.pure tm1
theorem Acw_:RegEq 25 72 E8 Da_ TU:={}
def AT_:Rg:=λE call round tm=>
 mv (T.get tm 1) λv9=>
 cN call round 10 [(some v9)] λv10=>
 mv (some v10) λv8=>
 eX 0 (some v8) λv11=>
 eX 1 (some v8) λv12=>
 mv (some v11) λv5=>
 setF 5 v5 tm λtm1=>
 mv (some v12) λv6=>
 setF 6 v6 tm1 λtm2=>
 M.pure tm2
theorem Uv_:RegEq 25 72 E8 Yb AT_:={}
def VP:Rg:=λE call round tm=>
 mv (T.get tm 5) λv13=>
 mv (T.get tm 0) λv14=>
 M.bind (oS (some v14) λa=>kNil a) λv15=>
 fD E 55 0 (some v15) λv16=>
 lD E 3 (some v16) λv17=>
 bI E .eql 3 (.tmp 13) (.tmp 17) (some v13) (some v17) λv18=>
 mv (some v18) λv19=>
 sK v19 false (oS (T.get tm 0) λa=>M.pure a) λv20=>
 sK v19 false (oS (some v20) λa=>kNil a) λv21=>
 sK v19 false (oS (some v21) λa=>kFld E 55 a 2) λv22=>
 sK v19 false (oS (some v22) λa=>AQ E 4 a) λv23=>
 sK v19 false (oS (some v23) λa=>M.pure a) λv24=>
 sK v24 true (oS (T.get tm 5) λa=>M.pure a) λv25=>
 sK v24 true (oS (T.get tm 0) λa=>M.pure a) λv26=>
 sK v24 true (oS (some v26) λa=>kNil a) λv27=>
 sK v24 true (oS (some v27) λa=>kFld E 55 a 0) λv28=>
 sK v24 true (oS (some v28) λa=>AQ E 3 a) λv29=>
 sK v24 true (oS (some v29) λa=>oS (some (.int .i64 1)) λb=>Cl.get (aBin E .add 3 (.tmp 29) (.const (.int .i64 1))) a b) λv30=>
 sK v24 true (oS (some v25) λa=>oS (some v30) λb=>Cl.get (aBin E .eql 3 (.tmp 25) (.tmp 30)) a b) λv31=>
 sK v19 false (M.on (some v24) λa=>M.on (some v31) λb=>M.on (some (.bool false)) λc=>Aw a b c) λv32=>
 M.bind (M.on (some v19) λa=>M.on (some (.bool true)) λb=>M.on (some v32) λc=>Aw a b c) λv33=>
 mv (some v33) λv34=>
 sK v34 true (oS (T.get tm 6) λa=>M.pure a) λv35=>
 sK v34 true (oS (T.get tm 0) λa=>M.pure a) λv36=>
 sK v34 true (oS (some v36) λa=>kNil a) λv37=>
 sK v34 true (oS (some v37) λa=>kFld E 55 a 1) λv38=>
 sK v34 true (oS (some v38) λa=>AQ E 3 a) λv39=>
 sK v34 true (oS (some v35) λa=>oS (some v39) λb=>Cl.get (aBin E .eql 3 (.tmp 35) (.tmp 39)) a b) λv40=>
 sK v34 true (oS (some v40) λa=>M.pure a) λv41=>
 sK v41 false (oS (T.get tm 0) λa=>M.pure a) λv42=>
 sK v41 false (oS (some v42) λa=>kNil a) λv43=>
 sK v41 false (oS (some v43) λa=>kFld E 55 a 3) λv44=>
 sK v41 false (oS (some v44) λa=>AQ E 4 a) λv45=>
 sK v41 false (oS (some v45) λa=>M.pure a) λv46=>
 sK v46 true (oS (T.get tm 6) λa=>M.pure a) λv47=>
 sK v46 true (oS (T.get tm 0) λa=>M.pure a) λv48=>
 sK v46 true (oS (some v48) λa=>kNil a) λv49=>
 sK v46 true (oS (some v49) λa=>kFld E 55 a 1) λv50=>
 sK v46 true (oS (some v50) λa=>AQ E 3 a) λv51=>
 sK v46 true (oS (some v51) λa=>oS (some (.int .i64 1)) λb=>Cl.get (aBin E .add 3 (.tmp 51) (.const (.int .i64 1))) a b) λv52=>
 sK v46 true (oS (some v47) λa=>oS (some v52) λb=>Cl.get (aBin E .eql 3 (.tmp 47) (.tmp 52)) a b) λv53=>
 sK v41 false (M.on (some v46) λa=>M.on (some v53) λb=>M.on (some (.bool false)) λc=>Aw a b c) λv54=>
 sK v34 true (M.on (some v41) λa=>M.on (some (.bool true)) λb=>M.on (some v54) λc=>Aw a b c) λv55=>
 M.bind (M.on (some v34) λa=>M.on (some v55) λb=>M.on (some (.bool false)) λc=>Aw a b c) λv56=>
 mv (some v56) λv7=>
 setF 7 v7 tm λtm1=>
 M.pure tm1
theorem Wk_:RegEq 25 72 E8 Po VP:={}
def Ar_:Rg:=λE call round tm=>
 mv (T.get tm 0) λv57=>
 mv (T.get tm 0) λv58=>
 mv (T.get tm 0) λv59=>
 mv (T.get tm 0) λv60=>
 mv (T.get tm 5) λv61=>
 mv (T.get tm 6) λv62=>
 M.bind (oS (some v57) λa=>kNil a) λv63=>
 fD E 55 0 (some v63) λv64=>
 M.bind (oS (some v64) λa=>oS (some v61) λb=>AB E 3 a b) λ_=>
 M.bind (oS (some v58) λa=>kNil a) λv65=>
 fD E 55 1 (some v65) λv66=>
 M.bind (oS (some v66) λa=>oS (some v62) λb=>AB E 3 a b) λ_=>
 M.bind (oS (some v59) λa=>kNil a) λv67=>
 fD E 55 2 (some v67) λv68=>
 M.bind (oS (some v68) λa=>oS (some (.bool false)) λb=>AB E 4 a b) λ_=>
 M.bind (oS (some v60) λa=>kNil a) λv69=>
 fD E 55 3 (some v69) λv70=>
 M.bind (oS (some v70) λa=>oS (some (.bool false)) λb=>AB E 4 a b) λ_=>
 M.pure tm
theorem RO_:RegEq 25 72 E8 Xg Ar_:={}
def W3:Rg:=λE call round tm=>
 mv (T.get tm 7) λv71=>
 mv (some v71) λv4=>
 setF 4 v4 tm λtm1=>
 M.pure tm1
theorem Jv_:RegEq 25 72 E8 S5 W3:={}
theorem Se_: ∃k,FC_= .code .ret::k:=⟨FC_.tail,by kernel_rfl⟩
def B8:Nat:=Ar Tryz.f26
def TR:Code:=Tryz.f26.body.getD .skip
theorem Hm:envS.fn.get 26=some Tryz.f26:=by kernel_rfl
theorem UP_:G3 envS 26 71 B8 TR:=λh=>
 aI Hm (h _ (by kernel_rfl) (by kernel_rfl) (by kernel_rfl))
theorem Jc:Tryz.f26.results.toList=[.tmp 6, .tmp 7]:=by kernel_rfl
def W5:List Item:=skim 64 [.code TR]
def WW:=nx W5
def ME:=nx WW
def Ut:=bt ME
def Af_:=bf ME
def Id_:=nx Ut
def XO:=nx Af_
def Pt:=nx Id_
def K6:=nx XO
def VC:=bt Pt
def Hp_:=bf Pt
def R8:=bt K6
def CK_:=bf K6
def YK:=nx VC
def ZI:=nx Hp_
def Is_:=nx R8
def BY_:=nx CK_
def Y7:=nx YK
def Uh:=nx ZI
def BB_:=nx Is_
def CW_:=nx BY_
def Ck_:Rg:=λE call round tm=>
 mv (some (.bool false)) λv6=>
 setF 6 v6 tm λtm1=>
 mv (some (.bool false)) λv7=>
 setF 7 v7 tm1 λtm2=>
 M.pure tm2
theorem Rc_:RegEq 26 71 B8 W5 Ck_:={}
def SH:Rg:=λE call round tm=>
 mv (T.get tm 2) λv12=>
 setF 12 v12 tm λtm1=>
 M.pure tm1
theorem Qb_:RegEq 26 71 B8 WW SH:={}
theorem TC:Ak ME=some 12:=by kernel_rfl
def ZT:Rg:=λE call round tm=>
 mv (T.get tm 1) λv14=>
 cN call round 8 [(some v14)] λv15=>
 mv (some v15) λv13=>
 eX 0 (some v13) λv16=>
 eX 1 (some v13) λv17=>
 mv (some v16) λv8=>
 setF 8 v8 tm λtm1=>
 mv (some v17) λv9=>
 setF 9 v9 tm1 λtm2=>
 M.pure tm2
theorem Oz_:RegEq 26 71 B8 Ut ZT:={}
def FJ_:Rg:=λE call round tm=>
 mv (T.get tm 1) λv43=>
 cN call round 9 [(some v43)] λv44=>
 mv (some v44) λv42=>
 eX 0 (some v42) λv45=>
 eX 1 (some v42) λv46=>
 mv (some v45) λv10=>
 setF 10 v10 tm λtm1=>
 mv (some v46) λv11=>
 setF 11 v11 tm1 λtm2=>
 M.pure tm2
theorem Abv_:RegEq 26 71 B8 Af_ FJ_:={}
def NA:Rg:=λE call round tm=>
 mv (T.get tm 9) λv18=>
 bI E .neq 29 (.tmp 18) (.const (.int .i64 0)) (some v18) (some (.int .i64 0)) λv19=>
 setF 19 v19 tm λtm1=>
 M.pure tm1
theorem QF:RegEq 26 71 B8 Id_ NA:={}
def N3:Rg:=λE call round tm=>
 mv (T.get tm 11) λv47=>
 bI E .neq 29 (.tmp 47) (.const (.int .i64 0)) (some v47) (some (.int .i64 0)) λv48=>
 setF 48 v48 tm λtm1=>
 M.pure tm1
theorem UE:RegEq 26 71 B8 XO N3:={}
theorem Tj:Ak Pt=some 19:=by kernel_rfl
theorem HQ_:Ak K6=some 48:=by kernel_rfl
def Qq:Rg:=λE call round tm=>
 mv (T.get tm 0) λv20=>
 M.bind (oS (some v20) λa=>kNil a) λv21=>
 fD E 55 2 (some v21) λv22=>
 M.bind (oS (some v22) λa=>oS (some (.bool true)) λb=>AB E 4 a b) λ_=>
 M.pure tm
theorem WR_:RegEq 26 71 B8 VC Qq:={}
def Ae_:Rg:=λE call round tm=>
 mv (T.get tm 0) λv29=>
 M.bind (oS (some v29) λa=>kNil a) λv30=>
 fD E 55 0 (some v30) λv31=>
 lD E 3 (some v31) λv32=>
 bI E .add 3 (.tmp 32) (.const (.int .i64 1)) (some v32) (some (.int .i64 1)) λv33=>
 M.bind (oS (some v29) λa=>kNil a) λv34=>
 fD E 55 0 (some v34) λv35=>
 M.bind (oS (some v35) λa=>oS (some v33) λb=>AB E 3 a b) λ_=>
 M.pure tm
theorem Zq_:RegEq 26 71 B8 Hp_ Ae_:={}
def Rj:Rg:=λE call round tm=>
 mv (T.get tm 0) λv49=>
 M.bind (oS (some v49) λa=>kNil a) λv50=>
 fD E 55 3 (some v50) λv51=>
 M.bind (oS (some v51) λa=>oS (some (.bool true)) λb=>AB E 4 a b) λ_=>
 M.pure tm
theorem AbJ_:RegEq 26 71 B8 R8 Rj:={}
def Sk:Rg:=λE call round tm=>
 mv (T.get tm 0) λv58=>
 M.bind (oS (some v58) λa=>kNil a) λv59=>
 fD E 55 1 (some v59) λv60=>
 lD E 3 (some v60) λv61=>
 bI E .add 3 (.tmp 61) (.const (.int .i64 1)) (some v61) (some (.int .i64 1)) λv62=>
 M.bind (oS (some v58) λa=>kNil a) λv63=>
 fD E 55 1 (some v63) λv64=>
 M.bind (oS (some v64) λa=>oS (some v62) λb=>AB E 3 a b) λ_=>
 M.pure tm
theorem VN_:RegEq 26 71 B8 CK_ Sk:={}
def EY_:Rg:=λE call round tm=>
 mv (T.get tm 9) λv23=>
 bI E .eql 29 (.tmp 23) (.const (.int .i64 10)) (some v23) (some (.int .i64 10)) λv24=>
 mv (some v24) λv25=>
 sK v25 true (oS (T.get tm 8) λa=>M.pure a) λv26=>
 sK v25 true (oS (some v26) λa=>oS (some (.int .i64 0)) λb=>Cl.get (aBin E .eql 3 (.tmp 26) (.const (.int .i64 0))) a b) λv27=>
 M.bind (M.on (some v25) λa=>M.on (some v27) λb=>M.on (some (.bool false)) λc=>Aw a b c) λv28=>
 mv (some v28) λv6=>
 setF 6 v6 tm λtm1=>
 mv (some (.bool true)) λv7=>
 setF 7 v7 tm1 λtm2=>
 M.pure tm2
theorem JS_:RegEq 26 71 B8 YK EY_:={}
def Vd:Rg:=λE call round tm=>
 mv (T.get tm 8) λv36=>
 mv (T.get tm 0) λv37=>
 M.bind (oS (some v37) λa=>kNil a) λv38=>
 fD E 55 0 (some v38) λv39=>
 lD E 3 (some v39) λv40=>
 bI E .eql 3 (.tmp 36) (.tmp 40) (some v36) (some v40) λv41=>
 mv (some v41) λv6=>
 setF 6 v6 tm λtm1=>
 mv (some (.bool false)) λv7=>
 setF 7 v7 tm1 λtm2=>
 M.pure tm2
theorem KB_:RegEq 26 71 B8 ZI Vd:={}
def Ti:Rg:=λE call round tm=>
 mv (T.get tm 11) λv52=>
 bI E .eql 29 (.tmp 52) (.const (.int .i64 10)) (some v52) (some (.int .i64 10)) λv53=>
 mv (some v53) λv54=>
 sK v54 true (oS (T.get tm 10) λa=>M.pure a) λv55=>
 sK v54 true (oS (some v55) λa=>oS (some (.int .i64 0)) λb=>Cl.get (aBin E .eql 3 (.tmp 55) (.const (.int .i64 0))) a b) λv56=>
 M.bind (M.on (some v54) λa=>M.on (some v56) λb=>M.on (some (.bool false)) λc=>Aw a b c) λv57=>
 mv (some v57) λv6=>
 setF 6 v6 tm λtm1=>
 mv (some (.bool true)) λv7=>
 setF 7 v7 tm1 λtm2=>
 M.pure tm2
theorem OQ_:RegEq 26 71 B8 Is_ Ti:={}
def Bb_:Rg:=λE call round tm=>
 mv (T.get tm 10) λv65=>
 mv (T.get tm 0) λv66=>
 M.bind (oS (some v66) λa=>kNil a) λv67=>
 fD E 55 1 (some v67) λv68=>
 lD E 3 (some v68) λv69=>
 bI E .eql 3 (.tmp 65) (.tmp 69) (some v65) (some v69) λv70=>
 mv (some v70) λv6=>
 setF 6 v6 tm λtm1=>
 mv (some (.bool false)) λv7=>
 setF 7 v7 tm1 λtm2=>
 M.pure tm2
theorem AbP_:RegEq 26 71 B8 BY_ Bb_:={}
theorem YT_: ∃k,Y7= .code .ret::k:=⟨Y7.tail,by kernel_rfl⟩
theorem So_: ∃k,Uh= .code .ret::k:=⟨Uh.tail,by kernel_rfl⟩
theorem TD_: ∃k,BB_= .code .ret::k:=⟨BB_.tail,by kernel_rfl⟩
theorem Pv_: ∃k,CW_= .code .ret::k:=⟨CW_.tail,by kernel_rfl⟩
theorem G9:fldN envS 55 0=some (0,1,false):=by kernel_rfl
theorem Fl:fldN envS 55 1=some (1,1,false):=by kernel_rfl
theorem OI:fldN envS 55 2=some (2,1,false):=by kernel_rfl
theorem Kr:fldN envS 55 3=some (3,1,false):=by kernel_rfl
theorem Gl:isK undef=true:=rfl
theorem Mz:isB undef true=false:=rfl
theorem Ng:isB undef false=false:=rfl
structure CntI (s:St)(X a b:Nat)(m1 m2:Bool):Prop where
 o0:Own s X 0 (.int .i64 (a:Nat))
 o1:Own s X 1 (.int .i64 (b:Nat))
 o2:Own s X 2 (.bool m1)
 o3:Own s X 3 (.bool m2)
theorem CntI.same {s s':St}{X a b:Nat}{m1 m2:Bool}(h:CntI s X a b m1 m2)(hm:s'.mem=s.mem)(hn:s'.next=s.next):CntI s' X a b m1 m2:=⟨h.o0.same hm hn,h.o1.same hm hn,h.o2.same hm hn,h.o3.same hm hn⟩
theorem CntI.ext {F G:Nat->Prop}{s s':St}{X a b:Nat}{m1 m2:Bool}(h:CntI s X a b m1 m2)(x:Ext F G s s')(hG: ∀y,y<s.next->G y->y<X\/X+4<=y):CntI s' X a b m1 m2:=by
 have c: ∀o,o<4->X+o<s.next-> ¬G (X+o):=λo ho hn g=>by have:=hG _ hn g;omega
 exact⟨h.o0.ext x (c 0 (by decide) h.o0.1),h.o1.ext x (c 1 (by decide) h.o1.1),h.o2.ext x (c 2 (by decide) h.o2.1),h.o3.ext x (c 3 (by decide) h.o3.1)⟩
theorem CntI.ext0 {F:Nat->Prop}{s s':St}{X a b:Nat}{m1 m2:Bool}(h:CntI s X a b m1 m2)(x:Ext F Non s s'):CntI s' X a b m1 m2:=h.ext x λ_ _ g=>g.elim
theorem JrA.ext {F G:Nat->Prop}{s s':St}{col:Nat->Nat}{D M J:Nat}{fl:ByteArray}{R:List (Nat×Nat)}{a b:Nat}{u:Bool}(h:JrA s col D M J fl R a b u)(x:Ext F G s s')(hG: ∀y,y<s.next->G y->1000<=col y/\(y<J\/J+5<=y)):JrA s' col D M J fl R a b u:=by
 obtain⟨k,g,h⟩:=h
 exact⟨k,g,h.ext x hG⟩
theorem JrB.same {s s':St}{col:Nat->Nat}{D M J:Nat}{fl:ByteArray}{R:List (Nat×Nat)}{r:Nat×Nat}{a b:Nat}{k:DkS}{g:FileS}(h:JrB s col D M J fl R r a b k g)(hm:s'.mem=s.mem)(hn:s'.next=s.next):JrB s' col D M J fl R r a b k g:=
 ⟨h.dk.same hm hn,h.fs,h.room,h.ou,h.nm,h.sb,h.lb,h.jn.same hm hn,h.jc⟩
theorem JrB.ext {F G:Nat->Prop}{s s':St}{col:Nat->Nat}{D M J:Nat}{fl:ByteArray}{R:List (Nat×Nat)}{r:Nat×Nat}{a b:Nat}{k:DkS}{g:FileS}(h:JrB s col D M J fl R r a b k g)(x:Ext F G s s')(hG: ∀y,y<s.next->G y->1000<=col y/\(y<J\/J+5<=y)):JrB s' col D M J fl R r a b k g:=
 ⟨h.dk.ext x (by rw[h.fs];show 1<=300;decide) λy hy g=>(hG y hy g).1,h.fs,h.room,h.ou,h.nm,h.sb,h.lb,h.jn.ext x λy hy g=>(hG y hy g).2,h.jc⟩
section
variable {n D M J X:Nat}{s:St}{col:Nat->Nat}{fl:ByteArray}{R:List (Nat×Nat)}{a b x1 x2:Nat}{m1 m2 u:Bool}{Q:Value->St->Prop}
theorem Vx (hb:s.lim<=s.next)(hA:JrA s col D M J fl R a b u)(hX:CntI s X x1 x2 m1 m2)(hXJ:X+4<=J\/J+5<=X)(hXc: ∀y,X<=y->y<X+4->1000<=col y)(h1:a=x1\/(m1=true/\a=x1+1))(h2:b=x2\/(m2=true/\b=x2+1))(hx:x1<1000/\x2<1000)(hn:1000<=n)
  (q: ∀s1,Ext Any (λy=>X<=y/\y<X+4) s s1->CntI s1 X a b false false->JrA s1 col D M J fl R a b u->Q (.bool true) s1):
  W (Ab envS (runF envS n) 25 [.pointer (some ⟨X,0,none⟩), .pointer (some ⟨J,0,none⟩)]) s Q:=by
 have hb0:(s.cxN cxN).lim<=(s.cxN cxN).next:=hb
 refine AcO_ λtm t0 t1=> ?_
 refine Acw_.u ?_
 simp only[TU,RR,SS]
 refine Uv_.u ?_
 simp only[AT_,RR,SS,Nat.reduceEqDiff, ↓reduceIte,t1]
 refine Ud_ hb0 (hA.same (s':=s.cxN cxN) rfl rfl) (by omega) λs1 y1=> ?_
 have k1:CntI s1 X x1 x2 m1 m2:=(hX.same (s':=s.cxN cxN) rfl rfl).ext0 y1
 have hA1:JrA s1 col D M J fl R a b u:=(hA.same (s':=s.cxN cxN) rfl rfl).ext0 y1
 rw[AP (k:=0) rfl]
 rw[AP (k:=1) rfl]
 refine Wk_.u ?_
 have fin: ∀(s2:St) (n':Nat) (tm':T Value),100<=n'->Ext Any Non (s.cxN cxN) s2->CntI s2 X x1 x2 m1 m2->JrA s2 col D M J fl R a b u->T.get tm' 0=some (.pointer (some ⟨X,0,none⟩))->T.get tm' 5=some (.int .i64 (a:Nat))->T.get tm' 6=some (.int .i64 (b:Nat))->T.get tm' 7=some (.bool true)->
   W (runF envS n' ⟨25,SW_,E8,tm',Po.tail, .run, .normal,none⟩) s2 λp s1=>Q p.1 (s1.cxN s.cx):=λs2 n' tm' hn' y2 k2 hA2 g0 g5 g6 g7=>by
  refine RO_.u ?_
  simp only[Ar_,RR,SS,g0,g5,g6,Ai G9 (by decide)]
  refine aG Au rfl k2.o0 λs3 n3 x3 o3=> ?_
  have p1:=k2.o1.ext x3 λg=>by have h1:=g.2;omega
  have p2:=k2.o2.ext x3 λg=>by have h1:=g.2;omega
  have p3:=k2.o3.ext x3 λg=>by have h1:=g.2;omega
  simp only[Ai Fl (by decide)]
  refine aG Au rfl p1 λs4 n4 x4 o4=> ?_
  have q0:=o3.ext x4 λg=>by have h1:=g.1;omega
  have q2:=p2.ext x4 λg=>by have h1:=g.2;omega
  have q3:=p3.ext x4 λg=>by have h1:=g.2;omega
  simp only[Ai OI (by decide)]
  refine aG Bx rfl q2 λs5 n5 x5 o5=> ?_
  have r0:=q0.ext x5 λg=>by have h1:=g.1;omega
  have r1:=o4.ext x5 λg=>by have h1:=g.1;omega
  have r3:=q3.ext x5 λg=>by have h1:=g.2;omega
  simp only[Ai Kr (by decide)]
  refine aG Bx rfl r3 λs6 n6 x6 o6=> ?_
  have v0:=r0.ext x6 λg=>by have h1:=g.1;omega
  have v1:=r1.ext x6 λg=>by have h1:=g.1;omega
  have v2:=o5.ext x6 λg=>by have h1:=g.1;omega
  have z:Ext Any (λy=>X<=y/\y<X+4) s2 s6:=((((Ext.refl (F:=Any) (G:=λy=>X<=y/\y<X+4) s2).on x3 (y2.bnd hb0) λy _ g=>by have h1:=g.1;have h2:=g.2;omega).on x4 (y2.bnd hb0) λy _ g=>by have h1:=g.1;have h2:=g.2;omega).on x5 (y2.bnd hb0) λy _ g=>by have h1:=g.1;have h2:=g.2;omega).on x6 (y2.bnd hb0) λy _ g=>by have h1:=g.1;have h2:=g.2;omega
  have y6:Ext Any (λy=>X<=y/\y<X+4) (s.cxN cxN) s6:=(y2.gw hb0 λ_ _ g=>g.elim).on z hb0 λ_ _ g=>g
  have hA6:=hA2.ext z λy _ g=>⟨hXc y g.1 g.2,by omega⟩
  refine Jv_.u ?_
  simp only[W3,RR,SS,g7]
  refine aC (rs:=[4]) (vs:=[.bool true]) rfl (.inl Se_) (by omega) ZO WS_ y6.cx (by simp[T.get_set]) ?_
  exact q _ y6.cx' ⟨v0.same rfl rfl,v1.same rfl rfl,v2.same rfl rfl,o6.same rfl rfl⟩ (hA6.same rfl rfl)
 simp only[VP,RR,SS,Nat.reduceEqDiff,reduceCtorEq, ↓reduceIte,t0,Ai G9 (by decide)]
 refine aB Au k1.o0.at' ?_
 have y2:=y1.thenRd hb0 (X+(0+0))
 have k2:CntI (s1.rdN (X+(0+0))) X x1 x2 m1 m2:=k1.same rfl rfl
 have hA2:JrA (s1.rdN (X+(0+0))) col D M J fl R a b u:=hA1.same rfl rfl
 generalize s1.rdN (X+(0+0))=s2 at *
 rcases h1 with h1|⟨hm1,h1⟩
 ·have dA:decide (((a:Nat):Int)=((x1:Nat):Int))=true:=decide_eq_true (by omega)
  simp only[SS, ↓reduceIte,A0,Gl,Mz,dA,Ai Fl (by decide)]
  refine aB Au k2.o1.at' ?_
  have y3:=y2.thenRd hb0 (X+(0+1))
  have k3:CntI (s2.rdN (X+(0+1))) X x1 x2 m1 m2:=k2.same rfl rfl
  have hA3:JrA (s2.rdN (X+(0+1))) col D M J fl R a b u:=hA2.same rfl rfl
  generalize s2.rdN (X+(0+1))=s3 at *
  rcases h2 with h2|⟨hm2,h2⟩
  ·have dB:decide (((b:Nat):Int)=((x2:Nat):Int))=true:=decide_eq_true (by omega)
   simp only[AY,CE,HU,Dl,Dp,Dr, ↓reduceIte,A0,Gl,Mz,dB]
   exact fin s3 _ _ (by omega) y3 k3 hA3 (by simp[T.get_set,t0]) (by simp[T.get_set]) (by simp[T.get_set]) (by simp[T.get_set])
  ·have dB:decide (((b:Nat):Int)=((x2:Nat):Int))=false:=decide_eq_false (by omega)
   have eB:wrap64 (((x2:Nat):Int)+1)=((b:Nat):Int):=by rw[Bc (by omega) (by omega)];omega
   subst hm2
   simp only[SS,reduceCtorEq, ↓reduceIte,A0,dB,Ai Kr (by decide)]
   refine aB Bx k3.o3.at' ?_
   have y4:=y3.thenRd hb0 (X+(0+3))
   have k4:CntI (s3.rdN (X+(0+3))) X x1 x2 m1 true:=k3.same rfl rfl
   have hA4:JrA (s3.rdN (X+(0+3))) col D M J fl R a b u:=hA3.same rfl rfl
   generalize s3.rdN (X+(0+3))=s4 at *
   simp only[SS, ↓reduceIte,Ai Fl (by decide)]
   refine aB Au k4.o1.at' ?_
   have y5:=y4.thenRd hb0 (X+(0+1))
   have k5:CntI (s4.rdN (X+(0+1))) X x1 x2 m1 true:=k4.same rfl rfl
   have hA5:JrA (s4.rdN (X+(0+1))) col D M J fl R a b u:=hA4.same rfl rfl
   generalize s4.rdN (X+(0+1))=s5 at *
   simp only[AO,A0,decide_true,eB]
   exact fin s5 _ _ (by omega) y5 k5 hA5 (by simp[T.get_set,t0]) (by simp[T.get_set]) (by simp[T.get_set]) (by simp[T.get_set])
 ·have dA:decide (((a:Nat):Int)=((x1:Nat):Int))=false:=decide_eq_false (by omega)
  have eA:wrap64 (((x1:Nat):Int)+1)=((a:Nat):Int):=by rw[Bc (by omega) (by omega)];omega
  subst hm1
  simp only[SS,reduceCtorEq, ↓reduceIte,A0,dA,Ai OI (by decide)]
  refine aB Bx k2.o2.at' ?_
  have y3:=y2.thenRd hb0 (X+(0+2))
  have k3:CntI (s2.rdN (X+(0+2))) X x1 x2 true m2:=k2.same rfl rfl
  have hA3:JrA (s2.rdN (X+(0+2))) col D M J fl R a b u:=hA2.same rfl rfl
  generalize s2.rdN (X+(0+2))=s3 at *
  simp only[SS, ↓reduceIte,Ai G9 (by decide)]
  refine aB Au k3.o0.at' ?_
  have y4:=y3.thenRd hb0 (X+(0+0))
  have k4:CntI (s3.rdN (X+(0+0))) X x1 x2 true m2:=k3.same rfl rfl
  have hA4:JrA (s3.rdN (X+(0+0))) col D M J fl R a b u:=hA3.same rfl rfl
  generalize s3.rdN (X+(0+0))=s4 at *
  simp only[SS, ↓reduceIte,AO,A0,decide_true,eA,Ai Fl (by decide)]
  refine aB Au k4.o1.at' ?_
  have y5:=y4.thenRd hb0 (X+(0+1))
  have k5:CntI (s4.rdN (X+(0+1))) X x1 x2 true m2:=k4.same rfl rfl
  have hA5:JrA (s4.rdN (X+(0+1))) col D M J fl R a b u:=hA4.same rfl rfl
  generalize s4.rdN (X+(0+1))=s5 at *
  rcases h2 with h2|⟨hm2,h2⟩
  ·have dB:decide (((b:Nat):Int)=((x2:Nat):Int))=true:=decide_eq_true (by omega)
   simp only[AY,CE,HU,Dl,Dp,Dr, ↓reduceIte,A0,Gl,Mz,dB]
   exact fin s5 _ _ (by omega) y5 k5 hA5 (by simp[T.get_set,t0]) (by simp[T.get_set]) (by simp[T.get_set]) (by simp[T.get_set])
  ·have dB:decide (((b:Nat):Int)=((x2:Nat):Int))=false:=decide_eq_false (by omega)
   have eB:wrap64 (((x2:Nat):Int)+1)=((b:Nat):Int):=by rw[Bc (by omega) (by omega)];omega
   subst hm2
   simp only[SS,reduceCtorEq, ↓reduceIte,A0,dB,Ai Kr (by decide)]
   refine aB Bx k5.o3.at' ?_
   have y6:=y5.thenRd hb0 (X+(0+3))
   have k6:CntI (s5.rdN (X+(0+3))) X x1 x2 true true:=k5.same rfl rfl
   have hA6:JrA (s5.rdN (X+(0+3))) col D M J fl R a b u:=hA5.same rfl rfl
   generalize s5.rdN (X+(0+3))=s6 at *
   simp only[SS, ↓reduceIte,Ai Fl (by decide)]
   refine aB Au k6.o1.at' ?_
   have y7:=y6.thenRd hb0 (X+(0+1))
   have k7:CntI (s6.rdN (X+(0+1))) X x1 x2 true true:=k6.same rfl rfl
   have hA7:JrA (s6.rdN (X+(0+1))) col D M J fl R a b u:=hA6.same rfl rfl
   generalize s6.rdN (X+(0+1))=s7 at *
   simp only[AO,A0,decide_true,eB]
   exact fin s7 _ _ (by omega) y7 k7 hA7 (by simp[T.get_set,t0]) (by simp[T.get_set]) (by simp[T.get_set]) (by simp[T.get_set])
theorem YP_ {is:Bool}(hb:s.lim<=s.next)(hA:JrA s col D M J fl R a b u)(hX:CntI s X a b m1 m2)(hXJ:X+4<=J\/J+5<=X)(hXc: ∀y,X<=y->y<X+4->1000<=col y)(hnm:NmOk fl)(hlt:a+1<256/\b+1<256)(hR:R.length<=300)(hn:3000<=n)
  (qf:u=true-> ∀s1 col' k' g',(∀x,x<s.next->col' x=col x)->Ext Any (λy=>col y<1000\/(J<=y/\y<J+5)\/(X<=y/\y<X+4)) s s1->JrB s1 col' D M J fl R (if is then(1,a+1)else(2,b+1)) a b k' g'->CntI s1 X a b (m1||is) (m2|| !is)->Q (.tuple #[.bool true, .bool true]) s1)
  (q: ∀s1 col',(∀x,x<s.next->col' x=col x)->Ext Any (λy=>col y<1000\/(J<=y/\y<J+5)\/(X<=y/\y<X+4)) s s1->JrA s1 col' D M J fl (R++[if is then(1,a+1)else(2,b+1)]) (if is then a+1 else a) (if is then b else b+1) u->CntI s1 X (if is then a+1 else a) (if is then b else b+1) m1 m2->Q (.tuple #[.bool true, .bool false]) s1):
  W (Ab envS (runF envS n) 26 [.pointer (some ⟨X,0,none⟩), .pointer (some ⟨J,0,none⟩), .bool is]) s Q:=by
 have hb0:(s.cxN cxN).lim<=(s.cxN cxN).next:=hb
 have hA0:JrA (s.cxN cxN) col D M J fl R a b u:=hA.same rfl rfl
 have hX0:CntI (s.cxN cxN) X a b m1 m2:=hX.same rfl rfl
 have e1:wrap64 (((a:Nat):Int)+1)=((a+1:Nat):Int):=by
  rw[Bc (by omega) (by omega)];simp
 have e2:wrap64 (((b:Nat):Int)+1)=((b+1:Nat):Int):=by
  rw[Bc (by omega) (by omega)];simp
 have hXl:X+3<s.next:=hX.o3.1
 refine UP_ λtm t0 t1 t2=> ?_
 refine Rc_.u ?_
 simp only[Ck_,RR,SS]
 refine Qb_.u ?_
 simp only[SH,RR,SS,Nat.reduceEqDiff, ↓reduceIte,t2]
 cases is with
 |true=>
  refine aK TC ?_
  refine Oz_.u ?_
  simp only[ZT,RR,SS,Nat.reduceEqDiff, ↓reduceIte,t1]
  refine Zl_ hb0 hA0 hnm (by omega) hR (by omega) (λhu s1 col1 k1 g1 hag x1 hB=> ?_) λs1 col1 hag x1 hA1=> ?_
  ·have kk:CntI s1 X a b m1 m2:=hX0.ext x1 λy hy g=>by
    rcases Nat.lt_or_ge y X with h1|h1
    ·exact .inl h1
    ·rcases Nat.lt_or_ge y (X+4)with h2|h2
     ·have:=hXc y h1 h2
      omega
     ·exact .inr h2
   rw[AP (k:=0) rfl]
   rw[AP (k:=1) rfl]
   refine QF.u ?_
   simp only[NA,RR,SS, ↓reduceIte,AL]
   refine aK Tj ?_
   refine WR_.u ?_
   simp only[Qq,RR,SS,reduceCtorEq, ↓reduceIte,t0,Ai OI (by decide)]
   refine aG Bx rfl kk.o2 λs2 n2 x2 o2=> ?_
   have x2':Ext Any (λy=>X<=y/\y<X+4) s1 s2:=x2.weak (x1.bnd hb0) (λ_ _ _=>trivial) λy _ g=>by have h1:=g.1;have h2:=g.2;omega
   have y2:Ext Any (λy=>col y<1000\/(J<=y/\y<J+5)\/(X<=y/\y<X+4)) (s.cxN cxN) s2:=(x1.gw hb0 λy _ g=>by omega).on x2' hb0 λy _ g=> .inr (.inr g)
   have hB2:=hB.ext x2' λy _ g=>⟨by rw[hag y (by show y<s.next;omega)];exact hXc y g.1 g.2,by omega⟩
   refine JS_.u ?_
   simp only[EY_,RR,SS,Nat.reduceEqDiff, ↓reduceIte,A0,Nat.reduceEqDiff, ↓reduceIte,decide_true]
   refine aC (rs:=[6,7]) (vs:=[.bool true, .bool true]) rfl (.inl YT_) (by omega) Hm Jc y2.cx (by simp[T.get_set]) ?_
   refine qf hu _ col1 k1 g1 hag y2.cx' (hB2.same rfl rfl) ?_
   have w0:=kk.o0.ext x2 λg=>by have h1:=g.1;omega
   have w1:=kk.o1.ext x2 λg=>by have h1:=g.1;omega
   have w3:=kk.o3.ext x2 λg=>by have h1:=g.1;have h2:=g.2;omega
   exact⟨w0.same rfl rfl,w1.same rfl rfl,by rw[Bool.or_true];exact o2.same rfl rfl,by rw[Bool.not_true,Bool.or_false];exact w3.same rfl rfl⟩
  ·have kk:CntI s1 X a b m1 m2:=hX0.ext x1 λy hy g=>by
    rcases Nat.lt_or_ge y X with h1|h1
    ·exact .inl h1
    ·rcases Nat.lt_or_ge y (X+4)with h2|h2
     ·have:=hXc y h1 h2
      omega
     ·exact .inr h2
   rw[AP (k:=0) rfl]
   rw[AP (k:=1) rfl]
   refine QF.u ?_
   simp only[NA,RR,SS, ↓reduceIte,AL]
   refine aH Tj ?_
   refine Zq_.u ?_
   simp only[Ae_,RR,SS,reduceCtorEq, ↓reduceIte,t0,Ai G9 (by decide)]
   refine aB Au kk.o0.at' ?_
   have z1:Ext Any Non s1 (s1.rdN (X+(0+0))):=Ext.rdN s1 _ λ_=>trivial
   have k2:CntI (s1.rdN (X+(0+0))) X a b m1 m2:=kk.same rfl rfl
   have hA2:JrA (s1.rdN (X+(0+0))) col1 D M J fl _ _ _ u:=hA1.same rfl rfl
   have y1:Ext Any (λy=>col y<1000\/(J<=y/\y<J+5)\/(X<=y/\y<X+4)) (s.cxN cxN) (s1.rdN (X+(0+0))):=(x1.gw hb0 λy _ g=>by omega).on z1 hb0 λ_ _ g=>g.elim
   clear z1
   generalize s1.rdN (X+(0+0))=s2 at *
   simp only[AO,e1]
   refine aG Au rfl k2.o0 λs3 n3 x3 o3=> ?_
   have x3':Ext Any (λy=>X<=y/\y<X+4) s2 s3:=x3.weak (y1.bnd hb0) (λ_ _ _=>trivial) λy _ g=>by have h1:=g.1;have h2:=g.2;omega
   have y3:=y1.on x3' hb0 λy _ g=> .inr (.inr g)
   have hA3:=hA2.ext x3' λy _ g=>⟨by rw[hag y (by show y<s.next;omega)];exact hXc y g.1 g.2,by omega⟩
   have w1:=k2.o1.ext x3 λg=>by have h1:=g.1;have h2:=g.2;omega
   have w2:=k2.o2.ext x3 λg=>by have h1:=g.1;have h2:=g.2;omega
   have w3:=k2.o3.ext x3 λg=>by have h1:=g.1;have h2:=g.2;omega
   refine KB_.u ?_
   simp only[Vd,RR,SS,Nat.reduceEqDiff,reduceCtorEq, ↓reduceIte,Nat.reduceEqDiff, ↓reduceIte,t0,Ai G9 (by decide)]
   refine aB Au o3.at' ?_
   have y4:=y3.on (Ext.rdN (F:=Any) (G:=Non) s3 (X+(0+0)) λ_=>trivial) hb0 λ_ _ g=>g.elim
   simp only[A0,decide_true]
   refine aC (rs:=[6,7]) (vs:=[.bool true, .bool false]) rfl (.inl So_) (by omega) Hm Jc y4.cx (by simp[T.get_set]) ?_
   exact q _ col1 hag y4.cx' (hA3.same rfl rfl) ⟨o3.same rfl rfl,w1.same rfl rfl,w2.same rfl rfl,w3.same rfl rfl⟩
 |false=>
  refine aH TC ?_
  refine Abv_.u ?_
  simp only[FJ_,RR,SS,Nat.reduceEqDiff, ↓reduceIte,t1]
  refine Adf_ hb0 hA0 hnm (by omega) hR (by omega) (λhu s1 col1 k1 g1 hag x1 hB=> ?_) λs1 col1 hag x1 hA1=> ?_
  ·have kk:CntI s1 X a b m1 m2:=hX0.ext x1 λy hy g=>by
    rcases Nat.lt_or_ge y X with h1|h1
    ·exact .inl h1
    ·rcases Nat.lt_or_ge y (X+4)with h2|h2
     ·have:=hXc y h1 h2
      omega
     ·exact .inr h2
   rw[AP (k:=0) rfl]
   rw[AP (k:=1) rfl]
   refine UE.u ?_
   simp only[N3,RR,SS, ↓reduceIte,AL]
   refine aK HQ_ ?_
   refine AbJ_.u ?_
   simp only[Rj,RR,SS,reduceCtorEq, ↓reduceIte,t0,Ai Kr (by decide)]
   refine aG Bx rfl kk.o3 λs2 n2 x2 o2=> ?_
   have x2':Ext Any (λy=>X<=y/\y<X+4) s1 s2:=x2.weak (x1.bnd hb0) (λ_ _ _=>trivial) λy _ g=>by have h1:=g.1;have h2:=g.2;omega
   have y2:Ext Any (λy=>col y<1000\/(J<=y/\y<J+5)\/(X<=y/\y<X+4)) (s.cxN cxN) s2:=(x1.gw hb0 λy _ g=>by omega).on x2' hb0 λy _ g=> .inr (.inr g)
   have hB2:=hB.ext x2' λy _ g=>⟨by rw[hag y (by show y<s.next;omega)];exact hXc y g.1 g.2,by omega⟩
   refine OQ_.u ?_
   simp only[Ti,RR,SS,Nat.reduceEqDiff, ↓reduceIte,A0,Nat.reduceEqDiff, ↓reduceIte,decide_true]
   refine aC (rs:=[6,7]) (vs:=[.bool true, .bool true]) rfl (.inl TD_) (by omega) Hm Jc y2.cx (by simp[T.get_set]) ?_
   refine qf hu _ col1 k1 g1 hag y2.cx' (hB2.same rfl rfl) ?_
   have w0:=kk.o0.ext x2 λg=>by have h1:=g.1;omega
   have w1:=kk.o1.ext x2 λg=>by have h1:=g.1;omega
   have w2:=kk.o2.ext x2 λg=>by have h1:=g.1;have h2:=g.2;omega
   exact⟨w0.same rfl rfl,w1.same rfl rfl,by rw[Bool.or_false];exact w2.same rfl rfl,by rw[Bool.not_false,Bool.or_true];exact o2.same rfl rfl⟩
  ·have kk:CntI s1 X a b m1 m2:=hX0.ext x1 λy hy g=>by
    rcases Nat.lt_or_ge y X with h1|h1
    ·exact .inl h1
    ·rcases Nat.lt_or_ge y (X+4)with h2|h2
     ·have:=hXc y h1 h2
      omega
     ·exact .inr h2
   rw[AP (k:=0) rfl]
   rw[AP (k:=1) rfl]
   refine UE.u ?_
   simp only[N3,RR,SS, ↓reduceIte,AL]
   refine aH HQ_ ?_
   refine VN_.u ?_
   simp only[Sk,RR,SS,reduceCtorEq, ↓reduceIte,t0,Ai Fl (by decide)]
   refine aB Au kk.o1.at' ?_
   have z1:Ext Any Non s1 (s1.rdN (X+(0+1))):=Ext.rdN s1 _ λ_=>trivial
   have k2:CntI (s1.rdN (X+(0+1))) X a b m1 m2:=kk.same rfl rfl
   have hA2:JrA (s1.rdN (X+(0+1))) col1 D M J fl _ _ _ u:=hA1.same rfl rfl
   have y1:Ext Any (λy=>col y<1000\/(J<=y/\y<J+5)\/(X<=y/\y<X+4)) (s.cxN cxN) (s1.rdN (X+(0+1))):=(x1.gw hb0 λy _ g=>by omega).on z1 hb0 λ_ _ g=>g.elim
   clear z1
   generalize s1.rdN (X+(0+1))=s2 at *
   simp only[AO,e2]
   refine aG Au rfl k2.o1 λs3 n3 x3 o3=> ?_
   have x3':Ext Any (λy=>X<=y/\y<X+4) s2 s3:=x3.weak (y1.bnd hb0) (λ_ _ _=>trivial) λy _ g=>by have h1:=g.1;have h2:=g.2;omega
   have y3:=y1.on x3' hb0 λy _ g=> .inr (.inr g)
   have hA3:=hA2.ext x3' λy _ g=>⟨by rw[hag y (by show y<s.next;omega)];exact hXc y g.1 g.2,by omega⟩
   have w0:=k2.o0.ext x3 λg=>by have h1:=g.1;have h2:=g.2;omega
   have w2:=k2.o2.ext x3 λg=>by have h1:=g.1;have h2:=g.2;omega
   have w3:=k2.o3.ext x3 λg=>by have h1:=g.1;have h2:=g.2;omega
   refine AbP_.u ?_
   simp only[Bb_,RR,SS,Nat.reduceEqDiff,reduceCtorEq, ↓reduceIte,Nat.reduceEqDiff, ↓reduceIte,t0,Ai Fl (by decide)]
   refine aB Au o3.at' ?_
   have y4:=y3.on (Ext.rdN (F:=Any) (G:=Non) s3 (X+(0+1)) λ_=>trivial) hb0 λ_ _ g=>g.elim
   simp only[A0,decide_true]
   refine aC (rs:=[6,7]) (vs:=[.bool true, .bool false]) rfl (.inl Pv_) (by omega) Hm Jc y4.cx (by simp[T.get_set]) ?_
   exact q _ col1 hag y4.cx' (hA3.same rfl rfl) ⟨w0.same rfl rfl,o3.same rfl rfl,w2.same rfl rfl,w3.same rfl rfl⟩
end
theorem HG:fldN envS 57 0=some (0,1,false):=by kernel_rfl
theorem KD:fldN envS 57 1=some (1,1,false):=by kernel_rfl
theorem SZ_:fldN envS 57 2=some (2,1,false):=by kernel_rfl
theorem Ip:tyS envS 22=some (1,false):=by kernel_rfl
theorem AaS_ (n:Int):CK (λk=>some (k*1,1)) [(0, .int .i64 n),(1, .int .i64 n),(2, .int .i64 n)] (rep 3 [.int .i64 0])=some [.int .i64 n, .int .i64 n, .int .i64 n]:=rfl
theorem Abq_ (x y:Nat)(a:Bool)(s:St):Cl.get (aBin envS .eql 4 (.tmp x) (.tmp y)) (.bool (!a)) (.bool a) s= .some (.bool false) s:=by
 cases a
 ·kernel_rfl
 ·kernel_rfl
theorem Km_ (x y:Nat)(a:Bool){s:St}(Q:Value->St->Prop):W (Cl.get (aBin envS .eql 4 (.tmp x) (.tmp y)) (.bool (!a)) (.bool a)) s Q=Q (.bool false) s:=AJ (Abq_ x y a s)
structure CpI (s:St)(C:Nat)(lv:Value)(fuse keep:Int):Prop where
 o0:Own s C 0 lv
 o1:Own s C 1 (.int .i64 fuse)
 o2:Own s C 2 (.int .i64 keep)
theorem CpI.same {s s':St}{C:Nat}{lv:Value}{fuse keep:Int}(h:CpI s C lv fuse keep)(hm:s'.mem=s.mem)(hn:s'.next=s.next):CpI s' C lv fuse keep:=⟨h.o0.same hm hn,h.o1.same hm hn,h.o2.same hm hn⟩
theorem CpI.ext {F G:Nat->Prop}{s s':St}{C:Nat}{lv:Value}{fuse keep:Int}(h:CpI s C lv fuse keep)(x:Ext F G s s')(hG: ∀y,y<s.next->G y->y<C\/C+3<=y):CpI s' C lv fuse keep:=by
 have c: ∀o,o<3->C+o<s.next-> ¬G (C+o):=λo ho hn g=>by have:=hG _ hn g;omega
 exact⟨h.o0.ext x (c 0 (by decide) h.o0.1),h.o1.ext x (c 1 (by decide) h.o1.1),h.o2.ext x (c 2 (by decide) h.o2.1)⟩
theorem CpI.ext0 {F:Nat->Prop}{s s':St}{C:Nat}{lv:Value}{fuse keep:Int}(h:CpI s C lv fuse keep)(x:Ext F Non s s'):CpI s' C lv fuse keep:=h.ext x λ_ _ g=>g.elim
structure EndJ (K:DkS)(t xa xb:Nat)(m1 m2:Bool):Prop where
 nm: ∃m c,K.fs.map FileS.name=(List.range' m c).map nmJ/\1<=m/\m+c<=14/\c<=12
 room:K.room=1048576
 us:K.used<=900000
 cr: ∀gs,CR K.fs gs-> ∃m L,RestJ gs m L (t+1)/\(maxA 1 0 L=xa\/(m1=true/\maxA 1 0 L=xa+1))/\(maxA 2 0 L=xb\/(m2=true/\maxA 2 0 L=xb+1))
theorem EndJ.out {K:DkS}{m t:Nat}{L:LsJ}{fs:List FileS}(h:RestJ fs m L t)(ht:t<=11)(ho:OutJ m L (maxA 1 0 L) (maxA 2 0 L) K.fs)(hr:K.room=1048576):EndJ K t (maxA 1 0 L) (maxA 2 0 L) false false:=by
 have hml:=h.ml
 have hll:=h.ll
 have hm1:=h.m1
 refine⟨?_,hr, ?_,λgs hc=> ?_⟩
 ·rcases ho with ho|⟨fs0,g,e,hf0,hgn,_⟩|⟨i,hi,ho⟩
  ·exact⟨m,L.length,ho.names,hm1,by omega,by omega⟩
  ·refine⟨m,L.length+1, ?_,hm1,by omega,by omega⟩
   rw[e,List.map_append,hf0.names,List.range'_1_concat,List.map_append]
   show _++[g.name]=_++[nmJ (m+L.length)]
   rw[hgn]
  ·have hn:=ho.names
   rw[List.length_append,List.length_drop,List.length_singleton]at hn
   exact⟨m+i,L.length-i+1,hn,by omega,by omega,by omega⟩
 ·show(K.fs.map λf=>f.sb.length+f.lb.length).sum<=_
  have hmx:=h.mx
  rcases ho with ho|⟨fs0,g,e,hf0,hgn,hgs,hgl⟩|⟨i,hi,ho⟩
  ·have:=ho.used h.ok
   omega
  ·have:=hf0.used h.ok
   have h18:=Et [(1,maxA 1 0 L),(2,maxA 2 0 L)]
   rw[e,List.map_append,List.sum_append]
   show _+((g.sb.length+g.lb.length)+0)<=_
   rw[hgs,hgl,h18]
   simp only[List.length_cons,List.length_nil]
   omega
  ·have:=ho.used (LsOk.app (λp hp=>h.ok p (List.mem_of_mem_drop hp)) (LsOk.one (Kk (by omega) (by omega)) (by simp) (by simp)))
   rw[List.length_append,List.length_drop,List.length_singleton]at this
   omega
 ·obtain⟨m',L',h1,h2,h3⟩:=h.cut (by omega) ho hc
  exact⟨m',L',h1, .inl h2, .inl h3⟩
theorem EndJ.one {K:DkS}{g:FileS}{i t a b:Nat}{R:List (Nat×Nat)}(hK:K.fs=[g])(hr:K.room=1048576)(hi:1<=i)(hit:i<=t+1)(ht:t<=11)(hs:Safe g (nmJ i) (Aq R))(hR: ∀r∈R,BC r)(hRl:R.length<=99)(h1:maxJ 1 0 R=a)(h2:maxJ 2 0 R=b)(hab:a+b<=20*(t+1)):EndJ K t a b false false:=by
 refine⟨⟨i,1, ?_,hi,by omega,by decide⟩,hr, ?_,λgs hc=> ?_⟩
 ·rw[hK]
  show [g.name]=[nmJ i]
  rw[hs.name]
 ·have:=Sv hK hs
  have h3:=Et R
  omega
 ·rw[hK]at hc
  obtain⟨m',L',g1,g2,g3⟩:=RestJ.one hi hit hs hR (by omega) h1 h2 hab hc
  exact⟨m',L',g1, .inl g2, .inl g3⟩
theorem EndJ.brk {K:DkS}{g:FileS}{i t a b:Nat}{R:List (Nat×Nat)}{is:Bool}(hK:K.fs=[g])(hr:K.room=1048576)(hi:1<=i)(hit:i<=t+1)(ht:t<=11)(hn:g.name=nmJ i)(hsb:g.sb=Aq R)(hlb:g.lb=[]\/g.lb=recJ (if is then(1,a+1)else(2,b+1)))(hR: ∀r∈R,BC r)(hRl:R.length<=98)(h1:maxJ 1 0 R=a)(h2:maxJ 2 0 R=b)(hab:a+b+1<=20*(t+1)):EndJ K t a b (false||is) (false|| !is):=by
 refine⟨⟨i,1, ?_,hi,by omega,by decide⟩,hr, ?_,λgs hc=> ?_⟩
 ·rw[hK]
  show [g.name]=[nmJ i]
  rw[hn]
 ·have h3:=Et R
  show(K.fs.map λf=>f.sb.length+f.lb.length).sum<=_
  rw[hK]
  show(g.sb.length+g.lb.length)+0<=_
  have h4:g.lb.length<=9:=by
   rcases hlb with h|h
   ·rw[h];simp
   ·rw[h,B7];omega
  rw[hsb]
  omega
 ·rw[hK]at hc
  have hrk:BC (if is then(1,a+1)else(2,b+1)):=by
   cases is
   ·exact⟨by simp,by simp,by show b+1<256;omega⟩
   ·exact⟨by simp,by simp,by show a+1<256;omega⟩
  have e1:maxJ 1 0 (R++[if is then(1,a+1)else(2,b+1)])=if is then a+1 else a:=by
   rw[Fd,h1]
   cases is
   ·rfl
   ·show max a (a+1)=a+1
    omega
  have e2:maxJ 2 0 (R++[if is then(1,a+1)else(2,b+1)])=if is then b else b+1:=by
   rw[Fd,h2]
   cases is
   ·show max b (b+1)=b+1
    omega
   ·rfl
  obtain⟨m',L',g1,g2⟩:=RestJ.brk hi hit hn hsb hlb hR hrk (by omega) (by rw[e1,e2];cases is<;>simp<;>omega) hc
  refine⟨m',L',g1, ?_⟩
  rw[e1,e2,h1,h2]at g2
  cases is with
  |true=>
   rcases g2 with⟨p,q⟩|⟨p,q⟩
   ·exact⟨.inl p, .inl q⟩
   ·exact⟨.inr ⟨rfl,p⟩, .inl q⟩
  |false=>
   rcases g2 with⟨p,q⟩|⟨p,q⟩
   ·exact⟨.inl p, .inl q⟩
   ·exact⟨.inl p, .inr ⟨rfl,q⟩⟩
section
variable {D M X C:Nat}{va lv:Value}{fuse keep:Int}{s0:St}
theorem Qe {t xa xb:Nat}{m1 m2:Bool}{n:Nat}{tm:T Value}{td:List Item}{s:St}{col:Nat->Nat}{K:DkS}(hb0:s0.lim<=s0.next)(hT:skim 64 td=KA)(hn:100000<=n)(ht:t<=11)
  (hy:Ext Any Non s0 s) (hc: ∀x,x<s0.next->1000<=col x) (hI:DkI s col D M K) (hE:EndJ K t xa xb m1 m2) (hX:CntI s X xa xb m1 m2) (hXc: ∀y,X<=y->y<X+4->1000<=col y) (hC:CpI s C lv fuse keep) (hCc: ∀y,C<=y->y<C+3->1000<=col y)
  (t0:T.get tm 0=some va) (t3:T.get tm 3=some (.bool true)) (t4:T.get tm 4=some (.pointer (some ⟨D,0,none⟩))) (t6:T.get tm 6=some (.pointer (some ⟨X,0,none⟩))) (t7:T.get tm 7=some (.int .i64 (t:Nat))) (t8:T.get tm 8=some (.pointer (some ⟨C,0,none⟩))) (t11:T.get tm 11=some (.bool K.out))
  (q: ∀n' tm' td' s' col' K' m L,n<=n'+20->skim 64 td'=Ej->Ext Any Non s0 s'->(∀x,x<s0.next->1000<=col' x)->DkI s' col' D M K'->K'.room=1048576->K'.out=false->K'.fused=false->RestJ K'.fs m L (t+1)->CntI s' X xa xb m1 m2->(∀y,X<=y->y<X+4->1000<=col' y)->(maxA 1 0 L=xa\/(m1=true/\maxA 1 0 L=xa+1))->(maxA 2 0 L=xb\/(m2=true/\maxA 2 0 L=xb+1))->
   T.get tm' 0=some va->T.get tm' 3=some (.bool true)->T.get tm' 4=some (.pointer (some ⟨D,0,none⟩))->T.get tm' 6=some (.pointer (some ⟨X,0,none⟩))->T.get tm' 7=some (.int .i64 (t+1:Nat))->W (runF envS n' ⟨5,CS,AT,tm',td', .run, .normal,none⟩) s' λp _=>p.1= .bool true):
  W (runF envS n ⟨5,CS,AT,tm,td, .run, .normal,none⟩) s λp _=>p.1= .bool true:=by
 have hbs:=hy.bnd hb0
 have hs0:s0.next<=s.next:=hy.nxt
 have hXl:X+3<s.next:=hX.o3.1
 have hCl:C+2<s.next:=hC.o2.1
 obtain⟨m,c,hnm,hm1,hmc,hc12⟩:=hE.nm
 have hlen:K.fs.length=c:=by have:=congrArg List.length hnm;simpa using this
 have hI0:DkI s (Av col s.next 1000) D M K:=hI.col λx hx=>AG hx
 refine VP_.u ?_ hT
 simp only[Y0,RR,SS,t4]
 refine DR_ hbs hI0 (by omega) λs1 x1=> ?_
 have hI1:=hI0.ext0 x1 (by omega)
 have hC1:=hC.ext0 x1
 have hb1:=x1.bnd hbs
 simp only[SS,t11]
 rw[Km_]
 simp only[SS,reduceCtorEq, ↓reduceIte,Ai SZ_ (by decide),t8]
 refine aB Au hC1.o2.at' ?_
 have x2:=x1.thenRd hbs (C+(0+2))
 have hI2:DkI (s1.rdN (C+(0+2))) (Av col s.next 1000) D M K:=hI1.same rfl rfl
 have hC2:CpI (s1.rdN (C+(0+2))) C lv fuse keep:=hC1.same rfl rfl
 generalize s1.rdN (C+(0+2))=s2 at *
 refine aB Au hC2.o2.at' ?_
 have x3:=x2.thenRd hbs (C+(0+2))
 have hI3:DkI (s2.rdN (C+(0+2))) (Av col s.next 1000) D M K:=hI2.same rfl rfl
 have hC3:CpI (s2.rdN (C+(0+2))) C lv fuse keep:=hC2.same rfl rfl
 generalize s2.rdN (C+(0+2))=s3 at *
 refine aB Au hC3.o2.at' ?_
 have x4:=x3.thenRd hbs (C+(0+2))
 have hI4:DkI (s3.rdN (C+(0+2))) (Av col s.next 1000) D M K:=hI3.same rfl rfl
 generalize s3.rdN (C+(0+2))=s4 at *
 refine aQ (x4.bnd hbs) (r:=[.int .i64 keep, .int .i64 keep, .int .i64 keep]) Gk_ (by decide) (AaS_ _) (BW (by decide)) λs5 n5 x5 r5=> ?_
 have y5:=x4.on x5 hbs λ_ _ h=>h
 have hI5:=hI4.ext0 x5 (by omega)
 have n45:s.next<=s4.next:=x4.nxt
 have n5':s5.next=s4.next+4:=n5
 have hpl:=ND hm1 (show m+c<=15 by omega) hc12
 have hpm: ∀i (h:i<c),m<=(AE m c).getD i 0/\(AE m c).getD i 0<m+c:=λi h=>by
  rw[List.getD_eq_getElem?_getD,List.getElem?_eq_getElem (by omega)]
  exact IV (List.getElem_mem _)
 refine Pu_ (l':=(AE m c).map nmJ) (p:=λi=>(AE m c).getD i 0-m) (ks:=[keep,keep,keep]) (y5.bnd hbs) hI5 (by rw[hnm];exact NO hm1 (by omega) hc12) (λa ha=>by
  obtain⟨k,hk,rfl⟩:=List.mem_map.1 ha
  have:=IV hk
  exact Ue_ (by omega)) (λi hi=>by have:=hpm i (by omega);show(AE m c).getD i 0-m<_;omega) (λi j hi hj e=>by
  have h1:=hpm i (by omega)
  have h2:=hpm j (by omega)
  have e':(AE m c).getD i 0=(AE m c).getD j 0:=by have e:(AE m c).getD i 0-m=(AE m c).getD j 0-m:=e;omega
  rw[List.getD_eq_getElem?_getD,List.getElem?_eq_getElem (show i<(AE m c).length by omega),List.getD_eq_getElem?_getD,List.getElem?_eq_getElem (show j<(AE m c).length by omega)]at e'
  exact(List.getElem_inj (Vo_ m c)).1 e') (λi hi=>by
  have hi':i<(AE m c).length:=by simpa using hi
  have h1:=hpm i (by omega)
  unfold Az
  rw[List.getElem_map,hnm]
  have e:(AE m c).getD i 0=(AE m c)[i]:=by rw[List.getD_eq_getElem?_getD,List.getElem?_eq_getElem hi'];rfl
  rw[e]at h1 ⊢
  rw[PE (by omega) c m (by omega),if_pos h1]) (by have:=hE.us;omega) (.inr ⟨s4.next,0,_,rfl,r5⟩) (λx hx=>by
  have h1:s4.next+0<=x:=hx.1
  have h2:x<s4.next+0+3:=hx.2
  exact⟨by rw[Ch (by omega)];exact Nat.le_refl _,by omega⟩) (by omega) λs6 col6 fs6 hA hG=> ?_
 have hsur: ∀x,x<K.fs.length-> ∃i,i<K.fs.length/\(AE m c).getD i 0-m=x:=λx hx=>by
  have hmem:m+x∈AE m c:=by
   unfold AE
   rw[List.mem_filter]
   have h14:m+x<=14:=by omega
   refine⟨?_,by simp;omega⟩
   have h1:1<=m+x:=by omega
   generalize m+x=z at *
   have:z=1\/z=2\/z=3\/z=4\/z=5\/z=6\/z=7\/z=8\/z=9\/z=10\/z=11\/z=12\/z=13\/z=14:=by omega
   simp
   omega
  obtain⟨i,hi,e⟩:=List.getElem_of_mem hmem
  refine⟨i,by omega, ?_⟩
  rw[List.getD_eq_getElem?_getD,List.getElem?_eq_getElem hi]
  show(AE m c)[i]-m=x
  omega
 have hcr:=hG.cr λx hx=>hsur x hx
 obtain⟨m',L',hR,hx1,hx2⟩:=hE.cr fs6 hcr
 have hag: ∀x,x<s.next->col6 x=col x:=λx hx=>by rw[hA.agree x (by omega),AG hx]
 have y6:Ext Any (λx=>x<s.next->col x<1000) s s6:=(y5.gw hbs λ_ _ g=>g.elim).on hA.ext hbs λx hx g hx'=>by rw[<-AG (col:=col) (n:=s.next) (c:=1000) hx'];exact g
 have z6:Ext Any Non s0 s6:=hy.on y6 hb0 λx hx g=>by have h1:=g (by omega);have h2:=hc x hx;omega
 have hX6:=hX.ext y6 λy hy' g=>by
  have h1:=g hy'
  rcases Nat.lt_or_ge y X with h|h
  ·exact .inl h
  ·rcases Nat.lt_or_ge y (X+4)with h2|h2
   ·have:=hXc y h h2
    omega
   ·exact .inr h2
 simp only[AL,decide_true,Bool.not_true]
 refine aH Sb_ ?_
 refine SO_.u ?_
 have e2:wrap64 (((t:Nat):Int)+1)=((t+1:Nat):Int):=by
  rw[Bc (by omega) (by omega)];simp
 simp only[AV_,RR,SS,Nat.reduceEqDiff, ↓reduceIte,AO,t7,e2]
 exact q _ _ _ s6 col6 _ m' L' (by omega) VQ_ z6 (λx hx=>by rw[hag x (by omega)];exact hc x hx) hA.inv hE.room rfl rfl hR hX6 (λy h1 h2=>by rw[hag y (by omega)];exact hXc y h1 h2) hx1 hx2 (by simp[T.get_set,t0]) (by simp[T.get_set,t3]) (by simp[T.get_set,t4]) (by simp[T.get_set,t6]) (by simp[T.get_set])
end
section
variable {D M X C J:Nat}{va lv:Value}{fuse keep:Int}{s0:St}{l:List Bool}
theorem T2 {i n:Nat}{tm:T Value}{td:List Item}{s:St}{Q:Value×FrameMode->St->Prop}(hb:s.lim<=s.next)(hT:skim 64 td=H0)(hn:100<=n)(hC:CpI s C lv fuse keep)(hl:BoR s lv l)
  (t8:T.get tm 8=some (.pointer (some ⟨C,0,none⟩))) (t11:T.get tm 11=some (.bool true)) (t12:T.get tm 12=some (.int .i64 (i:Nat)))
  (q: ∀n' tm' td' s',n<=n'+5->skim 64 td'=KA->(∀j,j≠108->T.get tm' j=T.get tm j)->Ext Any Non s s'->s'.mem=s.mem->s'.next=s.next->W (runF envS n' ⟨5,CS,AT,tm',td', .run, .normal,none⟩) s' Q):
  W (runF envS n ⟨5,CS,AT,tm,td, .run, .normal,none⟩) s Q:=by
 refine LE.u ?_ hT
 simp only[Kl,RR,SS,t8,t12,Ai HG (by decide)]
 refine aB Ip hC.o0.at' ?_
 have x1:Ext Any Non s (s.rdN (C+(0+0))):=Ext.rdN s _ λ_=>trivial
 simp only[CE,Dl,Dr,AC,BoR.len hl]
 by_cases h:((i:Nat):Int)<((l.length:Nat):Int)
 ·simp only[SS, ↓reduceIte,decide_eq_true h,t11,BN,Bool.not_true]
  refine aH JN ?_
  exact q _ _ _ _ (by omega) rfl (λj hj=>by simp[T.get_set];omega) x1 rfl rfl
 ·simp only[AY,EB,Dp,reduceCtorEq, ↓reduceIte,decide_eq_false h]
  refine aH JN ?_
  exact q _ _ _ _ (by omega) rfl (λj hj=>by simp[T.get_set];omega) x1 rfl rfl
theorem Qr_ {t im N0:Nat}(hb0:s0.lim<=s0.next)(hl:BoR s0 lv l)(h20:l.length<=20)(ht:t<=11)(him:1<=im)(himt:im<=t+1)(hN:100000<=N0)
  (hXJ:X+4<=J) (hCX:X+4<=C\/C+3<=X) (hCJ:C+3<=J) (hX0:s0.next<=X) (hJ0:s0.next<=J)
  (q: ∀n' tm' td' s' col' K' m L xa xb m1 m2,N0<=n'->skim 64 td'=Ej->Ext Any Non s0 s'->(∀x,x<s0.next->1000<=col' x)->DkI s' col' D M K'->K'.room=1048576->K'.out=false->K'.fused=false->RestJ K'.fs m L (t+1)->CntI s' X xa xb m1 m2->(∀y,X<=y->y<X+4->1000<=col' y)->(maxA 1 0 L=xa\/(m1=true/\maxA 1 0 L=xa+1))->(maxA 2 0 L=xb\/(m2=true/\maxA 2 0 L=xb+1))->
   T.get tm' 0=some va->T.get tm' 3=some (.bool true)->T.get tm' 4=some (.pointer (some ⟨D,0,none⟩))->T.get tm' 6=some (.pointer (some ⟨X,0,none⟩))->T.get tm' 7=some (.int .i64 (t+1:Nat))->W (runF envS n' ⟨5,CS,AT,tm',td', .run, .normal,none⟩) s' λp _=>p.1= .bool true):
  ∀(k i n:Nat) (tm:T Value) (td:List Item) (s:St) (col:Nat->Nat) (R:List (Nat×Nat)) (a b:Nat),i+k=l.length->N0+100+20*k<=n->skim 64 td=H0->Ext Any Non s0 s->(∀x,x<s0.next->1000<=col x)->JrA s col D M J (nmJ im) R a b (decide (0<=fuse))->CntI s X a b false false->(∀y,X<=y->y<X+4->1000<=col y)->CpI s C lv fuse keep->(∀y,C<=y->y<C+3->1000<=col y)->
   (∀r∈R,BC r)->R.length<=2+i->maxJ 1 0 R=a->maxJ 2 0 R=b->a+b<=20*t+i->
   T.get tm 0=some va->T.get tm 3=some (.bool true)->T.get tm 4=some (.pointer (some ⟨D,0,none⟩))->T.get tm 6=some (.pointer (some ⟨X,0,none⟩))->T.get tm 7=some (.int .i64 (t:Nat))->T.get tm 8=some (.pointer (some ⟨C,0,none⟩))->T.get tm 9=some (.pointer (some ⟨J,0,none⟩))->T.get tm 11=some (.bool false)->T.get tm 12=some (.int .i64 (i:Nat))->
   W (runF envS n ⟨5,CS,AT,tm,td, .run, .normal,none⟩) s λp _=>p.1= .bool true:=by
 intro k
 induction k with
 |zero=>
  intro i n tm td s col R a b hi hn hT hy hc hA hX hXc hC hCc hR hRl hRa hRb hab t0 t3 t4 t6 t7 t8 t9 t11 t12
  have e:i=l.length:=by omega
  subst e
  have hls:=hl.ext0 hy
  have hbs:=hy.bnd hb0
  refine LE.u ?_ hT
  simp only[Kl,RR,SS,t8,t12,Ai HG (by decide)]
  refine aB Ip hC.o0.at' ?_
  have x1:Ext Any Non s (s.rdN (C+(0+0))):=Ext.rdN s _ λ_=>trivial
  have d1:decide (((l.length:Nat):Int)<((l.length:Nat):Int))=false:=decide_eq_false (by omega)
  simp only[AY,CE,EB,Dl,Dp,Dr,reduceCtorEq, ↓reduceIte,AC,BoR.len hls,d1]
  refine aH JN ?_
  obtain⟨K,g,hK⟩:=hA.ext0 x1
  refine Qe (va:=va) (lv:=lv) (fuse:=fuse) (keep:=keep) (t:=t) (xa:=a) (xb:=b) (m1:=false) (m2:=false) hb0 rfl (by omega) ht (hy.then0 x1 hb0) hc hK.dk (EndJ.one hK.fs hK.room him himt ht hK.safe hR (by omega) hRa hRb (by omega)) (hX.ext0 x1) hXc (hC.ext0 x1) hCc (by simp[T.get_set,t0]) (by simp[T.get_set,t3]) (by simp[T.get_set,t4]) (by simp[T.get_set,t6]) (by simp[T.get_set,t7]) (by simp[T.get_set,t8]) (by simp[T.get_set,t11,hK.ou]) λn' tm' td' s' col' K' m L hn'=>q n' tm' td' s' col' K' m L a b false false (by omega)
 |succ k ih=>
  intro i n tm td s col R a b hi hn hT hy hc hA hX hXc hC hCc hR hRl hRa hRb hab t0 t3 t4 t6 t7 t8 t9 t11 t12
  have hil:i<l.length:=by omega
  have hls:=hl.ext0 hy
  have hbs:=hy.bnd hb0
  have hs0:s0.next<=s.next:=hy.nxt
  have d1:decide (((i:Nat):Int)<((l.length:Nat):Int))=true:=decide_eq_true (by omega)
  refine LE.u ?_ hT
  simp only[Kl,RR,SS,t8,t12,Ai HG (by decide)]
  refine aB Ip hC.o0.at' ?_
  have x1:Ext Any Non s (s.rdN (C+(0+0))):=Ext.rdN s _ λ_=>trivial
  have hA1:JrA (s.rdN (C+(0+0))) col D M J (nmJ im) R a b (decide (0<=fuse)):=hA.same rfl rfl
  have hX1:CntI (s.rdN (C+(0+0))) X a b false false:=hX.same rfl rfl
  have hC1:CpI (s.rdN (C+(0+0))) C lv fuse keep:=hC.same rfl rfl
  have hl1:BoR (s.rdN (C+(0+0))) lv l:=hls.same rfl rfl
  generalize s.rdN (C+(0+0))=s1 at *
  simp only[SS, ↓reduceIte,AC,BoR.len hls,d1,t11,BN,Bool.not_false]
  refine aK JN ?_
  obtain⟨bb,o,c,ev,hat⟩:=hl1.at hil
  refine TY_.u ?_
  simp only[Qy,RR,SS,Nat.reduceEqDiff, ↓reduceIte,t6,t8,t9,t12,Ai HG (by decide)]
  refine aB Ip hC1.o0.at' ?_
  have x2:Ext Any Non s (s1.rdN (C+(0+0))):=x1.thenRd hbs _
  have hA2:JrA (s1.rdN (C+(0+0))) col D M J (nmJ im) R a b (decide (0<=fuse)):=hA1.same rfl rfl
  have hX2:CntI (s1.rdN (C+(0+0))) X a b false false:=hX1.same rfl rfl
  have hC2:CpI (s1.rdN (C+(0+0))) C lv fuse keep:=hC1.same rfl rfl
  have hat2:At (s1.rdN (C+(0+0))) bb (o+i*1) (.bool l[i]):=hat.same rfl rfl
  generalize s1.rdN (C+(0+0))=s2 at *
  rw[ev]
  simp only[By OB hil]
  refine aB Bx hat2 ?_
  rw[<-ev]at *
  have x3:Ext Any Non s (s2.rdN (bb+(o+i*1))):=x2.thenRd hbs _
  have hA3:JrA (s2.rdN (bb+(o+i*1))) col D M J (nmJ im) R a b (decide (0<=fuse)):=hA2.same rfl rfl
  have hX3:CntI (s2.rdN (bb+(o+i*1))) X a b false false:=hX2.same rfl rfl
  have hC3:CpI (s2.rdN (bb+(o+i*1))) C lv fuse keep:=hC2.same rfl rfl
  clear hat2 hat
  generalize s2.rdN (bb+(o+i*1))=s3 at *
  generalize hv:l[i]=is at *
  have hn3:s.next<=s3.next:=x3.nxt
  have hCl:C+2<s3.next:=hC3.o2.1
  have hXl:X+3<s3.next:=hX3.o3.1
  have y3:=hy.then0 x3 hb0
  have e2:wrap64 (((i:Nat):Int)+1)=((i+1:Nat):Int):=by
   rw[Bc (by omega) (by omega)];simp
  have keepC: ∀{s4:St} {col4:Nat->Nat},(∀x,x<s3.next->col4 x=col x)->Ext Any (λy=>col y<1000\/(J<=y/\y<J+5)\/(X<=y/\y<X+4)) s3 s4->CpI s4 C lv fuse keep/\Ext Any Non s0 s4/\(∀x,x<s0.next->1000<=col4 x)/\(∀y,X<=y->y<X+4->1000<=col4 y)/\ ∀y,C<=y->y<C+3->1000<=col4 y:=λ{s4 col4} hag x4=>by
   refine⟨hC3.ext x4 λy _ g=> ?_,y3.on x4 hb0 λy hy' g=> ?_,λx hx=>by rw[hag x (by omega)];exact hc x hx,λy h1 h2=>by rw[hag y (by omega)];exact hXc y h1 h2,λy h1 h2=>by rw[hag y (by omega)];exact hCc y h1 h2⟩
   ·rcases Nat.lt_or_ge y C with h|h
    ·exact .inl h
    ·rcases Nat.lt_or_ge y (C+3)with h2|h2
     ·have:=hCc y h h2
      omega
     ·exact .inr h2
   ·have:=hc y hy'
    omega
  refine YP_ (is:=is) (y3.bnd hb0) hA3 hX3 (.inl hXJ) hXc (YN (by omega)) (by omega) (by omega) (by omega) (λhu s4 col4 K4 g4 hag x4 hB4 hX4=> ?_) λs4 col4 hag x4 hA4 hX4=> ?_
  ·obtain⟨hC4,y4,hc4,hXc4,hCc4⟩:=keepC hag x4
   have hfu:(0:Int)<=fuse:=of_decide_eq_true hu
   rw[AP (k:=0) rfl]
   rw[AP (k:=1) rfl]
   refine Wk.u ?_
   simp only[Pn,RR,SS,Nat.reduceEqDiff,reduceCtorEq, ↓reduceIte,t8,t9,BN,Bool.not_true,Ai KD (by decide)]
   refine aB Au hC4.o1.at' ?_
   have x5:Ext Any Non s4 (s4.rdN (C+(0+1))):=Ext.rdN s4 _ λ_=>trivial
   have hB5:JrB (s4.rdN (C+(0+1))) col4 D M J (nmJ im) R _ a b K4 g4:=hB4.same rfl rfl
   have hX5:CntI (s4.rdN (C+(0+1))) X a b _ _:=hX4.same rfl rfl
   have hC5:CpI (s4.rdN (C+(0+1))) C lv fuse keep:=hC4.same rfl rfl
   generalize s4.rdN (C+(0+1))=s5 at *
   have dF:decide (fuse<0)=false:=decide_eq_false (by omega)
   simp only[SS,reduceCtorEq, ↓reduceIte,AC,dF]
   have y5:=y4.then0 x5 hb0
   refine AaQ_ (y5.bnd hb0) hB5.jn rfl (by omega) λs6 x6=> ?_
   have hB6:=hB5.ext x6 λ_ _ g=>g.elim
   have hX6:=hX5.ext0 x6
   have hC6:=hC5.ext0 x6
   have y6:=y5.then0 x6 hb0
   simp only[BN,Bool.not_true]
   refine aH YA ?_
   refine Ad_.u ?_
   simp only[Pg,RR,SS,Nat.reduceEqDiff, ↓reduceIte,Nat.reduceEqDiff, ↓reduceIte]
   refine DB_.u ?_
   simp only[KZ,RR,SS,Nat.reduceEqDiff, ↓reduceIte,AO,t12,e2]
   refine T2 (i:=i+1) (l:=l) (lv:=lv) (fuse:=fuse) (keep:=keep) (y6.bnd hb0) Cf_ (by omega) hC6 (hl.ext0 y6) (by simp[T.get_set,t8]) (by simp[T.get_set]) (by simp[T.get_set]) λn7 tm7 td7 s7 hn7 hT7 ht7 x7 m7 n7e=> ?_
   refine Qe (va:=va) (lv:=lv) (fuse:=fuse) (keep:=keep) (t:=t) (xa:=a) (xb:=b) hb0 hT7 (by omega) ht (y6.then0 x7 hb0) hc4 (hB6.dk.same m7 n7e) (EndJ.brk hB6.fs hB6.room him himt ht hB6.nm hB6.sb hB6.lb hR (by omega) hRa hRb (by omega)) (hX6.same m7 n7e) hXc4 (hC6.same m7 n7e) hCc4 (by rw[ht7 0 (by decide)];simp[T.get_set,t0]) (by rw[ht7 3 (by decide)];simp[T.get_set,t3]) (by rw[ht7 4 (by decide)];simp[T.get_set,t4]) (by rw[ht7 6 (by decide)];simp[T.get_set,t6]) (by rw[ht7 7 (by decide)];simp[T.get_set,t7]) (by rw[ht7 8 (by decide)];simp[T.get_set,t8]) (by rw[ht7 11 (by decide),hB6.ou];simp[T.get_set]) λn' tm' td' s' col' K' m L hn'=>q n' tm' td' s' col' K' m L a b _ _ (by omega)
  ·obtain⟨hC4,y4,hc4,hXc4,hCc4⟩:=keepC hag x4
   rw[AP (k:=0) rfl]
   rw[AP (k:=1) rfl]
   refine Wk.u ?_
   simp only[Pn,RR,SS,Nat.reduceEqDiff,reduceCtorEq, ↓reduceIte,Gl,Ng,t8,t9,BN,Bool.not_true]
   refine aH YA ?_
   refine Ad_.u ?_
   simp only[Pg,RR,SS,Nat.reduceEqDiff, ↓reduceIte,Nat.reduceEqDiff, ↓reduceIte]
   refine DB_.u ?_
   simp only[KZ,RR,SS,Nat.reduceEqDiff, ↓reduceIte,AO,t12,e2]
   have hrk:BC (if is then(1,a+1)else(2,b+1)):=by
    cases is
    ·exact⟨by simp,by simp,by show b+1<256;omega⟩
    ·exact⟨by simp,by simp,by show a+1<256;omega⟩
   refine ih (i+1) _ _ _ s4 col4 _ _ _ (by omega) (by omega) Cf_ y4 hc4 hA4 hX4 hXc4 hC4 hCc4 (λr hr=> ?_) (by rw[List.length_append,List.length_singleton];omega) ?_ ?_ (by cases is<;>simp<;>omega) (by simp[T.get_set,t0]) (by simp[T.get_set,t3]) (by simp[T.get_set,t4]) (by simp[T.get_set,t6]) (by simp[T.get_set,t7]) (by simp[T.get_set,t8]) (by simp[T.get_set,t9]) (by simp[T.get_set]) (by simp[T.get_set])
   ·rcases List.mem_append.1 hr with hr|hr
    ·exact hR r hr
    ·rw[List.mem_singleton.1 hr];exact hrk
   ·rw[Fd,hRa]
    cases is
    ·rfl
    ·show max a (a+1)=a+1
     omega
   ·rw[Fd,hRb]
    cases is
    ·show max b (b+1)=b+1
     omega
    ·rfl
