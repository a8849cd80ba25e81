import Derived.Test.YtheboekhpelhlaaDSb27
noncomputable section
namespace Go.Proofs.Ytheboekhpelhlaa.Am
open Go.RowKit
def Cw:Nat:=Ao Try.f23
def VD:Code:=Try.f23.body.getD .skip
theorem Gn:envS.fn.get 23=some Try.f23:=X
theorem Aox_:G3 envS 23 37 Cw VD:=λh=>
 aL Gn (h _ X X X)
theorem GW:Try.f23.results.toList=[.tmp 6]:=X
def MS_:List Item:=skim 64 [.code VD]
def Xd:=nx MS_
def St_:=nx Xd
def RL:=nx St_
def Zy:=bt RL
def SQ:=bf RL
def RI_:=nx Zy
def Km_:=nx SQ
def P7:=nx Km_
def Ai_:=bt P7
def LB_:=bf P7
def KE:=nx Ai_
def RV:=nx LB_
def Nr_:=bt RV
def Ct_:=bf RV
theorem Ang_:skim 64 Nr_.tail=KE:=X
def Ol:=nx Ct_
def On_:=bt Ol
def Jn_:=bf Ol
theorem Ty_:skim 64 On_.tail=KE:=X
def XK:=nx Jn_
def TU:Rg:=λE u r t=>
 M.bind (oS (T.get t 0) λa=>kBox a) λv3=>
 setF 3 v3 t λt1=>
 M.bind (oS (T.get t1 1) λa=>kBox a) λv4=>
 setF 4 v4 t1 λt2=>
 M.bind (oS (T.get t2 2) λa=>kBox a) λv5=>
 setF 5 v5 t2 λt3=>
 sV 6 (.int .i64 0) t3
theorem Ta_:RegEq 23 37 Cw MS_ TU:={}
def Oo_:Rg:=λE u r t=>
 lD E 25 (T.get t 3) λv9=>
 cN u r 48 [(some v9)] λv10=>
 sV 7 v10 t
theorem Amq_:RegEq 23 37 Cw Xd Oo_:={}
def Rj:Rg:=λE u r t=>
 mG t 7 λv11=>
 ab E .neq 26 11 (.int .i64 0) (some v11) λv12=>
 sF 12 v12 t
theorem Aje_:RegEq 23 37 Cw St_ Rj:={}
theorem Fx_:Ad RL=some 12:=X
def UQ:Rg:=λE u r t=>
 mG t 7 λv13=>
 sV 6 v13 t
theorem Akm_:RegEq 23 37 Cw Zy UQ:={}
def FQ_:RdW:=λE call round tm=>
 LD E 25 (T.get tm 3) λp0=>
 M.bind (apartO (oS (some p0.1) λa=>kNil a)) λp1=>
 FD E 56 1 (some p1.1) λp2=>
 LD E 49 (some p2.1) λp3=>
 LD E 9 (T.get tm 4) λp4=>
 M.bind (apartO (oS (some p3.1) λa=>oS (some p4.1) λb=>B6 E 49 false a b)) λp5=>
 M.bind (apartO (CM E 72)) λp6=>
 setT 8 p6.1 tm λtm1=>
 fJ [p6,p5,p4,p3,p2,p1,p0] tm1
theorem Aqr_:DrawEq 23 37 Cw SQ [0,1,3,7,0,31,0,127] FQ_:={}
theorem VJ_ (E:Env)(call round:Ag)(x14 x15 x16 x17 x18 x19 x8:Value)(tm:T Value)(s:St):AB call round (AP E Cw 37 (hdC SQ)) [x8,x19,x18,x17,x16,x15,x14] tm s=(M.bind (oS (some x8) λa=>oS (some x19) λb=>Az E 72 a b) λ_=>M.pure tm) s:=X
theorem Agx_: ∃k,RI_= .code .ret::k:=⟨RI_.tail,X⟩
def EB_:Rg:=λE u r t=>
 lD E 9 (T.get t 5) λv21=>
 cN u r 49 [(some v21)] λv22=>
 M.bind (oS (some v22) λa=>kUn E.P .not a) λv23=>
 sV 20 v23 t
theorem Afa_:RegEq 23 37 Cw Km_ EB_:={}
theorem BU_:Ad P7=some 20:=X
def AF_:Rg:=λE u r t=>
 sV 6 (.int .i64 2) t
theorem AkK_:RegEq 23 37 Cw Ai_ AF_:={}
def RA_:Rg:=λE u r t=>
 lD E 72 (T.get t 8) λv25=>
 ab E .eql 72 25 (.pointer none) (some v25) λv26=>
 sV 24 v26 t
theorem AcA_:RegEq 23 37 Cw LB_ RA_:={}
theorem SN: ∃k,KE= .code .ret::k:=⟨KE.tail,X⟩
theorem Cp_:Ad RV=some 24:=X
def Lu_:Rg:=λE u r t=>
 sV 6 (.int .i64 6) t
theorem Agp_:RegEq 23 37 Cw Nr_ Lu_:={}
def JS_:Rg:=λE u r t=>
 lD E 72 (T.get t 8) λv28=>
 kN v28 λv29=>
 fD E 74 1 (some v29) λv30=>
 lD E 32 (some v30) λv31=>
 lL E 32 v31 λv32=>
 ac E .gtr 32 0 (some v32) λv33=>
 sV 27 v33 t
theorem Acu_:RegEq 23 37 Cw Ct_ JS_:={}
theorem Zg:Ad Ol=some 27:=X
def No_:Rg:=λE u r t=>
 sV 6 (.int .i64 9) t
theorem Agy_:RegEq 23 37 Cw On_ No_:={}
def Zi:Rg:=λE u r t=>
 lD E 25 (T.get t 3) λv34=>
 M.bind (oS (seqO []) λa=>oS (seqO [(T.get t 3),(T.get t 4),(T.get t 8),(T.get t 5)]) λb=>M.pure (.func (.func 54) a.toArray b.toArray)) λv35=>
 cN u r 50 [(some v34),(some v35)] λv36=>
 sV 6 v36 t
theorem Aof_:RegEq 23 37 Cw Jn_ Zi:={}
theorem Pm_: ∃k,XK= .code .ret::k:=⟨XK.tail,X⟩
def Ho:Nat:=Ao Try.f54
abbrev Zq_:Nat:=15
def NT_:Code:=Try.f54.body.getD .skip
theorem LV_:envS.fn.get 54=some Try.f54:=X
theorem TW_:G4 envS 54 15 Ho NT_:=λh=>
 aL LV_ (h _ X X X X)
theorem ApK_:Try.f54.results.toList=[]:=X
def Qg:List Item:=skim 64 [.code NT_]
def Oy:=nx Qg
def Wm:=nx Oy
def Du_:RdW:=λE call round tm=>
 LD E 25 (T.get tm 0) λp0=>
 M.bind (apartO (oS (some p0.1) λa=>kNil a)) λp1=>
 FD E 56 1 (some p1.1) λp2=>
 LD E 49 (some p2.1) λp3=>
 LD E 9 (T.get tm 1) λp4=>
 fJ [p4,p3,p2,p1,p0] tm
theorem Adm_:DrawEq 54 15 Ho Qg [0,1,3,7,0,31] Du_:={}
theorem Aha_ (E:Env)(call round:Ag)(x4 x5 x6 x7 x8:Value)(tm:T Value)(s:St):AB call round (AP E Ho 15 (hdC Qg)) [x8,x7,x6,x5,x4] tm s=(M.bind (oS (seqO [(some x7),(some x8)]) λl=>AH E .delete [49,9] l) λ_=>M.pure tm) s:=X
def CC_:RdW:=λE call round tm=>
 LD E 25 (T.get tm 0) λp0=>
 M.bind (apartO (oS (some p0.1) λa=>kNil a)) λp1=>
 FD E 56 1 (some p1.1) λp2=>
 LD E 49 (some p2.1) λp3=>
 LD E 9 (T.get tm 3) λp4=>
 LD E 72 (T.get tm 2) λp5=>
 fJ [p5,p4,p3,p2,p1,p0] tm
theorem AgT_:DrawEq 54 15 Ho Oy [0,1,3,7,0,0,63] CC_:={}
theorem Arr_ (E:Env)(call round:Ag)(x9 x10 x11 x12 x13 x14:Value)(tm:T Value)(s:St):AB call round (AP E Ho 15 (hdC Oy)) [x14,x13,x12,x11,x10,x9] tm s=(M.bind (M.on (some x12) λa=>M.on (some x13) λb=>M.on (some x14) λc=>Eb E 49 a b c) λ_=>M.pure tm) s:=X
def KH:Nat:=Ao Try.f38
def SG_:Code:=Try.f38.body.getD .skip
theorem QN_:envS.fn.get 38=some Try.f38:=X
theorem Amc_:G1 envS 38 9 KH SG_:=λh=>
 aL QN_ (h _ X)
theorem AmU_:Try.f38.results.toList=[.tmp 2]:=X
def NM_:List Item:=skim 64 [.code SG_]
def MG_:=nx NM_
def Xn:=nx MG_
def BR_:=bf Xn
def Yk:=nx BR_
def GE_:Rg:=λE u r t=>
 sV 2 (.int .i64 0) t
theorem Aqo_:RegEq 38 9 KH NM_ GE_:={}
def HQ_:Rg:=λE u r t=>
 mG t 0 λv3=>
 cN u r 45 [(some v3)] λv4=>
 sF 4 v4 t
theorem TL_:RegEq 38 9 KH MG_ HQ_:={}
theorem ArI_:Ad Xn=some 4:=X
def CM_:Rg:=λE u r t=>
 mG t 0 λv5=>
 kN v5 λv6=>
 fD E 56 3 (some v6) λv7=>
 cN u r 60 [(some v7)] λv8=>
 sV 2 v8 t
theorem Ark_:RegEq 38 9 KH BR_ CM_:={}
theorem ZR_: ∃k,Yk= .code .ret::k:=⟨Yk.tail,X⟩
def D6:Nat:=Ao Try.f24
def Ln_:Code:=Try.f24.body.getD .skip
theorem IS:envS.fn.get 24=some Try.f24:=X
theorem Arw_:G2 envS 24 21 D6 Ln_:=λh=>
 aL IS (h _ X X)
theorem Js:Try.f24.results.toList=[.tmp 4]:=X
def Y6:List Item:=skim 64 [.code Ln_]
def WR:=nx Y6
def Sa_:=nx WR
def RE:=nx Sa_
def Yu:=bt RE
def Po:=bf RE
def LJ_:=nx Yu
def NC:=nx Po
def Pq_:=bt NC
def Iq_:=bf NC
def Xi:=nx Pq_
def OL_:=nx Iq_
def HM_:Rg:=λE u r t=>
 M.bind (oS (T.get t 0) λa=>kBox a) λv2=>
 setF 2 v2 t λt1=>
 M.bind (oS (T.get t1 1) λa=>kBox a) λv3=>
 setF 3 v3 t1 λt2=>
 sV 4 (.int .i64 0) t2
theorem AcP_:RegEq 24 21 D6 Y6 HM_:={}
def V1:Rg:=λE u r t=>
 lD E 25 (T.get t 2) λv6=>
 cN u r 48 [(some v6)] λv7=>
 sV 5 v7 t
theorem Alp_:RegEq 24 21 D6 WR V1:={}
def QW:Rg:=λE u r t=>
 mG t 5 λv8=>
 ab E .neq 26 8 (.int .i64 0) (some v8) λv9=>
 sF 9 v9 t
theorem Aei_:RegEq 24 21 D6 Sa_ QW:={}
theorem VW:Ad RE=some 9:=X
def Il_:Rg:=λE u r t=>
 mG t 5 λv10=>
 sV 4 v10 t
theorem AbR_:RegEq 24 21 D6 Yu Il_:={}
def Sb_:RdW:=λE call round tm=>
 LD E 25 (T.get tm 2) λp0=>
 M.bind (apartO (oS (some p0.1) λa=>kNil a)) λp1=>
 FD E 56 1 (some p1.1) λp2=>
 LD E 49 (some p2.1) λp3=>
 LD E 9 (T.get tm 3) λp4=>
 M.bind (apartO (oS (some p3.1) λa=>oS (some p4.1) λb=>B6 E 49 false a b)) λp5=>
 fJ [p5,p4,p3,p2,p1,p0] tm
theorem Vs_:DrawEq 24 21 D6 Po [0,1,3,7,0,31,63] Sb_:={}
theorem Ail_ (E:Env)(call round:Ag)(x11 x12 x13 x14 x15 x16:Value)(tm:T Value)(s:St):AB call round (AP E D6 21 (hdC Po)) [x16,x15,x14,x13,x12,x11] tm s=(M.bind (oS (some x16) λa=>oS (some (.pointer none)) λb=>Cl.get (aBin E .eql 72 (.tmp 16) (.const (.pointer none))) a b) λv17=>setT 17 v17 tm λtm1=>M.pure tm1) s:=X
theorem AfR_: ∃k,LJ_= .code .ret::k:=⟨LJ_.tail,X⟩
theorem RR_:Ad NC=some 17:=X
def HL_:Rg:=λE u r t=>
 sV 4 (.int .i64 6) t
theorem Wm_:RegEq 24 21 D6 Pq_ HL_:={}
def Iz_:Rg:=λE u r t=>
 lD E 25 (T.get t 2) λv18=>
 M.bind (oS (seqO []) λa=>oS (seqO [(T.get t 2),(T.get t 3)]) λb=>M.pure (.func (.func 55) a.toArray b.toArray)) λv19=>
 cN u r 50 [(some v18),(some v19)] λv20=>
 sV 4 v20 t
theorem AmV_:RegEq 24 21 D6 Iq_ Iz_:={}
theorem AnH_: ∃k,Xi= .code .ret::k:=⟨Xi.tail,X⟩
theorem Ko_: ∃k,OL_= .code .ret::k:=⟨OL_.tail,X⟩
def R7:Nat:=Ao Try.f55
def Uv:Code:=Try.f55.body.getD .skip
theorem Zw:envS.fn.get 55=some Try.f55:=X
theorem AdX_:G2 envS 55 7 R7 Uv:=λh=>
 aL Zw (h _ X X)
theorem WI_:Try.f55.results.toList=[]:=X
def Qj:List Item:=skim 64 [.code Uv]
def Anx_:=nx Qj
def AT_:RdW:=λE call round tm=>
 LD E 25 (T.get tm 0) λp0=>
 M.bind (apartO (oS (some p0.1) λa=>kNil a)) λp1=>
 FD E 56 1 (some p1.1) λp2=>
 LD E 49 (some p2.1) λp3=>
 LD E 9 (T.get tm 1) λp4=>
 fJ [p4,p3,p2,p1,p0] tm
theorem Zn_:DrawEq 55 7 R7 Qj [0,1,3,7,0,31] AT_:={}
theorem Abw_ (E:Env)(call round:Ag)(x2 x3 x4 x5 x6:Value)(tm:T Value)(s:St):AB call round (AP E R7 7 (hdC Qj)) [x6,x5,x4,x3,x2] tm s=(M.bind (oS (seqO [(some x5),(some x6)]) λl=>AH E .delete [49,9] l) λ_=>M.pure tm) s:=X
def Sd:Nat:=Ao Try.f60
def QE_:Code:=Try.f60.body.getD .skip
theorem Ec_:envS.fn.get 60=some Try.f60:=X
theorem Wk_:G1 envS 60 7 Sd QE_:=λh=>
 aL Ec_ (h _ X)
theorem Vp_:Try.f60.results.toList=[.tmp 2]:=X
def Cl_:List Item:=skim 64 [.code QE_]
def QG_:=nx Cl_
def Ev_:=nx QG_
def AB_:Rg:=λE u r t=>
 sV 2 (.int .i64 0) t
theorem Ts_:RegEq 60 7 Sd Cl_ AB_:={}
def OW_:Rg:=λE u r t=>
 mG t 0 λv3=>
 kN v3 λv4=>
 fD E 54 2 (some v4) λv5=>
 cN u r 71 [(some v5)] λv6=>
 sV 2 v6 t
theorem XV_:RegEq 60 7 Sd QG_ OW_:={}
theorem AmA_: ∃k,Ev_= .code .ret::k:=⟨Ev_.tail,X⟩
def mvJ (j t i:Nat):Nat:=if i<j then i else if i=j then t else i-1
def recJ (j t:Nat)(col:Nat->Nat):Nat->Nat:=λx=>if col x<2\/1000<=col x then col x else 2+3*mvJ j t ((col x-2)/3)+(col x-2)%3
theorem Jh_ {j t:Nat}{col:Nat->Nat}{x:Nat}(h:1000<=col x):recJ j t col x=col x:=by
 unfold recJ
 rw[if_pos (.inr h)]
theorem MN {j t:Nat}{col:Nat->Nat}{x c:Nat}(h:col x=c)(hc:c<2):recJ j t col x=c:=by
 unfold recJ
 rw[if_pos (.inl J),h]
theorem Na {j t:Nat}{col:Nat->Nat}{x i r:Nat}(h:col x=2+3*i+r)(hr:r<3)(hi:i<300):recJ j t col x=2+3*mvJ j t i+r:=by
 unfold recJ
 have e1:(col x-2)/3=i:=J
 have e2:(col x-2)%3=r:=J
 rw[if_neg J,e1,e2]
theorem FileI.recol {s:St}{col col':Nat->Nat}{c c':Nat}{f:FileS}(h:FileI s col c f)(e0: ∀x,col x=c->col' x=c')(e1: ∀x,col x=c+1->col' x=c'+1)(e2: ∀x,col x=c+2->col' x=c'+2):FileI s col' c' f:=
 ⟨h.o0,h.o1,λx h1 h2=>e0 x (h.k x h1 h2),h.ms,λx hx=>e1 x (h.ks x hx),h.ml,λx hx=>e2 x (h.kl x hx)⟩
def FileS.as (f:FileS)(a:ByteArray)(b:Nat):FileS:={f with name:=a,born:=b}
theorem FileI.as {s:St}{col:Nat->Nat}{c:Nat}{f:FileS}(h:FileI s col c f)(a:ByteArray)(b:Nat):FileI s col c (f.as a b):=⟨h.o0,h.o1,h.k,h.ms,h.ks,h.ml,h.kl⟩
theorem FileI.as_of {s:St}{col:Nat->Nat}{c:Nat}{f g:FileS}(h:FileI s col c f)(e: ∃a b,g=f.as a b):FileI s col c g:=by
 obtain⟨a,b,rfl⟩:=e
 exact h.as a b
theorem FileS.as_self (f:FileS):f.as f.name f.born=f:=rfl
theorem DkI.move {s s':St}{F:Nat->Prop}{col:Nat->Nat}{D M j t:Nat}{k:DkS}{fs':List FileS}{mx':Nat}(h:DkI s col D M k)(hlen:k.fs.length<=300)(x:Ext F (λy=>y=M) s s')(hM:Obj s' M (.map (fs'.map FileS.ent) mx'))(hb:AT (fs'.map FileS.ent) 0 mx'=true)
  (hf: ∀i' (hi':i'<fs'.length),∃i,∃hi:i<k.fs.length,mvJ j t i=i'/\ ∃a b,fs'[i']=k.fs[i].as a b):DkI s' (recJ j t col) D M {k with fs:=fs',mx:=mx'}:=by
 have c: ∀o,o<7-> ¬D+o=M:=λo ho e=>by
  have h2:=h.kd (D+o) J J
  have h3:=h.km
  rw[e,h3]at h2
  omega
 refine⟨h.d0.ext x (c 0 al),h.d1.ext x (c 1 al),h.d2.ext x (c 2 al),h.d3.ext x (c 3 al),h.d4.ext x (c 4 al),h.d5.ext x (c 5 al),h.d6.ext x (c 6 al),λy h1 h2=>MN (h.kd y h1 h2) al,hM,MN h.km al,hb,λi' hi'=> ?_⟩
 obtain⟨i,hi,e,he⟩:=hf i' hi'
 have g:FileI s col (2+3*i) k.fs[i]:=h.fl i hi
 have g':=(g.recol (col':=recJ j t col) (c':=2+3*i') (λx hx=>by rw[Na (i:=i) (r:=0) J al J,e];rfl) (λx hx=>by rw[Na (i:=i) (r:=1) J al J,e]) λx hx=>by rw[Na (i:=i) (r:=2) J al J,e]).as_of he
 refine g'.ext x λy hy q=> ?_
 have h3:recJ j t col M=1:=MN h.km al
 rw[q,h3]
 omega
theorem XO_: ∀{es:List MapEntry} {lo lo' n:Nat},AT es lo n=true->lo'<=lo->AT es lo' n=true
 |[],_,_,_,_,_=>rfl
 |x::es,lo,lo',n,h,hl=>by
  unfold AT at h ⊢
  rw[Bool.and_eq_true,Bool.and_eq_true]at h ⊢
  refine⟨⟨?_,h.1.2⟩,h.2⟩
  have:lo<=x.born:=Nat.le_of_ble_eq_true h.1.1
  exact Nat.ble_eq_true_of_le J
theorem RD: ∀{es:List MapEntry} {lo n:Nat} (j:Nat),AT es lo n=true->AT (es.eraseIdx j) lo n=true
 |[],_,_,_,_=>rfl
 |x::es,lo,n,0,h=>by
  unfold AT at h
  rw[Bool.and_eq_true,Bool.and_eq_true]at h
  have:lo<=x.born:=Nat.le_of_ble_eq_true h.1.1
  exact XO_ h.2 J
 |x::es,lo,n,j+1,h=>by
  unfold AT at h
  rw[Bool.and_eq_true]at h
  show(Nat.ble lo x.born&&Nat.blt x.born n&&AT (es.eraseIdx j) (x.born+1) n)=true
  rw[h.1,RD j h.2]
  rfl
theorem NU {k:DkS}{j t i':Nat}(hj:j<k.fs.length)(hi':i'<(k.fs.eraseIdx j).length): ∃i,∃hi:i<k.fs.length,mvJ j t i=i'/\(k.fs.eraseIdx j)[i']=k.fs[i]:=by
 have hl:(k.fs.eraseIdx j).length=k.fs.length-1:=List.length_eraseIdx_of_lt hj
 by_cases c:i'<j
 ·refine⟨i',J,by unfold mvJ;rw[if_pos c], ?_⟩
  rw[List.getElem_eraseIdx,dif_pos c]
 ·refine⟨i'+1,J,by unfold mvJ;rw[if_neg J,if_neg J];rfl, ?_⟩
  rw[List.getElem_eraseIdx,dif_neg c]
structure Aft (s s1:St)(col col':Nat->Nat)(D M:Nat)(k:DkS):Prop where
 inv:DkI s1 col' D M k
 agree: ∀x,x<s.next->1000<=col x->col' x=col x
 ext:Ext Any (λx=>col x<1000) s s1
theorem After.aft {s s1:St}{col col':Nat->Nat}{D M:Nat}{k:DkS}(h:After s s1 col col' D M k):Aft s s1 col col' D M k:=⟨h.inv,λx hx _=>h.agree x hx,h.ext⟩
theorem Ahg_:Anx_=[]:=X
section
variable {n D M C j:Nat}{s:St}{k:DkS}{col:Nat->Nat}{a:ByteArray}{Q:Value->St->Prop}
theorem OP_ {E:Env}{t1 t2:Nat}{m k:Value}{s:St}(Q:Value->St->Prop):W (AH E .delete [t1,t2] [m,k]) s Q=W (kDel E t1 m k) s Q:=rfl
theorem Zu_ (hb:s.lim<=s.next)(hI:DkI s col D M k)(hlen:k.fs.length<=300)(hf:An k.fs a=some j)(hC:Own s C 0 (.pointer (some ⟨D,0,none⟩)))(hC2:Own s (C+2) 0 (.string a))(hn:20<=n)
  (q: ∀s1,DkI s1 (recJ j 0 col) D M {k with fs:=k.fs.eraseIdx j}->Ext Any (λx=>col x<1000) s s1->s1.next=s.next->Q (.tuple #[]) s1):
  W (Ac envS (runF envS n) 55 [.pointer (some ⟨C,0,none⟩), .pointer (some ⟨C+2,0,none⟩)]) s Q:=by
 have hb0:(s.cxN cxN).lim<=(s.cxN cxN).next:=hb
 have hI0:DkI (s.cxN cxN) col D M k:=hI.same rfl rfl
 have hC0:Own (s.cxN cxN) C 0 (.pointer (some ⟨D,0,none⟩)):=hC.same rfl rfl
 have hC20:Own (s.cxN cxN) (C+2) 0 (.string a):=hC2.same rfl rfl
 have hn0:(s.cxN cxN).next=s.next:=rfl
 have hcx:(s.cxN cxN).cx=cxN:=rfl
 refine AdX_ λtm t0 t1=> ?_
 refine Zn_.u ?_
 generalize hs0:s.cxN cxN=s0 at *
 simp only[AT_,RR,t0,t1,Aa]
 refine aD Ci ((hC0.same (s':=dSt s0.mem s0.next) rfl rfl).at') λrd0 hr0=> ?_
 try simp only[Aa]
 rw[W_dq λs Q=>AD (s:=s) _ Q]
 dsimp only
 try simp only[Aa]
 rw[W_dq λs Q=>Ab (s:=s) B4 al Q]
 dsimp only
 try simp only[Aa]
 refine aD B7 ((hI0.d1.same (s':=dSt s0.mem s0.next) rfl rfl).at') λrd3 hr3=> ?_
 refine aD AQ ((hC20.same (s':=dSt s0.mem s0.next) rfl rfl).at') λrd4 hr4=> ?_
 rw[AI]
 refine⟨BZ am am, ?_⟩
 refine aK (Abw_ _ _ _ _ _ _ _ _ _ _) ?_
 simp only[SS,OP_]
 generalize hs':(⟨(dSt s0.mem s0.next).mem,(dSt s0.mem s0.next).next,s0.lim,_,_,s0.cx⟩:St)=s1
 have m1:s1.mem=s0.mem:=by rw[<-hs'];rfl
 have n1:s1.next=s0.next:=by rw[<-hs'];rfl
 have x1:Ext Any Non s0 s1:=by
  rw[<-hs']
  exact Ext.draw (F:=Any) (Nat.le_refl _) (λ_ _=>rfl) am λ_ _ _ _ _=>trivial
 have hI1:=hI0.same m1 n1
 refine W.delS (j:=j) (a:=a) FK Fw (FC k.fs) hf hI1.om λs2 n2 x2 o2=> ?_
 have hj:=Dh hf
 have hI2:=hI1.move (j:=j) (t:=0) (fs':=k.fs.eraseIdx j) (mx':=k.mx) hlen x2 (by rw[Eu];exact o2) (by rw[Eu];exact RD j hI1.bo) λi' hi'=>by
  obtain⟨i,hi,h1,h2⟩:=NU (t:=0) hj hi'
  exact⟨i,hi,h1,_,_,h2.trans (FileS.as_self _).symm⟩
 have y2:Ext Any (λx=>col x<1000) s0 s2:=(x1.gw (hs0 ▸ hb0) λ_ _ h=>h.elim).on x2 (hs0 ▸ hb0) λy _ h=>by rw[h,hI0.km];decide
 refine aB (rs:=[]) (vs:=[]) rfl (.inr Ahg_) J Zw WI_ (y2.cx.trans hcx) rfl ?_
 rw[<-hs0]at y2
 exact q _ (hI2.same rfl rfl) y2.cx' (by show s2.next=s.next;omega)
theorem AgX_ (hb:s.lim<=s.next)(hI:DkI s col D M k)(hlen:k.fs.length<=290)(hn:200<=n)
  (q1:k.out=true-> ∀s1 col',Aft s s1 col col' D M k->Q (.int .i64 10) s1)
  (q2:k.out=false->An k.fs a=none-> ∀s1 col',Aft s s1 col col' D M k->Q (.int .i64 6) s1)
  (q3:k.out=false-> ∀j,An k.fs a=some j->(k.fused=true/\k.left=0)-> ∀s1 col',Aft s s1 col col' D M {k with out:=true}->Q (.int .i64 10) s1)
  (q4:k.out=false-> ∀j,An k.fs a=some j-> ¬(k.fused=true/\k.left=0)-> ∀s1 col',Aft s s1 col col' D M {k with fs:=k.fs.eraseIdx j,steps:=wrap64 (k.steps+1),left:=if k.fused then wrap64 (k.left-1)else k.left}->Q (.int .i64 0) s1):
  W (Ac envS (runF envS n) 24 [.pointer (some ⟨D,0,none⟩), .string a]) s Q:=by
 have hb0:(s.cxN cxN).lim<=(s.cxN cxN).next:=hb
 have hlen':k.fs.length<=300:=J
 have hI0:DkI (s.cxN cxN) (paint col s.next 1000) D M k:=(hI.col λx hx=>AX hx).same rfl rfl
 have hag: ∀x,x<s.next->paint col s.next 1000 x=col x:=λx hx=>AX hx
 have hnew: ∀x,s.next<=x->paint col s.next 1000 x=1000:=λx hx=>C2 hx
 have hDlt:D+6<s.next:=hI.d6.1
 generalize hcol1:paint col s.next 1000=col1 at *
 refine Arw_ λtm t0 t1=> ?_
 refine AcP_.u ?_
 simp only[HM_,RR,SS,Nat.reduceEqDiff, ↓reduceIte,t0]
 refine W.box λsa na xa oa=> ?_
 have ea:(s.cxN cxN).next=s.next:=rfl
 rw[CK (show oneCell (.pointer (some ⟨D,0,none⟩))=true from rfl)]at na oa
 rw[ea]at oa na ⊢
 have na':sa.next=s.next+2:=na
 simp only[SS,t1]
 refine W.box λsb nb xb ob=> ?_
 rw[CK (show oneCell (.string a)=true from rfl)]at nb ob
 rw[na']at ob nb ⊢
 have nb':sb.next=s.next+4:=nb
 have yc:=((Ext.refl (F:=Any) (G:=Non) (s.cxN cxN)).on xa hb0 λ_ _ h=>h).on xb hb0 λ_ _ h=>h
 have c0:Own sb s.next 0 (.pointer (some ⟨D,0,none⟩)):=(oa 0 _ rfl).ext0 xb
 have c2:Own sb (s.next+2) 0 (.string a):=ob 0 _ rfl
 have hIc:=hI0.ext0 yc hlen'
 refine Alp_.u ?_
 simp only[V1,RR,SS,Nat.reduceEqDiff, ↓reduceIte]
 refine aA Ci c0.at' ?_
 have yd:=yc.thenRd hb0 (s.next+0)
 refine I2 (o:=k.out) (yd.bnd hb0) (hIc.d0.same rfl rfl) (hIc.d6.same rfl rfl) J λs1 m1 n1 x1=> ?_
 have y1:=yd.on x1 hb0 λ_ _ h=>h
 have m1':s1.mem=sb.mem:=m1
 have n1'':s1.next=sb.next:=n1
 have n1':s1.next=s.next+4:=J
 have hI1:=hIc.same m1' n1''
 have d0:=c0.same m1' n1''
 have d2:=c2.same m1' n1''
 refine Aei_.u ?_
 cases ho:k.out with
 |true=>
  simp only[QW,RR,SS, ↓reduceIte,Cr]
  refine aJ VW ?_
  refine AbR_.u ?_
  simp only[Il_,RR,SS,Nat.reduceEqDiff, ↓reduceIte]
  refine aB (rs:=[4]) (vs:=[.int .i64 10]) rfl (.inl AfR_) J IS Js y1.cx Y ?_
  exact q1 ho _ col1 ⟨hI1.same rfl rfl,λx hx _=>hag x hx,(y1.gw hb0 λ_ _ h=>h.elim).cx'⟩
 |false=>
 simp only[QW,RR,SS, ↓reduceIte,Cr,Bool.false_eq_true,decide_true,Bool.not_true]
 refine aG VW ?_
 refine Vs_.u ?_
 simp only[Sb_,RR,T.get_set,Nat.reduceEqDiff,reduceIte,Aa]
 refine aD Ci ((d0.same (s':=dSt s1.mem s1.next) rfl rfl).at') λrd0 hr0=> ?_
 try simp only[Aa]
 rw[W_dq λs Q=>AD (s:=s) _ Q]
 dsimp only
 try simp only[Aa]
 rw[W_dq λs Q=>Ab (s:=s) B4 al Q]
 dsimp only
 try simp only[Aa]
 refine aD B7 ((hI1.d1.same (s':=dSt s1.mem s1.next) rfl rfl).at') λrd3 hr3=> ?_
 refine aD AQ ((d2.same (s':=dSt s1.mem s1.next) rfl rfl).at') λrd4 hr4=> ?_
 try simp only[Aa]
 refine aO (DE (s:=oSt s1.mem s1.next) (fs:=k.fs) (mx:=k.mx) (hI1.om.same rfl rfl) ⟨Any,Ext.rdN (F:=Any) (G:=Non) _ M λ_=>trivial,λrd5 hr5=> ?_⟩)
 show W _ (dSt s1.mem s1.next) _
 rw[AI]
 refine⟨BZ am (by simp;rfl), ?_⟩
 refine aK (Ail_ _ _ _ _ _ _ _ _ _ _ _) ?_
 generalize hs':(⟨(dSt s1.mem s1.next).mem,(dSt s1.mem s1.next).next,s1.lim,_,_,s1.cx⟩:St)=s3
 have m3:s3.mem=s1.mem:=by rw[<-hs'];rfl
 have n3:s3.next=s1.next:=by rw[<-hs'];rfl
 have x3:Ext Any Non s1 s3:=by
  rw[<-hs']
  exact Ext.draw (F:=Any) (Nat.le_refl _) (λ_ _=>rfl) am λ_ _ _ _ _=>trivial
 have y3:=y1.on x3 hb0 λ_ _ h=>h
 have hI3:=hI1.same m3 n3
 have e0:=d0.same m3 n3
 have e2:=d2.same m3 n3
 cases hf:An k.fs a with
 |none=>
  have hv:AG k.fs a= .pointer none:=by unfold AG;rw[hf]
  rw[hv]
  simp only[SS,Fb]
  refine aJ RR_ ?_
  refine Wm_.u ?_
  simp only[HL_,RR,SS]
  refine aB (rs:=[4]) (vs:=[.int .i64 6]) rfl (.inl AnH_) J IS Js y3.cx Y ?_
  exact q2 ho hf _ col1 ⟨hI3.same rfl rfl,λx hx _=>hag x hx,(y3.gw hb0 λ_ _ h=>h.elim).cx'⟩
 |some j=>
 have hlt:=Dh hf
 have hv:AG k.fs a= .pointer (some ⟨k.fs[j].blk,0,none⟩):=by
  unfold AG
  rw[hf]
  simp only[List.getElem?_eq_getElem hlt]
 rw[hv]
 simp only[SS,C5 ED]
 refine aG RR_ ?_
 refine AmV_.u ?_
 simp only[Iz_,RR,SS,Nat.reduceEqDiff, ↓reduceIte]
 refine aA Ci e0.at' ?_
 have y8:=y3.thenRd hb0 (s.next+0)
 have hI8:DkI (s3.rdN (s.next+0)) col1 D M k:=hI3.same rfl rfl
 have u0:Own (s3.rdN (s.next+0)) s.next 0 (.pointer (some ⟨D,0,none⟩)):=e0.same rfl rfl
 have u2:Own (s3.rdN (s.next+0)) (s.next+2) 0 (.string a):=e2.same rfl rfl
 have n8:(s3.rdN (s.next+0)).next=s.next+4:=n3.trans n1'
 generalize s3.rdN (s.next+0)=s8 at *
 have hD0:=hI8.kd
 refine KQ (f2:=55) (y8.bnd hb0) hI8.d3 hI8.d4 hI8.d5 hI8.d6 J (λhfu s9 n9 x9 o9=> ?_) λhnf n9 s9 hn9 hcx9 hnx9 x9 o93 o95=> ?_
 ·have hI9:=hI8.own (st:=k.steps) (fu:=k.fused) (le:=k.left) (ou:=true) x9 (λy _ h=>J) (hI8.d3.ext x9 λh=>J) (hI8.d4.ext x9 λh=>J) (hI8.d5.ext x9 λh=>J) o9
  have y9:Ext Any (λx=>col1 x<1000) (s.cxN cxN) s9:=(y8.gw hb0 λ_ _ h=>h.elim).on x9 hb0 λy _ h=>by rw[hD0 y J J];decide
  refine aB (rs:=[4]) (vs:=[.int .i64 10]) rfl (.inl Ko_) J IS Js y9.cx Y ?_
  exact q3 ho j hf hfu _ col1 ⟨hI9.same rfl rfl,λx hx _=>hag x hx,(y9.gw hb0 λy hy h=>by rw[<-hag y hy];exact h).cx'⟩
 have hd:Ext Any (λy=>y=D+3\/y=D+5) s8 (s9.cxN s8.cx):=x9
 have hI9':=hI8.own (st:=wrap64 (k.steps+1)) (fu:=k.fused) (le:=if k.fused then wrap64 (k.left-1)else k.left) (ou:=k.out) hd (λy _ h=>J) (o93.same rfl rfl) (hI8.d4.ext hd λh=>J) (o95.same rfl rfl) (hI8.d6.ext hd λh=>J)
 have hI9:=hI9'.same (s':=s9) rfl rfl
 have v0:=(u0.ext hd λh=>J).same (s':=s9) rfl rfl
 have v2:=(u2.ext hd λh=>J).same (s':=s9) rfl rfl
 have y9:Ext Any (λx=>col1 x<1000) (s.cxN cxN) (s9.cxN s8.cx):=(y8.gw hb0 λ_ _ h=>h.elim).on hd hb0 λy _ h=>by rw[hD0 y J J];decide
 have y9':Ext Any (λx=>col1 x<1000) (s.cxN cxN) s9:=⟨y9.nxt,y9.lim,hcx9,y9.mem,y9.rd,y9.wr⟩
 show W (Ac envS (runF envS n9) 55 [.pointer (some ⟨s.next,0,none⟩), .pointer (some ⟨s.next+2,0,none⟩)]) s9 _
 refine Zu_ (C:=s.next) (y9'.bnd hb0) hI9 J hf v0 v2 J λs10 hI10 x10 n10=> ?_
 refine⟨x10.cx.trans hcx9, ?_⟩
 have y10:=y9'.on x10 hb0 λy hy h=>h
 have e8:s8.cx=cxN:=y8.cx
 rw[e8]
 refine aB (rs:=[4]) (vs:=[.int .i64 0]) rfl (.inl Ko_) J IS Js rfl Y ?_
 exact q4 ho j hf hnf _ (recJ j 0 col1) ⟨hI10.same rfl rfl,λx hx hc=>by rw[Jh_ (by rw[hag x hx];exact hc),hag x hx],(y10.gw hb0 λy hy h=>by rw[<-hag y hy];exact h).cx'⟩
end
theorem Kf_ (a b:Int){E:Env}{s:St}{xo yo:Operand}{t:Nat}(Q:Value->St->Prop):W (Cl.get (aBin E .sub t xo yo) (.int .i64 a) (.int .i64 b)) s Q=Q (.int .i64 (wrap64 (a-b))) s:=As (Ph_ _ a b)
section
variable {B n:Nat}{s:St}{Q:Value->St->Prop}
theorem Vq_ {sv lv:Value}{m1 m2 b1 b2:Nat}{l1 l2:List Value}(hb:s.lim<=s.next)(f0:Own s B 0 sv)(f1:Own s B 1 lv)(hs:MkS s 1 m1 l1 sv b1)(hl:MkS s 1 m2 l2 lv b2)(hz:m1+m2<=5000000)(hn:20<=n)(q: ∀s1,Ext Any Non s s1->s1.mem=s.mem->s1.next=s.next->Q (.int .i64 (m1+m2:Nat)) s1):W (Ac envS (runF envS n) 52 [.pointer (some ⟨B,0,none⟩)]) s Q:=by
 have hb0:(s.cxN cxN).lim<=(s.cxN cxN).next:=hb
 have f0':Own (s.cxN cxN) B 0 sv:=f0.same rfl rfl
 have f1':Own (s.cxN cxN) B 1 lv:=f1.same rfl rfl
 have hm0:(s.cxN cxN).mem=s.mem:=rfl
 have hn0:(s.cxN cxN).next=s.next:=rfl
 refine Vd_ λtm t0=> ?_
 refine Yx_.u ?_
 simp only[MZ_,RR,SS]
 refine Ais_.u ?_
 generalize hs0:s.cxN cxN=s0 at *
 simp only[PZ_,RR,T.get_set,Nat.reduceEqDiff,reduceIte,t0,Aa,Aj]
 rw[W_dq λs Q=>AD (s:=s) _ Q]
 dsimp only
 try simp only[Aa]
 rw[W_dq λs Q=>Ab (s:=s) F9 al Q]
 dsimp only
 try simp only[Aa]
 refine aD A2 ((f0'.same (s':=dSt s0.mem s0.next) rfl rfl).at') λrd3 hr3=> ?_
 try simp only[Aa,A0,A3,AW]
 rw[W_dq λs Q=>MkS.lenq (s':=s) hs BH Q]
 dsimp only
 try simp only[Aj]
 rw[W_dq λs Q=>AD (s:=s) _ Q]
 dsimp only
 try simp only[Aa]
 rw[W_dq λs Q=>Ab (s:=s) CS al Q]
 dsimp only
 try simp only[Aa]
 refine aD A2 ((f1'.same (s':=dSt s0.mem s0.next) rfl rfl).at') λrd8 hr8=> ?_
 try simp only[Aa]
 rw[W_dq λs Q=>MkS.lenq (s':=s) hl BH Q]
 dsimp only
 try simp only[Aa]
 rw[W_dq λs Q=>Hr (s:=s) _ _ Q,AI]
 have e:wrap64 (((m1:Nat):Int)+((m2:Nat):Int))=((m1+m2:Nat):Int):=by
  rw[Bh J J];omega
 rw[e]
 refine⟨BZ am am, ?_⟩
 refine aK (Ajv_ _ _ _ _ _ _ _ _ _ _ _ _ _ _ _ _) ?_
 simp only[SS]
 generalize hs':(⟨(dSt s0.mem s0.next).mem,(dSt s0.mem s0.next).next,s0.lim,_,_,s0.cx⟩:St)=s7
 have x7:Ext Any Non s0 s7:=by
  rw[<-hs']
  exact Ext.draw (F:=Any) (Nat.le_refl _) (λ_ _=>rfl) am λ_ _ _ _ _=>trivial
 have m7:s7.mem=s0.mem:=by rw[<-hs'];rfl
 have n7:s7.next=s0.next:=by rw[<-hs'];rfl
 rw[<-hs0]at x7
 refine aB (rs:=[2]) (vs:=[.int .i64 (m1+m2:Nat)]) rfl (.inl AfD_) J XQ AcD_ x7.cx Y ?_
 exact q _ x7.cx' (m7.trans hm0) (n7.trans hn0)
end
theorem FileI.flip {G:Nat->Prop}{s s':St}{col:Nat->Nat}{c k x:Nat}{f:FileS}(h:FileI s col c f)(hk:k<f.sb.length)(hn:s'.next=s.next)(e:Ext G (In f.sbk k 1) s s')(ho:Own s' f.sbk k (.int .u8 (x:Nat))):FileI s' col c {f with sb:=f.sb.set k x}:=by
 have hin: ∀y,In f.sbk k 1 y->MkF 1 f.sb.length f.sbk y:=λy hy=>⟨J,by have:=hy.1;omega,by have:=hy.2;omega⟩
 have b0:=h.o0.1
 have b1:=h.o1.1
 refine⟨h.o0.ext e λg=> ?_,h.o1.ext e λg=> ?_,h.k,h.ms.put hk hn e ho,λy hy=>h.ks y (by rw[List.length_set]at hy;exact hy),h.ml.ext e λy hy g=> ?_,h.kl⟩
 ·have h1:=h.ks _ (hin _ g)
  have h2:=h.k (f.blk+0) J J
  omega
 ·have h1:=h.ks _ (hin _ g)
  have h2:=h.k (f.blk+1) J J
  omega
 ·have h1:=h.ks _ (hin _ g)
  have h2:=h.kl y hy
  omega
theorem FileI.flipL {G:Nat->Prop}{s s':St}{col:Nat->Nat}{c k x:Nat}{f:FileS}(h:FileI s col c f)(hk:k<f.lb.length)(hn:s'.next=s.next)(e:Ext G (In f.lbk k 1) s s')(ho:Own s' f.lbk k (.int .u8 (x:Nat))):FileI s' col c {f with lb:=f.lb.set k x}:=by
 have hin: ∀y,In f.lbk k 1 y->MkF 1 f.lb.length f.lbk y:=λy hy=>⟨J,by have:=hy.1;omega,by have:=hy.2;omega⟩
 have b0:=h.o0.1
 have b1:=h.o1.1
 refine⟨h.o0.ext e λg=> ?_,h.o1.ext e λg=> ?_,h.k,h.ms.ext e λy hy g=> ?_,h.ks,h.ml.put hk hn e ho,λy hy=>h.kl y (by rw[List.length_set]at hy;exact hy)⟩
 ·have h1:=h.kl _ (hin _ g)
  have h2:=h.k (f.blk+0) J J
  omega
 ·have h1:=h.kl _ (hin _ g)
  have h2:=h.k (f.blk+1) J J
  omega
 ·have h1:=h.kl _ (hin _ g)
  have h2:=h.ks y hy
  omega
theorem DL_ {n bk x m:Nat}{l:List Nat}{v:Value}{s4:St}{tm:T Value}{td:List Item}{Q:Value×FrameMode->St->Prop}(hb4:s4.lim<=s4.next)(hm:MkS s4 1 l.length (u8l l) v bk)(hin:x<l.length)(hby:Byt l)(t2:T.get tm 2=some (.int .i64 (m:Nat)))(t8:T.get tm 8=some (.int .i64 (x:Nat)))(t9:T.get tm 9=some v)(hT:skim 64 td=H2)(hn:10<=n)(hcx:s4.cx=cxN)
  (q: ∀s6,s6.next=s4.next->Ext Any (In bk x 1) s4 s6->Own s6 bk x (.int .u8 (l.getD x 0^^^2^(m%8):Nat))->Q (.int .i64 0, .run) s6):
  W (runF envS n ⟨27,AnT_,Cf,tm,td, .run, .normal,none⟩) s4 Q:=by
 refine Tn_.u ?_ hT
 obtain⟨c,ev,ob⟩:=hm.get hin
 have hbv:l.getD (x) 0<256:=by
  rw[List.getD_eq_getElem?_getD,List.getElem?_eq_getElem hin]
  exact hby _ (List.getElem_mem hin)
 have hpw:2^(m%8)<2^8:=Nat.pow_lt_pow_right al (Nat.mod_lt _ al)
 have hx8:l.getD (x) 0^^^2^(m%8)<256:=Nat.xor_lt_two_pow (n:=8) hbv hpw
 simp only[Fm_,RR,t2,t8,t9,Aa,Aj,ev]
 rw[W_dq λs Q=>AA (s:=s) BH hin Q]
 dsimp only
 try simp only[Aa]
 refine aD H1 (((show Own s4 bk (0+x*1) _ by rw[Nat.mul_one,Nat.zero_add];exact ob).same (s':=dSt s4.mem s4.next) rfl rfl).at') λrd3 hr3=> ?_
 try simp only[Aj]
 rw[W_dq λs Q=>UD (s:=s) (m:=m) Q]
 dsimp only
 try simp only[Aa]
 rw[W_dq λs Q=>Fv_ (s:=s) (k:=m%8) (Nat.mod_lt _ al) Q]
 dsimp only
 try simp only[Aa]
 rw[W_dq λs Q=>NR_ (s:=s) hx8 Q]
 dsimp only
 try simp only[Aa]
 rw[W_dq λs Q=>AA (s:=s) BH hin Q,AI]
 refine⟨BZ am am, ?_⟩
 refine aK (Ahb_ _ _ _ _ _ _ _ _ _ _ _ _ _ _) ?_
 simp only[SS]
 generalize hs':(⟨(dSt s4.mem s4.next).mem,(dSt s4.mem s4.next).next,s4.lim,_,_,s4.cx⟩:St)=s5
 have m5:s5.mem=s4.mem:=by rw[<-hs'];rfl
 have n5:s5.next=s4.next:=by rw[<-hs'];rfl
 have x5:Ext Any Non s4 s5:=by
  rw[<-hs']
  exact Ext.draw (F:=Any) (Nat.le_refl _) (λ_ _=>rfl) am λ_ _ _ _ _=>trivial
 have ob5:Own s5 bk (0+x*1) (.int .u8 (l.getD (x) 0:Nat)):=by rw[Nat.mul_one,Nat.zero_add];exact ob.same m5 n5
 refine aI H1 rfl ob5 λs6 n6 x6 o6=> ?_
 rw[Nat.mul_one,Nat.zero_add]at x6 o6
 refine Aas_.u ?_
 simp only[Z7,RR,SS]
 have y6:Ext Any (In bk x 1) s4 s6:=(x5.gw hb4 λ_ _ h=>h.elim).on x6 hb4 λ_ _ h=>h
 refine aB (rs:=[6]) (vs:=[.int .i64 0]) rfl (.inl Alu_) J I8 LP (y6.cx.trans hcx) Y ?_
 exact q s6 (n6.trans n5) y6 o6
section
variable {n D M:Nat}{s:St}{k:DkS}{col:Nat->Nat}{a:ByteArray}{bit:Int}{Q:Value->St->Prop}
theorem AiM_ (hb:s.lim<=s.next)(hI:DkI s col D M k)(hlen:k.fs.length<=300)(hz:k.used<=1000000)(hn:400<=n)(hbit:bit<=9223372036854775807)(hby: ∀f∈k.fs,Byt f.sb/\Byt f.lb)
  (q1:An k.fs a=none-> ∀s1,Ext Any Non s s1->Q (.int .i64 6) s1)
  (q2: ∀j (hj:j<k.fs.length),An k.fs a=some j->bit<0\/(∃m:Nat,bit=(m:Nat)/\k.fs[j].sb.length+k.fs[j].lb.length<=m/8)-> ∀s1,Ext Any Non s s1->Q (.int .i64 5) s1)
  (q3: ∀j (hj:j<k.fs.length) (m:Nat),An k.fs a=some j->bit=(m:Nat)->m/8<k.fs[j].sb.length-> ∀s1,DkI s1 col D M {k with fs:=k.fs.set j {k.fs[j]with sb:=k.fs[j].sb.set (m/8) (k.fs[j].sb.getD (m/8) 0^^^2^(m%8))}}->Ext Any (λx=>col x<1000) s s1->Q (.int .i64 0) s1)
  (q4: ∀j (hj:j<k.fs.length) (m i:Nat),An k.fs a=some j->bit=(m:Nat)->m/8=k.fs[j].sb.length+i->i<k.fs[j].lb.length-> ∀s1,DkI s1 col D M {k with fs:=k.fs.set j {k.fs[j]with lb:=k.fs[j].lb.set i (k.fs[j].lb.getD i 0^^^2^(m%8))}}->Ext Any (λx=>col x<1000) s s1->Q (.int .i64 0) s1):
  W (Ac envS (runF envS n) 27 [.pointer (some ⟨D,0,none⟩), .string a, .int .i64 bit]) s Q:=by
 have hb0:(s.cxN cxN).lim<=(s.cxN cxN).next:=hb
 have hI0:DkI (s.cxN cxN) col D M k:=hI.same rfl rfl
 refine WY_ λtm t0 t1 t2=> ?_
 refine AkD_.u ?_
 simp only[ER_,RR,SS]
 refine Are_.u ?_
 simp only[Nn_,RR,SS,reduceCtorEq, ↓reduceIte,t0]
 refine CR hb0 (hI0.d0.same rfl rfl) J λs1 m1 n1 x1=> ?_
 have y1:=x1
 have n1':s1.next=s.next:=n1
 have hI1:DkI s1 col D M k:=hI0.same m1 n1
 refine aG Apu_ ?_
 refine Anj_.u ?_
 simp only[Qr_,RR,SS,Nat.reduceEqDiff,reduceCtorEq, ↓reduceIte,t0,t1,Ab B4 al]
 refine aA B7 hI1.d1.at' ?_
 refine DE (fs:=k.fs) (mx:=k.mx) (hI1.om.same rfl rfl) ?_
 have y2:=(y1.thenRd hb0 (D+(0+1))).thenRd hb0 M
 have hI2:DkI ((s1.rdN (D+(0+1))).rdN M) col D M k:=hI1.same rfl rfl
 have n2:((s1.rdN (D+(0+1))).rdN M).next=s.next:=n1'
 generalize (s1.rdN (D+(0+1))).rdN M=s2 at *
 refine AbT_.u ?_
 cases hj:An k.fs a with
 |none=>
  have hv:AG k.fs a= .pointer none:=by unfold AG;rw[hj]
  rw[hv]
  simp only[PH,RR,SS, ↓reduceIte,Fb]
  refine aJ QX_ ?_
  refine AjZ_.u ?_
  simp only[Mw_,RR,SS]
  refine aB (rs:=[6]) (vs:=[.int .i64 6]) rfl (.inl NO) J I8 LP y2.cx Y ?_
  exact q1 hj _ y2.cx'
 |some j=>
  have hlt:=Dh hj
  have hv:AG k.fs a= .pointer (some ⟨k.fs[j].blk,0,none⟩):=by
   unfold AG
   rw[hj]
   simp only[List.getElem?_eq_getElem hlt]
  rw[hv]
  simp only[PH,RR,SS, ↓reduceIte,C5 ED]
  refine aG QX_ ?_
  have g:=hI2.fl j hlt
  have hused:=aV hlt
  refine WU_.u ?_
  by_cases hneg:bit<0
  ·have e1:decide (bit<0)=true:=decide_eq_true hneg
   simp only[Md,RR,SS,Nat.reduceEqDiff, ↓reduceIte,Ap,t2,e1]
   refine aJ Pf ?_
   refine IH_.u ?_
   simp only[ML,RR,SS]
   refine aB (rs:=[6]) (vs:=[.int .i64 5]) Vk (.inl NO) J I8 LP y2.cx Y ?_
   exact q2 j hlt hj (.inl hneg) _ y2.cx'
  ·obtain⟨m,rfl⟩: ∃m:Nat,bit=(m:Nat):=⟨bit.toNat,J⟩
   have e1:decide (((m:Nat):Int)<0)=false:=decide_eq_false hneg
   simp only[Md,RR,SS,Nat.reduceEqDiff,reduceCtorEq, ↓reduceIte,Ap,t2,e1,JP (m:=m) J]
   refine Vq_ (y2.bnd hb0) g.o0 g.o1 g.ms g.ml J J λs3 x3 m3 n3=> ?_
   have y3:=y2.on x3 hb0 λ_ _ h=>h
   have hI3:DkI s3 col D M k:=hI2.same m3 n3
   simp only[B9]
   rcases Nat.lt_or_ge (m/8) (k.fs[j].sb.length+k.fs[j].lb.length)with hin0|hout
   ·have e2:decide (((k.fs[j].sb.length+k.fs[j].lb.length:Nat):Int)<=((m/8:Nat):Int))=false:=decide_eq_false J
    simp only[e2]
    refine aG Pf ?_
    refine AfS_.u ?_
    have g3:=hI3.fl j hlt
    simp only[NS_,RR,T.get_set,Nat.reduceEqDiff,reduceIte,t2,Aa,Aj]
    rw[W_dq λs Q=>JP (s:=s) (m:=m) J Q]
    dsimp only
    try simp only[Aj]
    rw[W_dq λs Q=>AD (s:=s) _ Q]
    dsimp only
    try simp only[Aa]
    rw[W_dq λs Q=>Ab (s:=s) F9 al Q]
    dsimp only
    try simp only[Aa]
    refine aD A2 ((g3.o0.same (s':=dSt s3.mem s3.next) rfl rfl).at') λrd5 hr5=> ?_
    try simp only[Aa]
    refine Eq.mpr (Aj _ _ _ _ _) ?_
    dsimp only
    try simp only[E8]
    rw[AI]
    refine⟨BZ am am, ?_⟩
    refine aK (AhA_ _ _ _ _ _ _ _ _ _ _ _ _) ?_
    simp only[SS]
    generalize hs':(⟨(dSt s3.mem s3.next).mem,(dSt s3.mem s3.next).next,s3.lim,_,_,s3.cx⟩:St)=s4
    have m4:s4.mem=s3.mem:=by rw[<-hs'];rfl
    have n4:s4.next=s3.next:=by rw[<-hs'];rfl
    have x4:Ext Any Non s3 s4:=by
     rw[<-hs']
     exact Ext.draw (F:=Any) (Nat.le_refl _) (λ_ _=>rfl) am λ_ _ _ _ _=>trivial
    have y4:=y3.on x4 hb0 λ_ _ h=>h
    have hI4:DkI s4 col D M k:=hI3.same m4 n4
    have g4:=hI4.fl j hlt
    refine TE_.u ?_
    have hcx4:s4.cx=cxN:=y4.cx
    rcases Nat.lt_or_ge (m/8) k.fs[j].sb.length with hin|hge
    ·have e3:decide (((k.fs[j].sb.length:Nat):Int)<=((m/8:Nat):Int))=false:=decide_eq_false J
     simp only[MS,RR,SS,Nat.reduceEqDiff, ↓reduceIte,B9,MkS.lenq g4.ms BH,e3]
     refine aG Gw_ ?_
     refine DL_ (m:=m) (y4.bnd hb0) g4.ms hin (hby _ (List.getElem_mem hlt)).1 (an t2) Y Y rfl J hcx4 λs6 n6 x6 o6=> ?_
     have hcol: ∀y,In k.fs[j].sbk (m/8) 1 y->col y=2+3*j+1:=λy hy=>g4.ks y ⟨J,by have:=hy.1;omega,by have:=hy.2;omega⟩
     have y6:Ext Any (λx=>col x<1000) (s.cxN cxN) s6:=(y4.gw hb0 λ_ _ h=>h.elim).on x6 hb0 λy _ hq=>by have:=hcol y hq;omega
     have hf:=g4.flip hin n6 x6 o6
     have hI6:=hI4.file hlt x6 (λy _ hq=>by have:=hcol y hq;omega) (λ_ _=>rfl) hf rfl
     exact q3 j hlt m hj rfl hin _ (hI6.same rfl rfl) y6.cx'
    ·have e3:decide (((k.fs[j].sb.length:Nat):Int)<=((m/8:Nat):Int))=true:=decide_eq_true J
     simp only[MS,RR,SS,Nat.reduceEqDiff, ↓reduceIte,B9,MkS.lenq g4.ms BH,e3]
     refine aJ Gw_ ?_
     refine Agb_.u ?_
     obtain⟨i,hi⟩: ∃i,m/8=k.fs[j].sb.length+i:=⟨m/8-k.fs[j].sb.length,J⟩
     have esub:wrap64 (((m/8:Nat):Int)-((k.fs[j].sb.length:Nat):Int))=((i:Nat):Int):=by
      rw[Bh J J];omega
     simp only[Cc_,RR,T.get_set,Nat.reduceEqDiff,reduceIte,Aa,Aj,A0,A3,AW]
     rw[W_dq λs Q=>MkS.lenq (s':=s) g4.ms BH Q]
     dsimp only
     try simp only[Aa]
     rw[W_dq λs Q=>Kf_ (s:=s) _ _ Q,esub]
     dsimp only
     try simp only[Aj]
     rw[W_dq λs Q=>AD (s:=s) _ Q]
     dsimp only
     try simp only[Aa]
     rw[W_dq λs Q=>Ab (s:=s) CS al Q]
     dsimp only
     try simp only[Aa]
     refine aD A2 ((g4.o1.same (s':=dSt s4.mem s4.next) rfl rfl).at') λrd5 hr5=> ?_
     try simp only[Aa]
     refine Eq.mpr (Aj _ _ _ _ _) ?_
     dsimp only
     try simp only[E8]
     rw[AI]
     refine⟨BZ am am, ?_⟩
     refine aK (And_ _ _ _ _ _ _ _ _ _ _ _ _ _ _) ?_
     simp only[SS]
     generalize hs':(⟨(dSt s4.mem s4.next).mem,(dSt s4.mem s4.next).next,s4.lim,_,_,s4.cx⟩:St)=s5
     have m5:s5.mem=s4.mem:=by rw[<-hs'];rfl
     have n5:s5.next=s4.next:=by rw[<-hs'];rfl
     have x5:Ext Any Non s4 s5:=by
      rw[<-hs']
      exact Ext.draw (F:=Any) (Nat.le_refl _) (λ_ _=>rfl) am λ_ _ _ _ _=>trivial
     have y5:=y4.on x5 hb0 λ_ _ h=>h
     have hI5:DkI s5 col D M k:=hI4.same m5 n5
     have g5:=hI5.fl j hlt
     have hil:i<k.fs[j].lb.length:=J
     refine DL_ (m:=m) (y5.bnd hb0) g5.ml hil (hby _ (List.getElem_mem hlt)).2 (an t2) Y Y Tp_ J y5.cx λs6 n6 x6 o6=> ?_
     have hcol: ∀y,In k.fs[j].lbk i 1 y->col y=2+3*j+2:=λy hy=>g5.kl y ⟨J,by have:=hy.1;omega,by have:=hy.2;omega⟩
     have y6:Ext Any (λx=>col x<1000) (s.cxN cxN) s6:=(y5.gw hb0 λ_ _ h=>h.elim).on x6 hb0 λy _ hq=>by have:=hcol y hq;omega
     have hf:=g5.flipL hil n6 x6 o6
     have hI6:=hI5.file hlt x6 (λy _ hq=>by have:=hcol y hq;omega) (λ_ _=>rfl) hf rfl
     exact q4 j hlt m i hj rfl hi hil _ (hI6.same rfl rfl) y6.cx'
   ·have e2:decide (((k.fs[j].sb.length+k.fs[j].lb.length:Nat):Int)<=((m/8:Nat):Int))=true:=decide_eq_true J
    simp only[e2]
    refine aJ Pf ?_
    refine IH_.u ?_
    simp only[ML,RR,SS]
    refine aB (rs:=[6]) (vs:=[.int .i64 5]) Vk (.inl NO) J I8 LP y3.cx Y ?_
    exact q2 j hlt hj (.inr ⟨m,rfl,hout⟩) _ y3.cx'
end
section
variable {n R:Nat}{s:St}{k:RkS}{a:ByteArray}{Q:Value->St->Prop}
theorem Aly_ (hb:s.lim<=s.next)(hI:RkI s R k)(hl:k.ws.length<=900)(hz: ∀f∈k.ws,f.rf.b.length<=1000000)(hn:10*k.ws.length+200<=n)
  (q1:k.out=true-> ∀s1,Ext Any Non s s1->Q (.int .i64 10) s1)
  (q2:k.out=false->atW k.wl a=none-> ∀s1,Ext Any Non s s1->Q (.int .i64 6) s1)
  (q3:k.out=false-> ∀i (hi:i<k.ws.length),atW k.wl a=some i->(k.fused=true/\k.left=0)-> ∀s1,Ext Any (In R 0 6) s s1->RkI s1 R {k with out:=true}->Q (.int .i64 10) s1)
  (q4:k.out=false-> ∀i (hi:i<k.ws.length),atW k.wl a=some i-> ¬(k.fused=true/\k.left=0)-> ∀s1 L' b',Ext Any (In R 0 6) s s1->s.next<=b'->RkI s1 R {k with ws:=k.ws.eraseIdx i,L:=L',b:=b',N:=wrap64 (k.N+1),left:=if k.fused then wrap64 (k.left-1)else k.left}->Q (.int .i64 0) s1):
  W (Ac envS (runF envS n) 30 [.pointer (some ⟨R,0,none⟩), .string a]) s Q:=by
 have hb0:(s.cxN cxN).lim<=(s.cxN cxN).next:=hb
 have hI0:RkI (s.cxN cxN) R k:=hI.same rfl rfl
 refine AlJ_ λtm h0 h1=> ?_
 refine UM_.u ?_
 simp only[RX_,RR,SS]
 refine VU_.u ?_
 simp only[JJ_,RR,SS,Nat.reduceEqDiff,reduceCtorEq, ↓reduceIte,h0,h1]
 have out: ∀(i:Int) (n':Nat) (tm':T Value) (td:List Item) (s1:St),10*k.ws.length+100<=n'->skim 64 td=SB->Ext Any Non (s.cxN cxN) s1->T.get tm' 0=some (.pointer (some ⟨R,0,none⟩))->T.get tm' 5=some (.int .i64 i)->(i<0/\atW k.wl a=none)\/(∃j:Nat,i=(j:Nat)/\atW k.wl a=some j)->W (runF envS n' ⟨30,Afq_,C0,tm',td, .run, .normal,none⟩) s1 λp s1=>Q p.1 (s1.cxN s.cx):=by
  intro i n' tm' td s1 hn' hT x1 g0 g5 hi
  have hI1:=hI0.ext0 x1
  refine XS_.u ?_ hT
  simp only[JV_,RR,SS,g0,Ab E9 al]
  refine aA BB hI1.r5.at' ?_
  have y2:=x1.thenRd hb0 (R+(0+5))
  have hI2:RkI (s1.rdN (R+(0+5))) R k:=hI1.same rfl rfl
  generalize s1.rdN (R+(0+5))=s2 at *
  cases ho:k.out with
  |true=>
   refine aJ TE ?_
   refine Aih_.u ?_
   simp only[MO_,RR,SS]
   refine aB (rs:=[4]) (vs:=[.int .i64 10]) rfl (.inl O5) J HJ Kh y2.cx Y ?_
   exact q1 ho _ y2.cx'
  |false=>
   refine aG TE ?_
   refine Wv_.u ?_
   simp only[Ze,RR,SS,Nat.reduceEqDiff, ↓reduceIte,Ap,g5]
   rcases hi with⟨hneg,hat⟩|⟨j,rfl,hat⟩
   ·refine aJ Jj_ ?_ rfl (an hneg)
    refine ApI_.u ?_
    simp only[ZM,RR,SS]
    refine aB (rs:=[4]) (vs:=[.int .i64 6]) AfO_ (.inl O5) J HJ Kh y2.cx Y ?_
    exact q2 ho hat _ y2.cx'
   ·have hj:j<k.ws.length:=by
     obtain⟨h,_⟩:=CO hat
     rwa [aH]at h
    refine aG Jj_ ?_
    refine Td_.u ?_
    simp only[Cm_,RR,SS,reduceCtorEq, ↓reduceIte,g0]
    refine JV (y2.bnd hb0) hI2 J (λhf s3 n3 x3 hI3=> ?_) λhf s3 n3 x3 hI3=> ?_
    ·have y3:Ext Any (In R 0 6) (s.cxN cxN) s3:=(y2.gw hb0 λ_ _ h=>h.elim).on x3 hb0 λ_ _ h=>h
     simp only[A5,Bool.not_false]
     refine aJ Rh_ ?_
     refine ApE_.u ?_
     simp only[Qp_,RR,SS]
     refine aB (rs:=[4]) (vs:=[.int .i64 10]) Adk_ (.inl O5) J HJ Kh y3.cx Y ?_
     exact q3 ho j hj hat hf _ y3.cx' (hI3.same rfl rfl)
    ·have y3:Ext Any (In R 0 6) (s.cxN cxN) s3:=(y2.gw hb0 λ_ _ h=>h.elim).on x3 hb0 λ_ _ h=>h
     simp only[A5,Bool.not_true]
     refine aG Rh_ ?_
     refine YP_.u ?_
     simp only[ZR,RR,SS,Nat.reduceEqDiff,reduceCtorEq, ↓reduceIte,g0,g5]
     refine Ss (k:={k with N:=wrap64 (k.N+1),left:=if k.fused then wrap64 (k.left-1)else k.left}) (y3.bnd hb0) hI3 (show k.ws.length<=1000 by omega) hj J λs4 L' b' x4 hI4 hb4=> ?_
     have y4:=y3.on x4 hb0 λ_ _ h=>h
     refine AeE_.u ?_
     simp only[Qd_,RR,SS]
     refine aB (rs:=[4]) (vs:=[.int .i64 0]) rfl (.inl Arj_) J HJ Kh y4.cx Y ?_
     have hnx:s.next<=s3.next:=y3.nxt
     exact q4 ho j hj hat hf _ L' b' y4.cx' J (hI4.same rfl rfl)
 refine EA hb0 hI0 J J (λhat s1 x1=> ?_) λj hat s1 x1=> ?_
 ·try simp only[SS,Nat.reduceEqDiff,reduceCtorEq, ↓reduceIte]
  exact out (-1) _ _ _ _ J rfl x1 (an h0) Y (.inl ⟨al,hat⟩)
 ·try simp only[SS,Nat.reduceEqDiff,reduceCtorEq, ↓reduceIte]
  exact out (j:Nat) _ _ _ _ J rfl x1 (an h0) Y (.inr ⟨j,rfl,hat⟩)
theorem P3 (hb:s.lim<=s.next)(hI:RkI s R k)(hl:k.ws.length<=900)(hz: ∀f∈k.ws,f.rf.b.length<=1000000/\f.rf.safe<=f.rf.b.length)(hn:10*k.ws.length+200<=n)
  (q1:atW k.wl a=none-> ∀s1,Ext Any Non s s1->Q (.int .i64 0) s1)
  (q2: ∀i (hi:i<k.ws.length),atW k.wl a=some i-> ∀s1,Ext Any Non s s1->Q (.int .i64 (k.ws[i].rf.b.length-k.ws[i].rf.safe:Nat)) s1):
  W (Ac envS (runF envS n) 16 [.pointer (some ⟨R,0,none⟩), .string a]) s Q:=by
 have hb0:(s.cxN cxN).lim<=(s.cxN cxN).next:=hb
 have hI0:RkI (s.cxN cxN) R k:=hI.same rfl rfl
 refine AaD_ λtm h0 h1=> ?_
 refine AeC_.u ?_
 simp only[Nk_,RR,SS]
 refine AjF_.u ?_
 simp only[MR_,RR,SS,Nat.reduceEqDiff,reduceCtorEq, ↓reduceIte,h0,h1]
 refine EA hb0 hI0 J J (λhat s1 x1=> ?_) λj hat s3 y3=> ?_
 ·try simp only[SS,Nat.reduceEqDiff,reduceCtorEq, ↓reduceIte]
  refine WS.u ?_
  have e1:decide ((-1:Int)<0)=true:=rfl
  simp only[R9,RR,SS, ↓reduceIte,Ap,e1]
  refine aJ Y7 ?_
  refine Adn_.u ?_
  simp only[Gt_,RR,SS]
  refine aB (rs:=[4]) (vs:=[.int .i64 0]) rfl (.inl ApQ_) J Nr BT_ x1.cx Y ?_
  exact q1 hat _ x1.cx'
 ·have hj:j<k.ws.length:=by
   obtain⟨h,_⟩:=CO hat
   rwa [aH]at h
  have hI3:=hI0.ext0 y3
  refine WS.u ?_
  have e1:decide (((j:Nat):Int)<0)=false:=decide_eq_false J
  simp only[R9,RR,SS, ↓reduceIte,Ap,e1]
  refine aG Y7 ?_
  refine Aaq_.u ?_
  obtain⟨c,ev,o0,o1,o2⟩:=hI3.l.at hj
  have hB:=hI3.bs _ (List.getElem_mem hj)
  have r0:=hI3.r0
  obtain⟨z1,z2⟩:=hz _ (List.getElem_mem hj)
  simp only[Nx_,RR,T.get_set,Nat.reduceEqDiff,reduceIte,h0,Aa,Aj]
  rw[W_dq λs Q=>AD (s:=s) _ Q]
  dsimp only
  try simp only[Aa]
  rw[W_dq λs Q=>Ab (s:=s) AM al Q]
  dsimp only
  try simp only[Aa]
  refine aD AN ((r0.same (s':=dSt s3.mem s3.next) rfl rfl).at') λrd3 hr3=> ?_
  try simp only[Aa]
  refine Eq.mpr (Aj _ _ _ _ _) ?_
  dsimp only
  simp only[ev]
  rw[W_dq λs Q=>AA (s:=s) AL hj Q]
  dsimp only
  try simp only[Aa]
  rw[W_dq λs Q=>Ab (s:=s) CB al Q]
  dsimp only
  try simp only[Aa]
  refine aD A2 ((o1.same (s':=dSt s3.mem s3.next) rfl rfl).at') λrd7 hr7=> ?_
  try simp only[Aa,A0,A3,AW]
  rw[W_dq λs Q=>Bs.lenq (s':=s) hB BH Q]
  dsimp only
  try simp only[Aa]
  refine Eq.mpr (Aj _ _ _ _ _) ?_
  dsimp only
  try simp only[Aa]
  rw[W_dq λs Q=>AD (s:=s) _ Q]
  dsimp only
  try simp only[Aa]
  rw[W_dq λs Q=>Ab (s:=s) AM al Q]
  dsimp only
  try simp only[Aa]
  rw[ev]at r0
  refine aD AN ((r0.same (s':=dSt s3.mem s3.next) rfl rfl).at') λrd12 hr12=> ?_
  try simp only[Aa]
  refine Eq.mpr (Aj _ _ _ _ _) ?_
  dsimp only
  try simp only[Aa]
  rw[W_dq λs Q=>AA (s:=s) AL hj Q]
  dsimp only
  try simp only[Aa]
  rw[W_dq λs Q=>Ab (s:=s) Ge al Q]
  dsimp only
  try simp only[Aa]
  refine aD Bv ((o2.same (s':=dSt s3.mem s3.next) rfl rfl).at') λrd16 hr16=> ?_
  try simp only[Aa]
  have es:wrap64 (((k.ws[j].rf.b.length:Nat):Int)-((k.ws[j].rf.safe:Nat):Int))=((k.ws[j].rf.b.length-k.ws[j].rf.safe:Nat):Int):=by
   rw[Bh J J];omega
  rw[W_dq λs Q=>Kf_ (s:=s) _ _ Q,es,AI]
  refine⟨BZ am am, ?_⟩
  refine aK (XQ_ _ _ _ _ _ _ _ _ _ _ _ _ _ _ _ _ _ _ _ _ _ _ _) ?_
  simp only[SS]
  generalize hs':(⟨(dSt s3.mem s3.next).mem,(dSt s3.mem s3.next).next,s3.lim,_,_,s3.cx⟩:St)=s4
  have x4:Ext Any Non s3 s4:=by
   rw[<-hs']
   exact Ext.draw (F:=Any) (Nat.le_refl _) (λ_ _=>rfl) am λ_ _ _ _ _=>trivial
  have y4:=y3.on x4 hb0 λ_ _ h=>h
  refine aB (rs:=[4]) (vs:=[.int .i64 (k.ws[j].rf.b.length-k.ws[j].rf.safe:Nat)]) rfl (.inl Vt_) J Nr BT_ y4.cx Y ?_
  exact q2 j hj hat _ y4.cx'
end
structure Rft (s s1:St)(R:Nat)(k k':RkS):Prop where
 inv:RkI s1 R k'
 ext:Ext Any (RkG R k) s s1
 foot: ∀x,RkF R k' x->RkF R k x\/s.next<=x
theorem Ajn_ (a:ByteArray):buildN envS 69 [(0, .string a)]=some [.string a, .slice none 0 0, .int .i64 0]:=X
section
variable {n R:Nat}{s:St}{k:RkS}{a:ByteArray}{bv:Value}{l:List Nat}{Q:Value->St->Prop}
theorem Eu_ {i m:Nat}{tm:T Value}{td:List Item}{Q:Value×FrameMode->St->Prop}(hb:s.lim<=s.next)(hI:RkI s R k)(hl:k.ws.length<=1000)(hi:i<k.ws.length)(hB:Bs s bv l)(hz:k.ws[i].rf.b.length+l.length<=1000000)(h0:T.get tm 0=some (.pointer (some ⟨R,0,none⟩)))(h2:T.get tm 2=some bv)(h7:T.get tm 7=some (.int .i64 (i:Nat)))(hT:skim 64 td=HB)(hm:20<=m)(hcx:s.cx=cxN)
  (q: ∀s1 v b,s.next<=b->Ext Any (RkG R k) s s1->RkI s1 R {k with ws:=k.ws.set i ⟨{k.ws[i].rf with b:=k.ws[i].rf.b++l},v⟩}->(∀x,BsF v x->s.next<=x)->Q (.int .i64 0, .run) s1):
  W (runF envS m ⟨35,Oe,By,tm,td, .run, .normal,none⟩) s Q:=by
 refine Apl_.u ?_ hT
 have hp:0<k.ws.length:=J
 obtain⟨c,ev,o0,o1,o2⟩:=hI.l.at hi
 have hBi:=hI.bs _ (List.getElem_mem hi)
 have hbl:=hI.bl _ (List.getElem_mem hi)
 have r0:=hI.r0
 rw[ev]at r0
 have hR:R+6<=s.next:=by have:=hI.r5.1;omega
 have hib:k.b+(i*3+1)<s.next:=by have:=o1.1;omega
 simp only[Vc,RR,h0,h2,h7,Aa,Aj,EN,A3,A0,AW]
 rw[W_dq λs Q=>AD (s:=s) _ Q]
 dsimp only
 try simp only[Aa]
 rw[W_dq λs Q=>Ab (s:=s) AM al Q]
 dsimp only
 try simp only[Aa]
 refine aD AN ((r0.same (s':=dSt s.mem s.next) rfl rfl).at') λrd3 hr3=> ?_
 try simp only[Aa]
 refine Eq.mpr (Aj _ _ _ _ _) ?_
 dsimp only
 refine aO (aQ (s:=oSt s.mem s.next) (Nat.le_refl _) (r:=[]) Lm al rfl (BD al) λs1 n1 x1 o1'=>⟨Non,x1,λrd5 hr5=> ?_⟩)
 obtain rfl:=CU (λx hx=>(hr5 x hx).2)
 have n1':s1.next=s.next+1:=n1
 have eb:(oSt s.mem s.next).next=s.next:=rfl
 rw[eb]
 try simp only[Aa]
 refine Eq.mpr (Aj _ _ _ _ _) ?_
 dsimp only
 try simp only[Aa]
 rw[W_dq λs Q=>AD (s:=s) _ Q]
 dsimp only
 try simp only[Aa]
 rw[W_dq λs Q=>Ab (s:=s) AM al Q]
 dsimp only
 try simp only[Aa]
 have r01:=(r0.same (s':=oSt s.mem s.next) rfl rfl).ext0 x1
 have o11:=(o1.same (s':=oSt s.mem s.next) rfl rfl).ext0 x1
 have hB1:=(hBi.same (s':=oSt s.mem s.next) rfl rfl).ext0 x1
 have hL1:=(hB.same (s':=oSt s.mem s.next) rfl rfl).ext0 x1
 refine aD AN ((r01.same (s':=dSt s1.mem s1.next) rfl rfl).at') λrd9 hr9=> ?_
 try simp only[Aa]
 refine Eq.mpr (Aj _ _ _ _ _) ?_
 dsimp only
 try simp only[Aa]
 rw[W_dq λs Q=>AA (s:=s) AL hi Q]
 dsimp only
 try simp only[Aa]
 rw[W_dq λs Q=>Ab (s:=s) CB al Q]
 dsimp only
 try simp only[Aa]
 refine aD A2 ((o11.same (s':=dSt s1.mem s1.next) rfl rfl).at') λrd13 hr13=> ?_
 try simp only[Aa]
 refine aS ?_
 refine W.appBy (s:=oSt s1.mem s1.next) (Nat.le_refl _) (EmB.nil (b:=s.next)) (hB1.same (s':=oSt s1.mem s1.next) rfl rfl) (by simp;omega) λs8 v8 b8 hb8 m8 x8=>⟨_,_,x8,λrd8 wr8 hr8 hw8=> ?_⟩
 rw[List.nil_append]at m8
 obtain rfl:=CU (λx hx=>Ct (hw8 x hx).2)
 have x8':Ext Any Non (oSt s1.mem s1.next) s8:=(x8.monoF λ_ _=>trivial).gw (Nat.le_refl _) λ_ _ h=>(Ct h).elim
 have n8:s1.next<=s8.next:=x8.nxt
 have hL8:=(hL1.same (s':=oSt s1.mem s1.next) rfl rfl).ext0 x8'
 try simp only[Aa]
 refine Eq.mpr (Aj _ _ _ _ _) ?_
 dsimp only
 try simp only[Aa,A0,A3,AW]
 refine aS ?_
 refine W.appBy (s:=oSt s8.mem s8.next) (Nat.le_refl _) (m8.same (s':=oSt s8.mem s8.next) rfl rfl) (hL8.same (s':=oSt s8.mem s8.next) rfl rfl) hz λs16 v16 b16 hb16 m16 x16=>⟨_,_,x16,λrd16 wr16 hr16 hw16=> ?_⟩
 have n16:s8.next<=s16.next:=x16.nxt
 try simp only[Aa]
 rw[W_dq λs Q=>AA (s:=s) AL hi Q]
 dsimp only
 try simp only[Aa]
 rw[W_dq λs Q=>Ab (s:=s) CB al Q,AI]
 have e3: ∀x∈rd3,x<s.next:=λx h=>by have:=hr3 x h;omega
 have e9: ∀x∈rd9,x<s.next:=λx h=>by have:=hr9 x h;omega
 have e13: ∀x∈rd13,x<s.next:=λx h=>by have:=hr13 x h;omega
 have hb8':s.next<=b8:=by
  rcases hb8 with h|h
  ·rw[h];exact Nat.le_refl _
  ·have h':s1.next<=b8:=h
   omega
 have hb16':s.next<=b16:=by
  rcases hb16 with h|h
  ·rw[h];exact hb8'
  ·have h':s8.next<=b16:=h
   omega
 have w16: ∀x∈wr16,s.next<=x:=λx h=>by
  have h1:b8+0<=x:=(hw16 x h).2.2.1
  omega
 have r8: ∀x∈rd8,x<s.next:=λx h=>by
  rcases(hr8 x h).2 with h1|h1
  ·exact hbl x h1
  ·exact(Ct h1).elim
 refine⟨CP ?_, ?_⟩
 ·simp only[List.reverse_cons,List.reverse_nil,List.nil_append,List.cons_append,allP,BS,List.take,Cu]
  have lts: ∀x,s.next<=x-> ¬x<s.next:=λx h=>J
  have lt1: ∀x,x<s.next-> ¬s.next<=x:=λx h=>J
  have g3: ∀x∈rd3,¬s.next<=x:=λx h=>by have:=e3 x h;omega
  have g9: ∀x∈rd9,¬s.next<=x:=λx h=>by have:=e9 x h;omega
  have g13: ∀x∈rd13,¬s.next<=x:=λx h=>by have:=e13 x h;omega
  have g8: ∀x∈rd8,¬s.next<=x:=λx h=>by have:=r8 x h;omega
  have g16: ∀x∈wr16,x∉rd3/\x∉rd9/\x∉rd13/\x∉rd8:=λx h=>⟨λq=>g3 x q (w16 x h),λq=>g9 x q (w16 x h),λq=>g13 x q (w16 x h),λq=>g8 x q (w16 x h)⟩
  simp+contextual [lts,lt1,g3,g9,g13,g8,g16]
  try (and_intros<;>exact .inl rfl)
 ·refine aK (UD_ _ _ _ _ _ _ _ _ _ _ _ _ _ _ _ _ _ _ _ _ _ _ _ _) ?_
  simp only[SS]
  generalize hs':(⟨(dSt s16.mem s16.next).mem,(dSt s16.mem s16.next).next,s.lim,_,_,s.cx⟩:St)=s7
  have m7:s7.mem=s16.mem:=by rw[<-hs'];rfl
  have n7:s7.next=s16.next:=by rw[<-hs'];rfl
  have x7:Ext Any Non s s7:=by
   rw[<-hs']
   refine aU (by show s.next<=s16.next;omega) (λx hx _=> ?_) ?_ λ_ _ _ _ _=>trivial
   ·have h1:T.get s16.mem x=T.get s8.mem x:=x16.mem x (by show x<s8.next;omega) λh=>by have h2:b8+0<=x:=h.2.1;omega
    have h2:T.get s8.mem x=T.get s1.mem x:=x8'.mem x (by show x<s1.next;omega) λh=>h
    have h3:T.get s1.mem x=T.get s.mem x:=x1.mem x hx λh=>h
    show T.get s16.mem x=_
    rw[h1,h2,h3]
   ·simp only[List.mem_cons,List.not_mem_nil,or_false]
    rintro m hm x hx hxl
    have hw:x∈wr16:=by
     rcases hm with rfl|rfl|rfl|rfl|rfl|rfl|rfl|rfl|rfl|rfl|rfl|rfl|rfl|rfl|rfl|rfl|rfl|rfl|rfl<;>first|exact hx|(cases hx;done)
    have:=w16 x hw
    omega
  have hI7:=hI.ext0 x7
  have o17:=o1.ext0 x7
  refine aI A2 (by obtain⟨c,e⟩:=m16.at;rw[e];rfl) o17 λs9 n9 x9 o9=> ?_
  have z9:Ext Any (λy=>y=k.b+(i*3+1)) s7 s9:=x9.weak (x7.bnd hb) (λ_ _ _=>trivial) λy _ hq=>by have h1:=hq.1;have h2:=hq.2;omega
  have o9':Own s9 k.b (i*3+1) v16:=by rw[show 0+i*3+1=i*3+1 by omega]at o9;exact o9
  have m7':EmB s7 (k.ws[i].rf.b++l) v16 b16:=m16.same m7 n7
  have hlen:(k.ws[i].rf.b++l).length<capU:=Nat.lt_of_le_of_lt (show _<=1000000 by rw[List.length_append];exact hz) al
  have inL:MkF 3 k.ws.length k.b (k.b+(i*3+1)):=⟨hp,J,by show _<k.b+0+(k.ws.length*3+1);omega⟩
  have hF: ∀x,BsF v16 x->s.next<=x/\x<s7.next:=λx hx=>⟨by have:=m7'.f hx;omega,m7'.lt hx⟩
  have hI9:=hI7.put (i:=i) (r:=1) (f:=⟨{k.ws[i].rf with b:=k.ws[i].rf.b++l},v16⟩) hi al n9 z9 o9' (Ll hi rfl rfl) ((m7'.bs hlen).ext z9 λx hx h=>by have h1:=hF x hx;have h2:x=_:=h;omega) λx hx=>⟨by rw[n9];exact(hF x hx).2,by have:=hF x hx;omega,λh=>by have h1:=hF x hx;have h2:=hI.l.lt x h;omega⟩
  have y9:Ext Any (RkG R k) s s9:=(x7.gw hb λ_ _ h=>h.elim).on z9 hb λy _ h=>by
   have h':y=_:=h
   subst h'
   exact .inr inL
  refine AdZ_.u ?_
  simp only[LI_,RR,SS]
  refine aB (rs:=[6]) (vs:=[.int .i64 0]) rfl (.inl AoA_) J GB Ij (y9.cx.trans hcx) Y ?_
  exact q s9 v16 b16 hb16' y9 hI9 λx hx=>(hF x hx).1
end
def layW (wl:List RF)(a:ByteArray)(l:List Nat):List RF:=match atW wl a with
 |some i=>(match wl[i]? with|some f=>wl.set i {f with b:=f.b++l}|none=>wl)
 |none=>wl
def appW (wl:List RF)(a:ByteArray)(l:List Nat):List RF:=match atW wl a with
 |some _=>layW wl a l
 |none=>layW (insW wl ⟨a,[],0⟩) a l
theorem LU {wl:List RF}{a:ByteArray}{l:List Nat}{i:Nat}(h:atW wl a=some i)(hi:i<wl.length):layW wl a l=wl.set i {wl[i]with b:=wl[i].b++l}:=by
 unfold layW
 rw[h]
 simp only[List.getElem?_eq_getElem hi]
theorem P9 {wl:List RF}{f:RF}(h:f∈wl):atW wl f.name≠none:=λe=>by
 unfold atW at e
 have:=List.findIdx?_eq_none_iff.1 e f h
 rw[HW]at this
 cases this
theorem Kf (ws:List RW)(i:Nat)(f:RW):(ws.set i f).map RW.rf=(ws.map RW.rf).set i f.rf:=by rw[List.map_set]
section
variable {n R:Nat}{s:St}{k:RkS}{a:ByteArray}{bv:Value}{l:List Nat}{Q:Value->St->Prop}
theorem Sy {s:St}{R i:Nat}{k:RkS}{f:RW}(hf: ∀x,BsF f.v x->RkF R k x\/s.next<=x): ∀x,RkF R {k with ws:=k.ws.set i f} x->RkF R k x\/s.next<=x:=by
 intro x hx
 rcases hx with h|h|⟨g,hg,h⟩
 ·exact .inl (.inl h)
 ·have h':MkF 3 (k.ws.set i f).length k.b x:=h
  rw[List.length_set]at h'
  exact .inl (.inr (.inl h'))
 ·rcases List.mem_or_eq_of_mem_set hg with hg|rfl
  ·exact .inl (.inr (.inr ⟨g,hg,h⟩))
  ·exact hf x h
theorem LE_ {s:St}{R:Nat}{k k':RkS}(h1:k'.ws=k.ws)(h2:k'.b=k.b): ∀x,RkF R k' x->RkF R k x\/s.next<=x:=by
 intro x hx
 unfold RkF at hx ⊢
 rw[h1,h2]at hx
 exact .inl hx
theorem Aao_ (hb:s.lim<=s.next)(hI:RkI s R k)(hl:k.ws.length<=800)(hB:Bs s bv l)(hBF: ∀x,BsF bv x-> ¬RkG R k x)(hz: ∀f∈k.ws,f.rf.b.length+l.length<=1000000)(hz1:l.length<=1000000)(hu:k.used<=1000000)(ha:a.size<=1000000)(hn:10*k.ws.length+10*a.size+300<=n)
  (q0:k.out=true-> ∀s1,Ext Any Non s s1->Q (.int .i64 10) s1)
  (q1:k.out=false->AC a=false-> ∀s1,Ext Any Non s s1->Q (.int .i64 2) s1)
  (q2:k.out=false->AC a=true->k.room<(k.used+l.length:Nat)-> ∀s1,Ext Any Non s s1->Q (.int .i64 8) s1)
  (q3:k.out=false->AC a=true->((k.used+l.length:Nat):Int)<=k.room->(k.fused=true/\k.left=0)-> ∀s1,Ext Any (In R 0 6) s s1->RkI s1 R {k with out:=true}->Q (.int .i64 10) s1)
  (q4:k.out=false->AC a=true->((k.used+l.length:Nat):Int)<=k.room-> ¬(k.fused=true/\k.left=0)-> ∀s1 k',Rft s s1 R k k'->k'.wl=appW k.wl a l->k'.room=k.room->k'.N=wrap64 (k.N+1)->k'.fused=k.fused->k'.left=(if k.fused then wrap64 (k.left-1)else k.left)->k'.out=k.out->Q (.int .i64 0) s1):
  W (Ac envS (runF envS n) 35 [.pointer (some ⟨R,0,none⟩), .string a,bv]) s Q:=by
 have hb0:(s.cxN cxN).lim<=(s.cxN cxN).next:=hb
 have hI0:RkI (s.cxN cxN) R k:=hI.same rfl rfl
 have hB0:Bs (s.cxN cxN) bv l:=hB.same rfl rfl
 refine XH_ λtm h0 h1 h2=> ?_
 refine AlS_.u ?_
 simp only[Qw_,RR,SS]
 refine AfG_.u ?_
 simp only[Yf,RR,SS,Nat.reduceEqDiff,reduceCtorEq, ↓reduceIte,h0,h1]
 have out: ∀(i:Int) (n':Nat) (tm':T Value) (td:List Item) (s1:St),10*k.ws.length+10*a.size+200<=n'->skim 64 td=Pl->Ext Any Non (s.cxN cxN) s1->T.get tm' 0=some (.pointer (some ⟨R,0,none⟩))->T.get tm' 1=some (.string a)->T.get tm' 2=some bv->T.get tm' 7=some (.int .i64 i)->(i<0/\atW k.wl a=none)\/(∃j:Nat,i=(j:Nat)/\atW k.wl a=some j)->W (runF envS n' ⟨35,Oe,By,tm',td, .run, .normal,none⟩) s1 λp s1=>Q p.1 (s1.cxN s.cx):=by
  intro i n' tm' td s1 hn' hT x1 g0 g1 g2 g7 hi
  have hI1:=hI0.ext0 x1
  refine Wa_.u ?_ hT
  simp only[Qy_,RR,SS,g0,Ab E9 al]
  refine aA BB hI1.r5.at' ?_
  have y2:=x1.thenRd hb0 (R+(0+5))
  have hI2:RkI (s1.rdN (R+(0+5))) R k:=hI1.same rfl rfl
  generalize s1.rdN (R+(0+5))=s2 at *
  cases ho:k.out with
  |true=>
   refine aJ GC_ ?_
   refine AcB_.u ?_
   simp only[JN_,RR,SS]
   refine aB (rs:=[6]) (vs:=[.int .i64 10]) rfl (.inl Jk) J GB Ij y2.cx Y ?_
   exact q0 ho _ y2.cx'
  |false=>
   refine aG GC_ ?_
   refine Zw_.u ?_
   simp only[Lr_,RR,SS,Nat.reduceEqDiff, ↓reduceIte,g1]
   refine PA_ (s:=s2) ha J λs3 m3 n3 x3=> ?_
   have y3:=y2.on x3 hb0 λ_ _ h=>h
   have hI3:=hI2.same m3 n3
   simp only[A5]
   cases hnb:AC a with
   |false=>
    refine aJ UB ?_
    refine YV_.u ?_
    simp only[Uq,RR,SS]
    refine aB (rs:=[6]) (vs:=[.int .i64 2]) AjC_ (.inl Jk) J GB Ij y3.cx Y ?_
    exact q1 ho hnb _ y3.cx'
   |true=>
    refine aG UB ?_
    refine AoM_.u ?_
    have room: ∀(n'':Nat) (tm'':T Value) (td:List Item) (s4:St),10*k.ws.length+10*a.size+160<=n''->skim 64 td=K8->Ext Any Non (s.cxN cxN) s4->T.get tm'' 20=some (.bool false)->T.get tm'' 0=some (.pointer (some ⟨R,0,none⟩))->T.get tm'' 1=some (.string a)->T.get tm'' 2=some bv->T.get tm'' 7=some (.int .i64 i)->W (runF envS n'' ⟨35,Oe,By,tm'',td, .run, .normal,none⟩) s4 λp s1=>Q p.1 (s1.cxN s.cx):=by
     intro n'' tm'' td s4 hn'' hT'' y4 g20 g0 g1 g2 g7
     have hI4:=hI0.ext0 y4
     have hB4:=hB0.ext0 y4
     refine aG Zp_ ?_ hT'' (by simp[g20])
     refine AoB_.u ?_
     simp only[Is_,RR,g0,g2,Aa,Cb,Aj,A0,A3,AW,OM]
     refine aO (BH_ (s:=oSt s4.mem s4.next) (Nat.le_refl _) (hI4.same rfl rfl) J J J λs5 x5=>⟨Any,x5,λrd1 hr1=> ?_⟩)
     have n5:s4.next<=s5.next:=x5.nxt
     have hI5:RkI s5 R k:=(hI4.same (s':=oSt s4.mem s4.next) rfl rfl).ext0 x5
     try simp only[Aa]
     refine Eq.mpr (Aj _ _ _ _ _) ?_
     dsimp only
     try simp only[Aa,A0,A3,AW]
     rw[W_dq λs Q=>Bs.lenq (s':=s) hB4 BH Q]
     dsimp only
     try simp only[Aa]
     have es:wrap64 (((k.used:Nat):Int)+((l.length:Nat):Int))=((k.used+l.length:Nat):Int):=by
      rw[Bh J J];omega
     rw[W_dq λs Q=>Hr (s:=s) _ _ Q,es]
     dsimp only
     try simp only[Aa]
     refine Eq.mpr (Aj _ _ _ _ _) ?_
     dsimp only
     try simp only[Aa]
     rw[W_dq λs Q=>AD (s:=s) _ Q]
     dsimp only
     try simp only[Aa]
     rw[W_dq λs Q=>Ab (s:=s) AY_ al Q]
     dsimp only
     try simp only[Aa]
     refine aD Bv ((hI5.r1.same (s':=dSt s5.mem s5.next) rfl rfl).at') λrd8 hr8=> ?_
     try simp only[Aa]
     rw[W_dq λs Q=>Ck (s:=s) (Q:=Q) _ _,AI]
     have hR:R+6<=s4.next:=by have:=hI4.r5.1;omega
     refine⟨CP ?_, ?_⟩
     ·simp only[List.reverse_cons,List.reverse_nil,List.nil_append,List.cons_append,allP,BS,List.take,Cu]
      have g8: ∀x∈rd8,¬s4.next<=x:=λx h=>by have:=hr8 x h;omega
      simp+contextual [g8]
     ·refine aK (Apy_ _ _ _ _ _ _ _ _ _ _ _ _ _ _ _) ?_
      simp only[SS]
      generalize hs':(⟨(dSt s5.mem s5.next).mem,(dSt s5.mem s5.next).next,s4.lim,_,_,s4.cx⟩:St)=s6
      have x6:Ext Any Non s4 s6:=by
       rw[<-hs']
       exact Ext.draw (F:=Any) (by show s4.next<=s5.next;omega) (λx hx=>x5.mem x hx λh=>h) am λ_ _ _ _ _=>trivial
      have y6:=y4.on x6 hb0 λ_ _ h=>h
      have hI6:=hI0.ext0 y6
      by_cases hfu:k.room<((k.used+l.length:Nat):Int)
      ·refine aJ Yp ?_ MJ_ (by simp[T.get_set];exact hfu)
       refine Arq_.u ?_
       simp only[Bp_,RR,SS]
       refine aB (rs:=[6]) (vs:=[.int .i64 8]) AaR_ (.inl Jk) J GB Ij y6.cx Y ?_
       exact q2 ho hnb hfu _ y6.cx'
      ·have hfu':((k.used+l.length:Nat):Int)<=k.room:=J
       refine aG Yp ?_ MJ_
       refine Aoj_.u ?_
       simp only[Ku_,RR,SS,reduceCtorEq, ↓reduceIte,g0]
       refine JV (y6.bnd hb0) hI6 J (λhf s7 n7 x7 hI7=> ?_) λhf s7 n7 x7 hI7=> ?_
       ·have y7:Ext Any (In R 0 6) (s.cxN cxN) s7:=(y6.gw hb0 λ_ _ h=>h.elim).on x7 hb0 λ_ _ h=>h
        simp only[A5,Bool.not_false]
        refine aJ Ob_ ?_
        refine Xr_.u ?_
        simp only[IV_,RR,SS]
        refine aB (rs:=[6]) (vs:=[.int .i64 10]) Acp_ (.inl Jk) J GB Ij y7.cx Y ?_
        exact q3 ho hnb hfu' hf _ y7.cx' (hI7.same rfl rfl)
       ·have y7:Ext Any (In R 0 6) (s.cxN cxN) s7:=(y6.gw hb0 λ_ _ h=>h.elim).on x7 hb0 λ_ _ h=>h
        have hnx7:s.next<=s7.next:=y7.nxt
        have hB7:Bs s7 bv l:=hB0.ext y7 λx hx h=>hBF x hx (.inl h)
        simp only[A5,Bool.not_true]
        refine aG Ob_ ?_
        refine Adv_.u ?_
        simp only[Ea_,RR,SS,Nat.reduceEqDiff, ↓reduceIte,Ap,g7]
        rcases hi with⟨hneg,hat⟩|⟨j,rfl,hat⟩
        ·refine aJ GT_ ?_ rfl (an hneg)
         refine Aaw_.u ?_
         simp only[Ml_,RR,SS,Nat.reduceEqDiff,reduceCtorEq, ↓reduceIte,g0,g1,Ii (Ajn_ a)]
         refine HE_ (f:=⟨⟨a,[],0⟩, .slice none 0 0⟩) (y7.bnd hb0) hI7 (show k.ws.length<=900 by omega) (.inl ⟨rfl,rfl⟩) (λx hx=>hx.elim) (show 10*k.ws.length+100<=_ by omega) λs8 L' b' x8 hI8 hb8=> ?_
         have y8:=y7.on x8 hb0 λ_ _ h=>h
         refine UQ_.u ?_
         simp only[T5,RR,SS,Nat.reduceEqDiff,reduceCtorEq, ↓reduceIte,g0,g1]
         replace hI8:RkI s8 R {k with ws:=insR k.ws (A9 k.wl a) ⟨⟨a,[],0⟩, .slice none 0 0⟩,L:=L',b:=b',N:=wrap64 (k.N+1),left:=if k.fused then wrap64 (k.left-1)else k.left}:=hI8
         generalize hws:insR k.ws (A9 k.wl a) ⟨⟨a,[],0⟩, .slice none 0 0⟩=ws2 at *
         have hrf:ws2.map RW.rf=insW k.wl ⟨a,[],0⟩:=by
          rw[<-hws]
          exact OE_ k.ws ⟨⟨a,[],0⟩, .slice none 0 0⟩
         have hlen2:ws2.length=k.ws.length+1:=by
          have h1:=congrArg List.length hrf
          rw[List.length_map,(G5 _ _).length_eq,List.length_cons,aH]at h1
          exact h1
         have sub2: ∀g∈ws2,g=⟨⟨a,[],0⟩, .slice none 0 0⟩\/g∈k.ws:=λg hg=>by
          rw[<-hws]at hg
          unfold insR at hg
          rcases List.mem_append.1 hg with h|h
          ·exact .inr (List.mem_of_mem_take h)
          ·rcases List.mem_cons.1 h with h|h
           ·exact .inl h
           ·exact .inr (List.mem_of_mem_drop h)
         have bad: ∀{P:Prop},atW (ws2.map RW.rf) a=none->P:=λh=>by
          rw[hrf]at h
          exact absurd h (P9 (f:=⟨a,[],0⟩) ((G5 _ _).mem_iff.2 am))
         refine EA (y8.bnd hb0) hI8 (show ws2.length<=1000 by omega) (show 10*ws2.length+60<=_ by omega) (λh s9 x9=>bad h) λi2 h9 s9 x9=> ?_
         have h9':atW (ws2.map RW.rf) a=some i2:=h9
         have y9:Ext Any (In R 0 6) (s.cxN cxN) s9:=y8.on x9 hb0 λ_ _ h=>h.elim
         have hI9:=hI8.ext0 x9
         have hi2:i2<ws2.length:=by
          obtain⟨h,_⟩:=CO h9'
          simpa using h
         have hB9:Bs s9 bv l:=hB0.ext y9 λx hx h=>hBF x hx (.inl h)
         have hnx9:s.next<=s9.next:=y9.nxt
         refine Eu_ (i:=i2) (l:=l) (bv:=bv) (y9.bnd hb0) hI9 (show ws2.length<=1000 by omega) hi2 hB9 (by
          show ws2[i2].rf.b.length+l.length<=1000000
          rcases sub2 _ (List.getElem_mem hi2)with e|e
          ·rw[e];show 0+l.length<=1000000;omega
          ·exact hz _ e) (an g0) (an g2) Y VX_ J (y9.cx.trans rfl) λs10 v b hbv x10 hI10 hvF=> ?_
         have y10:Ext Any (RkG R k) (s.cxN cxN) s10:=(y9.gw hb0 λ_ _ h=> .inl h).on x10 hb0 λx hx h=>by
          have hx':x<s.next:=hx
          rcases h with h|h
          ·exact .inl h
          ·have h':b'+0<=x:=h.2.1
           omega
         refine q4 ho hnb hfu' hf _ _ ⟨hI10.same rfl rfl,y10.cx',λx hx=> ?_⟩ ?_ rfl rfl rfl rfl rfl
         ·rcases hx with h|h|⟨g,hg,h⟩
          ·exact .inl (.inl h)
          ·have h':b'+0<=x:=h.2.1
           exact .inr J
          ·rcases List.mem_or_eq_of_mem_set hg with hg|rfl
           ·rcases sub2 g hg with rfl|hg
            ·exact h.elim
            ·exact .inl (.inr (.inr ⟨g,hg,h⟩))
           ·have:=hvF x h
            exact .inr J
         ·have hi2':i2<(insW k.wl ⟨a,[],0⟩).length:=by rw[<-hrf];simpa using hi2
          unfold appW
          rw[hat]
          show(ws2.set i2 _).map RW.rf=layW (insW k.wl ⟨a,[],0⟩) a l
          rw[LU (by rw[<-hrf];exact h9') hi2',Kf]
          simp only[<-hrf,List.getElem_map]
        ·have hj:j<k.ws.length:=by
          obtain⟨h,_⟩:=CO hat
          rwa [aH]at h
         refine aG GT_ ?_
         refine Eu_ (i:=j) (l:=l) (bv:=bv) (y7.bnd hb0) hI7 (show k.ws.length<=1000 by omega) hj hB7 (hz _ (List.getElem_mem hj)) (an g0) (an g2) (an g7) rfl J (y7.cx.trans rfl) λs10 v b hbv x10 hI10 hvF=> ?_
         have y10:Ext Any (RkG R k) (s.cxN cxN) s10:=(y7.gw hb0 λ_ _ h=> .inl h).on x10 hb0 λx hx h=>h
         refine q4 ho hnb hfu' hf _ _ ⟨hI10.same rfl rfl,y10.cx',λx hx=> ?_⟩ ?_ rfl rfl rfl rfl rfl
         ·exact Sy (s:=s) (R:=R) (i:=j) (k:=k) (f:=⟨{k.ws[j].rf with b:=k.ws[j].rf.b++l},v⟩) (λx hx=> .inr (by have:=hvF x hx;omega)) x hx
         ·unfold appW
          rw[hat]
          show(k.ws.set j _).map RW.rf=layW k.wl a l
          rw[LU hat (by rw[aH];exact hj),Kf,aM hj]
          rfl
    by_cases hneg:i<0
    ·have e9:decide ((1000:Int)<=((k.ws.length:Nat):Int))=false:=decide_eq_false J
     simp only[NK,RR,SS,Nat.reduceEqDiff,reduceCtorEq, ↓reduceIte,Ap,g7,g0,decide_eq_true hneg,Ab AM al]
     refine aA AN hI3.r0.at' ?_
     have y4:=y3.thenRd hb0 (R+(0+0))
     simp only[B9,hI3.l.len AL,e9]
     exact room _ _ _ _ J rfl y4 Y (an g0) (an g1) (an g2) (an g7)
    ·simp only[NK,RR,SS,Nat.reduceEqDiff,reduceCtorEq, ↓reduceIte,Ap,g7,g0,decide_eq_false hneg,Bool.false_eq_true]
     exact room _ _ _ _ J rfl y3 Y (an g0) (an g1) (an g2) (an g7)
 refine EA hb0 hI0 J J (λhat s1 x1=> ?_) λj hat s1 x1=> ?_
 ·try simp only[SS,Nat.reduceEqDiff,reduceCtorEq, ↓reduceIte]
  exact out (-1) _ _ _ _ J rfl x1 (an h0) (an h1) (an h2) Y (.inl ⟨al,hat⟩)
 ·try simp only[SS,Nat.reduceEqDiff,reduceCtorEq, ↓reduceIte]
  exact out (j:Nat) _ _ _ _ J rfl x1 (an h0) (an h1) (an h2) Y (.inr ⟨j,rfl,hat⟩)
