import Derived.Test.YtofanlcjeohcjaaIMg19
noncomputable section
namespace Go.Proofs.Ytofanlcjeohcjaa.Am
open Go.RowKit
def DZ:Nat:=Ar Try.f54
abbrev Eg_:Nat:=30
def SQ:Code:=Try.f54.body.getD .skip
theorem PN:envS.fn.get 54=some Try.f54:=by kernel_rfl
theorem Om_:G1 envS 54 30 DZ SQ:=λh=>
 aM PN (h _ (by kernel_rfl))
theorem Bf_:Try.f54.results.toList=[.tmp 2]:=by kernel_rfl
def Kg_:List Item:=skim 64 [.code SQ]
def KL_:=nx Kg_
def T1:=nx KL_
def Ja:=nx T1
def Mx:=nx Ja
def CY_:=bt Mx
def Na:=bf Mx
def S3:=nx CY_
def Ll_:=nx Na
theorem AjX_:skim 64 S3.tail=Ja:=by kernel_rfl
def WX:Rg:=λE call round tm=>
 mv (some (.bool false)) λv2=>
 setF 2 v2 tm λtm1=>
 M.pure tm1
theorem AkC_:RegEq 54 30 DZ Kg_ WX:={}
def Du_:Rg:=λE call round tm=>
 mv (some (.int .i64 0)) λv3=>
 setF 3 v3 tm λtm1=>
 M.pure tm1
theorem Xi_:RegEq 54 30 DZ KL_ Du_:={}
def W7:Rg:=λE call round tm=>
 mv (some (.int .i64 0)) λv4=>
 setF 4 v4 tm λtm1=>
 M.pure tm1
theorem Afk_:RegEq 54 30 DZ T1 W7:={}
def Nn:Rg:=λE call round tm=>
 mv (T.get tm 4) λv5=>
 mv (T.get tm 0) λv6=>
 lN E .len [75] [(some v6)] λv7=>
 bI E .lss 3 (.tmp 5) (.tmp 7) (some v5) (some v7) λv8=>
 mv (some v8) λv9=>
 sK v9 true (oS (T.get tm 4) λa=>M.pure a) λv10=>
 sK v9 true (oS (some v10) λa=>oS (some (.int .i64 31)) λb=>Cl.get (aBin E .lss 3 (.tmp 10) (.const (.int .i64 31))) a b) λv11=>
 M.bind (M.on (some v9) λa=>M.on (some v11) λb=>M.on (some (.bool false)) λc=>A3 a b c) λv12=>
 setF 12 v12 tm λtm1=>
 M.pure tm1
theorem Up:RegEq 54 30 DZ Ja Nn:={}
theorem O4:Ah Mx=some 12:=by kernel_rfl
def ZT:Rg:=λE call round tm=>
 mv (T.get tm 3) λv15=>
 mv (T.get tm 0) λv16=>
 mv (T.get tm 4) λv17=>
 iD E 75 (some v16) (some v17) λv18=>
 fD E 78 1 (some v18) λv19=>
 lD E 22 (some v19) λv20=>
 lN E .len [22] [(some v20)] λv21=>
 bI E .add 3 (.tmp 15) (.tmp 21) (some v15) (some v21) λv22=>
 mv (some v22) λv3=>
 setF 3 v3 tm λtm1=>
 M.pure tm1
theorem Ahk_:RegEq 54 30 DZ CY_ ZT:={}
def Jt_:Rg:=λE call round tm=>
 mv (T.get tm 0) λv23=>
 lN E .len [75] [(some v23)] λv24=>
 bI E .gtr 3 (.tmp 24) (.const (.int .i64 30)) (some v24) (some (.int .i64 30)) λv25=>
 mv (some v25) λv26=>
 sK v26 false (oS (T.get tm 3) λa=>M.pure a) λv27=>
 sK v26 false (oS (some v27) λa=>oS (some (.int .i64 6000)) λb=>Cl.get (aBin E .gtr 3 (.tmp 27) (.const (.int .i64 6000))) a b) λv28=>
 M.bind (M.on (some v26) λa=>M.on (some (.bool true)) λb=>M.on (some v28) λc=>A3 a b c) λv29=>
 mv (some v29) λv2=>
 setF 2 v2 tm λtm1=>
 M.pure tm1
theorem Acz_:RegEq 54 30 DZ Na Jt_:={}
def IE_:Rg:=λE call round tm=>
 mv (T.get tm 4) λv13=>
 bI E .add 3 (.tmp 13) (.const (.int .i64 1)) (some v13) (some (.int .i64 1)) λv14=>
 mv (some v14) λv4=>
 setF 4 v4 tm λtm1=>
 M.pure tm1
theorem QN_:RegEq 54 30 DZ S3 IE_:={}
theorem Dc_: ∃k,Ll_= .code .ret::k:=⟨Ll_.tail,by kernel_rfl⟩
def BL:Nat:=Ar Try.f55
abbrev ZR:Nat:=77
def Eo_:Code:=Try.f55.body.getD .skip
theorem TD:envS.fn.get 55=some Try.f55:=by kernel_rfl
theorem VB_:G2 envS 55 77 BL Eo_:=λh=>
 aM TD (h _ (by kernel_rfl) (by kernel_rfl))
theorem AaQ_:Try.f55.results.toList=[.tmp 4, .tmp 5]:=by kernel_rfl
def Yq:List Item:=skim 64 [.code Eo_]
def Ht_:=nx Yq
def FQ_:=nx Ht_
def Dm_:=nx FQ_
def Vc:=nx Dm_
def L7:=nx Vc
def O5:=nx L7
def EW_:=bt O5
def CM_:=bf O5
def YH:=nx EW_
def KT_:=nx CM_
def Pn:=nx YH
def It:=bt Pn
def SX:=bf Pn
theorem Zc_:skim 64 It.tail=L7:=by kernel_rfl
def XE:=nx SX
def XQ:=nx XE
def Q8:=nx XQ
def W0:=bt Q8
def Kh_:=bf Q8
def GL_:=nx W0
def Jn_:=nx Kh_
def UU:=nx GL_
def Ad_:=nx Jn_
theorem ZV_:skim 64 UU.tail=It:=by kernel_rfl
theorem AcR_:skim 64 Ad_.tail=It:=by kernel_rfl
def DC_:Rg:=λE call round tm=>
 mv (some (.slice none 0 0)) λv4=>
 setF 4 v4 tm λtm1=>
 mv (some (.slice none 0 0)) λv5=>
 setF 5 v5 tm1 λtm2=>
 M.pure tm2
theorem YW_:RegEq 55 77 BL Yq DC_:={}
def Uv:Rg:=λE call round tm=>
 mv (some (.slice none 0 0)) λv6=>
 setF 6 v6 tm λtm1=>
 M.pure tm1
theorem Oo_:RegEq 55 77 BL Ht_ Uv:={}
def Ve:Rg:=λE call round tm=>
 mv (some (.slice none 0 0)) λv7=>
 setF 7 v7 tm λtm1=>
 M.pure tm1
theorem AiE_:RegEq 55 77 BL FQ_ Ve:={}
def DD_:Rg:=λE call round tm=>
 mv (some (.int .i64 0)) λv8=>
 setF 8 v8 tm λtm1=>
 M.pure tm1
theorem Tz_:RegEq 55 77 BL Dm_ DD_:={}
def SM:Rg:=λE call round tm=>
 mv (T.get tm 1) λv17=>
 setF 17 v17 tm λtm1=>
 lN E .len [75] [(some v17)] λv18=>
 setF 18 v18 tm1 λtm2=>
 mv (some (.int .i64 0)) λv19=>
 setF 19 v19 tm2 λtm3=>
 M.pure tm3
theorem AeZ_:RegEq 55 77 BL Vc SM:={}
def Qq:Rg:=λE call round tm=>
 bI E .lss 3 (.tmp 19) (.tmp 18) (T.get tm 19) (T.get tm 18) λv20=>
 setF 20 v20 tm λtm1=>
 M.pure tm1
theorem Ux:RegEq 55 77 BL L7 Qq:={}
theorem HK_:Ah O5=some 20:=by kernel_rfl
def LL_:Rg:=λE call round tm=>
 iD E 75 (T.get tm 17) (T.get tm 19) λv21=>
 lD E 78 (some v21) λv22=>
 M.bind (AI E 78) λv10=>
 setF 10 v10 tm λtm1=>
 M.bind (oS (some v10) λa=>oS (some v22) λb=>Ao E 78 a b) λ_=>
 M.pure tm1
theorem QH_:RegEq 55 77 BL EW_ LL_:={}
def Zq:Rg:=λE call round tm=>
 mv (T.get tm 6) λv75=>
 mv (T.get tm 7) λv76=>
 mv (some v75) λv4=>
 setF 4 v4 tm λtm1=>
 mv (some v76) λv5=>
 setF 5 v5 tm1 λtm2=>
 M.pure tm2
theorem RT_:RegEq 55 77 BL CM_ Zq:={}
def BF_:Rg:=λE call round tm=>
 fD E 78 0 (T.get tm 10) λv23=>
 lD E 3 (some v23) λv24=>
 mv (T.get tm 8) λv25=>
 bI E .leq 3 (.tmp 24) (.tmp 25) (some v24) (some v25) λv26=>
 mv (some v26) λv27=>
 sK v27 false (oS (T.get tm 10) λa=>kFld E 78 a 0) λv28=>
 sK v27 false (oS (some v28) λa=>A5 E 3 a) λv29=>
 sK v27 false (oS (some v29) λa=>oS (some (.int .i64 999999)) λb=>Cl.get (aBin E .gtr 3 (.tmp 29) (.const (.int .i64 999999))) a b) λv30=>
 M.bind (M.on (some v27) λa=>M.on (some (.bool true)) λb=>M.on (some v30) λc=>A3 a b c) λv31=>
 setF 31 v31 tm λtm1=>
 M.pure tm1
theorem Abw_:RegEq 55 77 BL YH BF_:={}
theorem Sd_: ∃k,KT_= .code .ret::k:=⟨KT_.tail,by kernel_rfl⟩
theorem MP:Ah Pn=some 31:=by kernel_rfl
def Hk_:Rg:=λE call round tm=>
 bI E .add 3 (.tmp 19) (.const (.int .i64 1)) (T.get tm 19) (some (.int .i64 1)) λv74=>
 mv (some v74) λv19=>
 setF 19 v19 tm λtm1=>
 M.pure tm1
theorem Vz_:RegEq 55 77 BL It Hk_:={}
def Lh_:Rg:=λE call round tm=>
 fD E 78 0 (T.get tm 10) λv32=>
 lD E 3 (some v32) λv33=>
 mv (some v33) λv8=>
 setF 8 v8 tm λtm1=>
 M.pure tm1
theorem Xb_:RegEq 55 77 BL SX Lh_:={}
def UZ:Rg:=λE call round tm=>
 mv (T.get tm 0) λv34=>
 M.bind (oS (seqO []) λa=>oS (seqO [(T.get tm 10)]) λb=>M.pure (.func (.func 102) a.toArray b.toArray)) λv35=>
 cN call round 101 [(some v34),(some v35)] λv36=>
 mv (some v36) λv11=>
 setF 11 v11 tm λtm1=>
 M.pure tm1
theorem Yg_:RegEq 55 77 BL XE UZ:={}
def SF:Rg:=λE call round tm=>
 mv (T.get tm 11) λv37=>
 bI E .geq 3 (.tmp 37) (.const (.int .i64 0)) (some v37) (some (.int .i64 0)) λv38=>
 setF 38 v38 tm λtm1=>
 M.pure tm1
theorem Aia_:RegEq 55 77 BL XQ SF:={}
theorem Hc_:Ah Q8=some 38:=by kernel_rfl
def Xr:Rg:=λE call round tm=>
 mv (T.get tm 0) λv39=>
 mv (T.get tm 11) λv40=>
 iD E 55 (some v39) (some v40) λv41=>
 lD E 85 (some v41) λv42=>
 M.bind (AI E 85) λv12=>
 setF 12 v12 tm λtm1=>
 M.bind (oS (some v12) λa=>oS (some v42) λb=>Ao E 85 a b) λ_=>
 M.pure tm1
theorem Aal_:RegEq 55 77 BL W0 Xr:={}
def Wn:Rg:=λE call round tm=>
 fD E 78 1 (T.get tm 10) λv52=>
 lD E 22 (some v52) λv53=>
 cN call round 24 [(some v53)] λv54=>
 mv (some v54) λv51=>
 eX 0 (some v51) λv55=>
 eX 1 (some v51) λv56=>
 eX 2 (some v51) λv57=>
 eX 3 (some v51) λv58=>
 mv (some v55) λv13=>
 setF 13 v13 tm λtm1=>
 mv (some v56) λv14=>
 mv (some v57) λv15=>
 mv (some v58) λv16=>
 M.pure tm1
theorem AkJ_:RegEq 55 77 BL Kh_ Wn:={}
def JJ_:Rg:=λE call round tm=>
 fD E 85 2 (T.get tm 12) λv43=>
 lD E 36 (some v43) λv44=>
 cN call round 103 [(some v44)] λv45=>
 fD E 85 2 (T.get tm 12) λv46=>
 M.bind (oS (some v46) λa=>oS (some v45) λb=>Ao E 36 a b) λ_=>
 M.pure tm
theorem Aap_:RegEq 55 77 BL GL_ JJ_:={}
def Dd_:Rg:=λE call round tm=>
 mv (T.get tm 6) λv59=>
 fD E 78 0 (T.get tm 10) λv60=>
 lD E 3 (some v60) λv61=>
 fD E 78 1 (T.get tm 10) λv62=>
 lD E 22 (some v62) λv63=>
 lN E .len [22] [(some v63)] λv64=>
 mv (T.get tm 13) λv65=>
 M.bind (oS (seqP [(0,(some v61)),(1,(some v64)),(2,(some v65))]) λps=>Bj E 85 ps) λv66=>
 M.bind (oS (seqP [(0,(some v66))]) λps=>AU E 55 1 ps) λv67=>
 lN E .append [55,55] [(some v59),(some v67)] λv68=>
 mv (some v68) λv6=>
 setF 6 v6 tm λtm1=>
 M.pure tm1
theorem AhV_:RegEq 55 77 BL Jn_ Dd_:={}
def Wo:Rg:=λE call round tm=>
 mv (T.get tm 6) λv47=>
 lD E 85 (T.get tm 12) λv48=>
 M.bind (oS (seqP [(0,(some v48))]) λps=>AU E 55 1 ps) λv49=>
 lN E .append [55,55] [(some v47),(some v49)] λv50=>
 mv (some v50) λv6=>
 setF 6 v6 tm λtm1=>
 M.pure tm1
theorem AaX_:RegEq 55 77 BL UU Wo:={}
def YO:Rg:=λE call round tm=>
 mv (T.get tm 7) λv69=>
 fD E 78 0 (T.get tm 10) λv70=>
 lD E 3 (some v70) λv71=>
 M.bind (oS (seqP [(0,(some v71))]) λps=>AU E 44 1 ps) λv72=>
 lN E .append [44,44] [(some v69),(some v72)] λv73=>
 mv (some v73) λv7=>
 setF 7 v7 tm λtm1=>
 M.pure tm1
theorem Aka_:RegEq 55 77 BL Ad_ YO:={}
def KR:Nat:=Ar Try.f102
abbrev Aac_:Nat:=17
def Yz:Code:=Try.f102.body.getD .skip
theorem IV_:envS.fn.get 102=some Try.f102:=by kernel_rfl
theorem TY_:G2 envS 102 17 KR Yz:=λh=>
 aM IV_ (h _ (by kernel_rfl) (by kernel_rfl))
theorem Abb_:Try.f102.results.toList=[.tmp 3]:=by kernel_rfl
def DV_:List Item:=skim 64 [.code Yz]
def QI:=nx DV_
def IM_:=nx QI
def FG_:Rg:=λE call round tm=>
 M.bind (oS (T.get tm 0) λa=>kBox a) λv2=>
 setF 2 v2 tm λtm1=>
 mv (some (.bool false)) λv3=>
 setF 3 v3 tm1 λtm2=>
 M.pure tm2
theorem Sw_:RegEq 102 17 KR DV_ FG_:={}
def XA:Rg:=λE call round tm=>
 fD E 85 0 (T.get tm 2) λv4=>
 lD E 3 (some v4) λv5=>
 fD E 78 0 (T.get tm 1) λv6=>
 lD E 3 (some v6) λv7=>
 bI E .eql 3 (.tmp 5) (.tmp 7) (some v5) (some v7) λv8=>
 mv (some v8) λv9=>
 sK v9 true (oS (T.get tm 2) λa=>kFld E 85 a 1) λv10=>
 sK v9 true (oS (some v10) λa=>A5 E 3 a) λv11=>
 sK v9 true (oS (T.get tm 1) λa=>kFld E 78 a 1) λv12=>
 sK v9 true (oS (some v12) λa=>A5 E 22 a) λv13=>
 sK v9 true (oS (seqO [(some v13)]) λl=>AS E .len [22] l) λv14=>
 sK v9 true (oS (some v11) λa=>oS (some v14) λb=>Cl.get (aBin E .eql 3 (.tmp 11) (.tmp 14)) a b) λv15=>
 M.bind (M.on (some v9) λa=>M.on (some v15) λb=>M.on (some (.bool false)) λc=>A3 a b c) λv16=>
 mv (some v16) λv3=>
 setF 3 v3 tm λtm1=>
 M.pure tm1
theorem Adk_:RegEq 102 17 KR QI XA:={}
theorem Wt_: ∃k,IM_= .code .ret::k:=⟨IM_.tail,by kernel_rfl⟩
def DR:Nat:=Ar Try.f101
abbrev Ahn_:Nat:=19
def JH_:Code:=Try.f101.body.getD .skip
theorem Nh:envS.fn.get 101=some Try.f101:=by kernel_rfl
theorem SP_:G2 envS 101 19 DR JH_:=λh=>
 aM Nh (h _ (by kernel_rfl) (by kernel_rfl))
theorem AZ_:Try.f101.results.toList=[.tmp 4]:=by kernel_rfl
def Nx_:List Item:=skim 64 [.code JH_]
def Wp:=nx Nx_
def Lo:=nx Wp
def Q9:=nx Lo
def JK_:=bt Q9
def Jl_:=bf Q9
def Cz_:=nx JK_
def Z7:=nx Jl_
def Mk:=nx Cz_
def Kr_:=bt Mk
def Tp:=bf Mk
def Z6:=nx Kr_
theorem QG_:skim 64 Tp.tail=Lo:=by kernel_rfl
def LB_:Rg:=λE call round tm=>
 mv (some (.int .i64 0)) λv4=>
 setF 4 v4 tm λtm1=>
 M.pure tm1
theorem Rb_:RegEq 101 19 DR Nx_ LB_:={}
def JT_:Rg:=λE call round tm=>
 mv (T.get tm 0) λv6=>
 lN E .len [55] [(some v6)] λv7=>
 setF 7 v7 tm λtm1=>
 mv (some (.int .i64 0)) λv8=>
 setF 8 v8 tm1 λtm2=>
 M.pure tm2
theorem Aig_:RegEq 101 19 DR Wp JT_:={}
def Ru:Rg:=λE call round tm=>
 bI E .lss 3 (.tmp 8) (.tmp 7) (T.get tm 8) (T.get tm 7) λv9=>
 setF 9 v9 tm λtm1=>
 M.pure tm1
theorem Uz:RegEq 101 19 DR Lo Ru:={}
theorem Ga_:Ah Q9=some 9:=by kernel_rfl
def VJ:Rg:=λE call round tm=>
 mv (T.get tm 8) λv10=>
 mv (some v10) λv5=>
 setF 5 v5 tm λtm1=>
 M.pure tm1
theorem Yd_:RegEq 101 19 DR JK_ VJ:={}
def Bw_:Rg:=λE call round tm=>
 mv (some (.int .i64 (-1))) λv4=>
 setF 4 v4 tm λtm1=>
 M.pure tm1
theorem VK_:RegEq 101 19 DR Jl_ Bw_:={}
def Ct_:Rg:=λE call round tm=>
 mv (T.get tm 1) λv11=>
 mv (T.get tm 0) λv12=>
 mv (T.get tm 5) λv13=>
 iD E 55 (some v12) (some v13) λv14=>
 lD E 85 (some v14) λv15=>
 M.bind (M.on (some v11) λf=>M.on (seqO [(some v15)]) λl=>Bk call round f l) λv16=>
 setF 16 v16 tm λtm1=>
 M.pure tm1
theorem AfW_:RegEq 101 19 DR Cz_ Ct_:={}
theorem Sz_: ∃k,Z7= .code .ret::k:=⟨Z7.tail,by kernel_rfl⟩
theorem KZ_:Ah Mk=some 16:=by kernel_rfl
def Yc:Rg:=λE call round tm=>
 mv (T.get tm 5) λv17=>
 mv (some v17) λv4=>
 setF 4 v4 tm λtm1=>
 M.pure tm1
theorem Yy_:RegEq 101 19 DR Kr_ Yc:={}
def Hx_:Rg:=λE call round tm=>
 bI E .add 3 (.tmp 8) (.const (.int .i64 1)) (T.get tm 8) (some (.int .i64 1)) λv18=>
 mv (some v18) λv8=>
 setF 8 v8 tm λtm1=>
 M.pure tm1
theorem AcW_:RegEq 101 19 DR Tp Hx_:={}
theorem Xg_: ∃k,Z6= .code .ret::k:=⟨Z6.tail,by kernel_rfl⟩
def HD:Nat:=Ar Try.f103
def Nd_:Code:=Try.f103.body.getD .skip
theorem Rr:envS.fn.get 103=some Try.f103:=by kernel_rfl
theorem AhX_:G1 envS 103 8 HD Nd_:=λh=>
 aM Rr (h _ (by kernel_rfl))
theorem Y9:Try.f103.results.toList=[.tmp 2]:=by kernel_rfl
def Zs:List Item:=skim 64 [.code Nd_]
def HS_:=nx Zs
def M5:=nx HS_
def XU:=bt M5
def Mp_:=bf M5
def KC_:=nx XU
def HU_:=nx Mp_
def DP_:Rg:=λE call round tm=>
 mv (some (.slice none 0 0)) λv2=>
 setF 2 v2 tm λtm1=>
 M.pure tm1
theorem XN_:RegEq 103 8 HD Zs DP_:={}
def L8:Rg:=λE call round tm=>
 mv (T.get tm 0) λv3=>
 bI E .eql 36 (.tmp 3) (.const (.slice none 0 0)) (some v3) (some (.slice none 0 0)) λv4=>
 setF 4 v4 tm λtm1=>
 M.pure tm1
theorem XC_:RegEq 103 8 HD HS_ L8:={}
theorem Gn_:Ah M5=some 4:=by kernel_rfl
def Mj_:Rg:=λE call round tm=>
 mv (some (.slice none 0 0)) λv2=>
 setF 2 v2 tm λtm1=>
 M.pure tm1
theorem AgN_:RegEq 103 8 HD XU Mj_:={}
def JE_:Rg:=λE call round tm=>
 M.bind (oS (seqP []) λps=>AU E 36 0 ps) λv5=>
 mv (T.get tm 0) λv6=>
 lN E .append [36,36] [(some v5),(some v6)] λv7=>
 mv (some v7) λv2=>
 setF 2 v2 tm λtm1=>
 M.pure tm1
theorem AaH_:RegEq 103 8 HD Mp_ JE_:={}
theorem Oz_: ∃k,KC_= .code .ret::k:=⟨KC_.tail,by kernel_rfl⟩
theorem Aao_: ∃k,HU_= .code .ret::k:=⟨HU_.tail,by kernel_rfl⟩
def DN:Nat:=Ar Try.f45
abbrev Ako_:Nat:=55
def Au_:Code:=Try.f45.body.getD .skip
theorem Nc_:envS.fn.get 45=some Try.f45:=by kernel_rfl
theorem Vx_:G2 envS 45 55 DN Au_:=λh=>
 aM Nc_ (h _ (by kernel_rfl) (by kernel_rfl))
theorem Ahb_:Try.f45.results.toList=[.tmp 4]:=by kernel_rfl
def ID_:List Item:=skim 64 [.code Au_]
def VP:=nx ID_
def W6:=nx VP
def We:=bf W6
def KM:=nx We
def M1:=nx KM
def MW:=bt M1
def FB_:=bf M1
def Ue:=nx MW
def LW_:=nx FB_
def Mr_:=bf Ue
theorem AcV_:skim 64 Mr_.tail=KM:=by kernel_rfl
def Am_:Rg:=λE call round tm=>
 mv (some (.bool false)) λv4=>
 setF 4 v4 tm λtm1=>
 M.pure tm1
theorem Vv_:RegEq 45 55 DN ID_ Am_:={}
def Ld_:Rg:=λE call round tm=>
 mv (T.get tm 0) λv6=>
 lN E .len [55] [(some v6)] λv7=>
 mv (T.get tm 1) λv8=>
 lN E .len [55] [(some v8)] λv9=>
 bI E .neq 3 (.tmp 7) (.tmp 9) (some v7) (some v9) λv10=>
 setF 10 v10 tm λtm1=>
 M.pure tm1
theorem Agj_:RegEq 45 55 DN VP Ld_:={}
theorem Alk_:Ah W6=some 10:=by kernel_rfl
def Sz:Rg:=λE call round tm=>
 mv (some (.int .i64 0)) λv5=>
 setF 5 v5 tm λtm1=>
 M.pure tm1
theorem AlW_:RegEq 45 55 DN We Sz:={}
def NP:Rg:=λE call round tm=>
 mv (T.get tm 5) λv11=>
 mv (T.get tm 0) λv12=>
 lN E .len [55] [(some v12)] λv13=>
 bI E .lss 3 (.tmp 11) (.tmp 13) (some v11) (some v13) λv14=>
 setF 14 v14 tm λtm1=>
 M.pure tm1
theorem YA:RegEq 45 55 DN KM NP:={}
theorem X4:Ah M1=some 14:=by kernel_rfl
def FV_:Rd:=λE call round tm=>
 PD (T.get tm 0) λp0=>
 PD (T.get tm 5) λp1=>
 ID E 55 (some p0.1) (some p1.1) λp2=>
 FD E 85 0 (some p2.1) λp3=>
 LD E 3 (some p3.1) λp4=>
 PD (T.get tm 1) λp5=>
 PD (T.get tm 5) λp6=>
 ID E 55 (some p5.1) (some p6.1) λp7=>
 FD E 85 0 (some p7.1) λp8=>
 LD E 3 (some p8.1) λp9=>
 BI E .neq 3 (.tmp 21) (.tmp 26) (some p4.1) (some p9.1) λp10=>
 PD (some p10.1) λp11=>
 SK p11.1 false (oS (T.get tm 0) λa=>M.pure a) λp12=>
 SK p11.1 false (oS (T.get tm 5) λa=>M.pure a) λp13=>
 SK p11.1 false (oS (some p12.1) λa=>oS (some p13.1) λb=>BE E 55 a b) λp14=>
 SK p11.1 false (oS (some p14.1) λa=>kFld E 85 a 1) λp15=>
 SK p11.1 false (oS (some p15.1) λa=>A5 E 3 a) λp16=>
 SK p11.1 false (oS (T.get tm 1) λa=>M.pure a) λp17=>
 SK p11.1 false (oS (T.get tm 5) λa=>M.pure a) λp18=>
 SK p11.1 false (oS (some p17.1) λa=>oS (some p18.1) λb=>BE E 55 a b) λp19=>
 SK p11.1 false (oS (some p19.1) λa=>kFld E 85 a 1) λp20=>
 SK p11.1 false (oS (some p20.1) λa=>A5 E 3 a) λp21=>
 SK p11.1 false (oS (some p16.1) λa=>oS (some p21.1) λb=>Cl.get (aBin E .neq 3 (.tmp 33) (.tmp 38)) a b) λp22=>
 M.bind (apartO (M.on (some p11.1) λa=>M.on (some (.bool true)) λb=>M.on (some p22.1) λc=>A3 a b c)) λp23=>
 PD (some p23.1) λp24=>
 SK p24.1 false (oS (T.get tm 0) λa=>M.pure a) λp25=>
 SK p24.1 false (oS (T.get tm 5) λa=>M.pure a) λp26=>
 SK p24.1 false (oS (some p25.1) λa=>oS (some p26.1) λb=>BE E 55 a b) λp27=>
 SK p24.1 false (oS (some p27.1) λa=>kFld E 85 a 2) λp28=>
 SK p24.1 false (oS (some p28.1) λa=>A5 E 36 a) λp29=>
 SK p24.1 false (oS (T.get tm 1) λa=>M.pure a) λp30=>
 SK p24.1 false (oS (T.get tm 5) λa=>M.pure a) λp31=>
 SK p24.1 false (oS (some p30.1) λa=>oS (some p31.1) λb=>BE E 55 a b) λp32=>
 SK p24.1 false (oS (some p32.1) λa=>kFld E 85 a 2) λp33=>
 SK p24.1 false (oS (some p33.1) λa=>A5 E 36 a) λp34=>
 SK p24.1 false (M.on (some (.func (.func 26) #[] #[])) λf=>M.on (seqO [(some p29.1),(some p34.1)]) λl=>Bk call round f l) λp35=>
 SK p24.1 false (oS (some p35.1) λa=>kUn E.P .not a) λp36=>
 fJ [p36,p35,p34,p33,p32,p31,p30,p29,p28,p27,p26,p25,p24,p23,p22,p21,p20,p19,p18,p17,p16,p15,p14,p13,p12,p11,p10,p9,p8,p7,p6,p5,p4,p3,p2,p1,p0] tm
theorem Alq_:DrawEq 45 55 DN MW [0,0,3,7,15,0,0,96,224,480,1023,2047,4095,4095,16383,32767,65535,4095,4095,397311,921599,1970175,4194303,8388607,16777215,33554431,33554431,134217727,268435455,536870911,33554431,33554431,3254779903,7549747199,16139681791,34359738367,68719476735,137438953471] FV_:={}
theorem Aef_ (E:Env)(call round:Ac)(x17 x18 x19 x20 x21 x22 x23 x24 x25 x26 x27 x28 x29 x30 x31 x32 x33 x34 x35 x36 x37 x38 x39 x40 x41 x42 x43 x44 x45 x46 x47 x48 x49 x50 x51 x52 x53:Value)(tm:T Value)(s:St):AH call round (A7 E DN 55 (hdC MW)) [x53,x52,x51,x50,x49,x48,x47,x46,x45,x44,x43,x42,x41,x40,x39,x38,x37,x36,x35,x34,x33,x32,x31,x30,x29,x28,x27,x26,x25,x24,x23,x22,x21,x20,x19,x18,x17] tm s=(M.bind (M.on (some x41) λa=>M.on (some (.bool true)) λb=>M.on (some x53) λc=>A3 a b c) λv54=>setT 54 v54 tm λtm1=>M.pure tm1) s:=by kernel_rfl
def Kl_:Rg:=λE call round tm=>
 mv (some (.bool true)) λv4=>
 setF 4 v4 tm λtm1=>
 M.pure tm1
theorem Aej_:RegEq 45 55 DN FB_ Kl_:={}
theorem Aaz_:Ah Ue=some 54:=by kernel_rfl
theorem AiH_: ∃k,LW_= .code .ret::k:=⟨LW_.tail,by kernel_rfl⟩
def SO:Rg:=λE call round tm=>
 mv (T.get tm 5) λv15=>
 bI E .add 3 (.tmp 15) (.const (.int .i64 1)) (some v15) (some (.int .i64 1)) λv16=>
 mv (some v16) λv5=>
 setF 5 v5 tm λtm1=>
 M.pure tm1
theorem TO_:RegEq 45 55 DN Mr_ SO:={}
def PkI.key (p:PkI):Int×Int×List HdI:=(p.num,p.size,p.hs)
section
variable {va vb:Value}{ps qs:List PkI}{Q:Value×FrameMode->St->Prop}{s0:St}
theorem Va_ (hb0:s0.lim<=s0.next)(ha:PkR s0 va ps)(hb:PkR s0 vb qs)(he:ps.map PkI.key=qs.map PkI.key)(hz: ∀p∈ps,p.hs.length<=1000000000)(hps:ps.length<=1000000000)(hcx:s0.cx=cxN){N:Nat}(hN: ∀p∈ps,p.hs.length<=N)(q: ∀s1,Ext Any Non s0 s1->Q (.bool true, .run) s1):
  ∀(k i n:Nat) (tm:T Value) (s:St) (td:List Item),i+k=ps.length->7*N+10*k+100<=n->skim 64 td=KM->Ext Any Non s0 s->
  T.get tm 0=some va->T.get tm 1=some vb->T.get tm 5=some (.int .i64 (i:Nat))->
  W (runF envS n ⟨45,Ako_,DN,tm,td, .run, .normal,none⟩) s Q:=by
 have hlen:ps.length=qs.length:=by
  have:=congrArg List.length he
  simpa using this
 intro k
 induction k with
 |zero=>
  intro i n tm s td hi hn hT hx h0 h1 h5
  refine YA.u ?_ hT
  simp only[NP,RR,SS,h0,h5]
  rw[ha.len]
  try simp only[Ak]
  refine aH X4 ?_
  refine Aej_.u ?_
  simp only[Kl_,RR,SS]
  refine aF (rs:=[4]) (vs:=[.bool true]) rfl (.inl AiH_) (by omega) Nc_ Ahb_ (hx.cx.trans hcx) (by simp[T.get_set]) ?_
  exact q s hx
 |succ k ih=>
  intro i n tm s td hi hn hT hx h0 h1 h5
  have hil:i<ps.length:=by omega
  have hil2:i<qs.length:=by omega
  have hk:ps[i].key=qs[i].key:=by
   have:=congrArg (λl=>l[i]?) he
   simpa [hil,hil2]using this
  obtain⟨k1,k2,k3⟩:ps[i].num=qs[i].num/\ps[i].size=qs[i].size/\ps[i].hs=qs[i].hs:=by
   unfold PkI.key at hk
   simp only[Prod.mk.injEq]at hk
   exact hk
  obtain⟨ba,oa,ca,ea,ga,gha,g16,_,_⟩:=(ha.ext0 hx).at hil
  obtain⟨bb,ob,cb,eb,gb,ghb,_,_,_⟩:=(hb.ext0 hx).at hil2
  have hzi:=hz _ (List.getElem_mem hil)
  have hNi:=hN _ (List.getElem_mem hil)
  refine YA.u ?_ hT
  simp only[NP,RR,SS,h0,h5]
  rw[ha.len]
  try simp only[Ak]
  refine aI X4 ?_
  refine Alq_.u ?_
  have a0:At (dSt s.mem s.next) ba (oa+i*3+0) (.int .i64 ps[i].num):=(ga 0 _ rfl).same rfl rfl
  have a1:At (dSt s.mem s.next) ba (oa+i*3+1) (.int .i64 ps[i].size):=(ga 1 _ rfl).same rfl rfl
  have a2:At (dSt s.mem s.next) ba (oa+i*3+2) ps[i].v:=(ga 2 _ rfl).same rfl rfl
  have b0:At (dSt s.mem s.next) bb (ob+i*3+0) (.int .i64 ps[i].num):=by rw[k1];exact(gb 0 _ rfl).same rfl rfl
  have b1:At (dSt s.mem s.next) bb (ob+i*3+1) (.int .i64 ps[i].size):=by rw[k2];exact(gb 1 _ rfl).same rfl rfl
  have b2:At (dSt s.mem s.next) bb (ob+i*3+2) qs[i].v:=(gb 2 _ rfl).same rfl rfl
  have eqn: ∀x:Int,(!decide (x=x))=false:=λx=>by simp
  simp only[FV_,RR,T.get_set,Nat.reduceEqDiff, ↓reduceIte,h0,h1,h5,ea,eb,AJ,Cw,B5,B8,BU,DW,Ag]
  rw[W_dq λs Q=>AL (s:=s) Bv hil Q]
  rw[W_dq λs Q=>Au (s:=s) Lq (by decide) Q]
  refine aC AT a0 λrd4 hr4=> ?_
  simp only[Ag]
  rw[W_dq λs Q=>AL (s:=s) Bv hil2 Q]
  rw[W_dq λs Q=>Au (s:=s) Lq (by decide) Q]
  refine aC AT b0 λrd9 hr9=> ?_
  rw[W_dq λs Q=>CQ (s:=s) _ _,eqn]
  simp only[Ag,Cs,El,Iz,if_t]
  rw[W_dq λs Q=>AL (s:=s) Bv hil Q]
  rw[W_dq λs Q=>Au (s:=s) Hv (by decide) Q]
  refine aC AT a1 λrd16 hr16=> ?_
  simp only[Ag]
  rw[W_dq λs Q=>AL (s:=s) Bv hil2 Q]
  rw[W_dq λs Q=>Au (s:=s) Hv (by decide) Q]
  refine aC AT b1 λrd21 hr21=> ?_
  rw[W_dq λs Q=>CQ (s:=s) _ _,eqn]
  dsimp only
  rw[W_dq λs Q=>CO (s:=s) _ _ _ _]
  simp only[Bool.false_eq_true,reduceIte,Ag,Cs,El,Iz,if_t]
  rw[W_dq λs Q=>AL (s:=s) Bv hil Q]
  rw[W_dq λs Q=>Au (s:=s) DY (by decide) Q]
  refine aC Cn a2 λrd29 hr29=> ?_
  simp only[Ag]
  rw[W_dq λs Q=>AL (s:=s) Bv hil2 Q]
  rw[W_dq λs Q=>Au (s:=s) DY (by decide) Q]
  refine aC Cn b2 λrd34 hr34=> ?_
  refine aU (WV_ (s:=oSt s.mem s.next) (hs:=ps[i].hs) (Nat.le_refl _) (gha.same rfl rfl) (by rw[k3];exact ghb.same rfl rfl) g16 (by omega) (by omega) λs1 x1 m1 n1=>⟨_,x1,λrd35 hr35=> ?_⟩)
  have m1':s1.mem=s.mem:=m1
  have n1':s1.next=s.next:=n1
  rw[m1',n1']
  rw[W_dq λs Q=>D5 (s:=s) _ _ Q,AK]
  refine⟨CI (by simp) (by simp), ?_⟩
  refine aJ (Aef_ _ _ _ _ _ _ _ _ _ _ _ _ _ _ _ _ _ _ _ _ _ _ _ _ _ _ _ _ _ _ _ _ _ _ _ _ _ _ _ _ _ _) ?_
  simp only[SS,reduceCtorEq, ↓reduceIte,Bool.not_true]
  have hx': ∀(rds wrs:List Nat) (l:List OpLog),(∀m∈l,m.wr=[])->Ext Any Non s0 ⟨(dSt s.mem s.next).mem,(dSt s.mem s.next).next,s.lim,rdsL s.lim l s.rd,wrsL s.lim l s.wr,s.cx⟩:=λrds wrs l hl=>hx.then0 (Ext.draw (F:=Any) (Nat.le_refl _) (λ_ _=>rfl) hl λ_ _ _ _ _=>trivial) hb0
  refine aH Aaz_ ?_
  refine TO_.u ?_
  have ei:=eiW (i:=i) (by omega)
  simp only[SO,RR,SS,Nat.reduceEqDiff, ↓reduceIte,Aw,h5,ei]
  exact ih (i+1) _ _ _ _ (by omega) (by omega) AcV_ (hx' [] [] _ (by simp)) (by simp[T.get_set,h0,ea]) (by simp[T.get_set,h1,eb]) (by simp[T.get_set])
end
theorem Xc {va vb:Value}{ps qs:List PkI}{n N:Nat}{s:St}{Q:Value->St->Prop}(hbd:s.lim<=s.next)(ha:PkR s va ps)(hb:PkR s vb qs)(he:ps.map PkI.key=qs.map PkI.key)(hN: ∀p∈ps,p.hs.length<=N)(hN2:N<=1000000000)(hps:ps.length<=1000000000)(hn:7*N+10*ps.length+200<=n)
  (q: ∀s1,Ext Any Non s s1->Q (.bool true) s1):W (Ab envS (runF envS n) 45 [va,vb]) s Q:=by
 have hlen:ps.length=qs.length:=by
  have:=congrArg List.length he
  simpa using this
 refine Vx_ λtm h0 h1=> ?_
 have ha':PkR (s.cxN cxN) va ps:=ha.same rfl rfl
 have hb':PkR (s.cxN cxN) vb qs:=hb.same rfl rfl
 refine Vv_.u ?_
 simp only[Am_,RR,SS]
 refine Agj_.u ?_
 simp only[Ld_,RR,SS,Nat.reduceEqDiff,reduceCtorEq, ↓reduceIte,h0,h1]
 rw[ha'.len,hb'.len,hlen]
 try simp only[CQ]
 refine aH Alk_ ?_
 refine AlW_.u ?_
 simp only[Sz,RR,SS]
 exact Va_ (s0:=s.cxN cxN) hbd ha' hb' he (λp hp=>Nat.le_trans (hN p hp) hN2) hps rfl hN (λs1 x1=>q _ x1.cx') ps.length 0 _ _ _ _ (by omega) (by omega) rfl (Ext.refl _) (by simp[T.get_set,h0]) (by simp[T.get_set,h1]) (by simp[T.get_set])
theorem Te_ (s:St):Cl.get (aBin envS .eql 36 (.tmp 3) (.const (.slice none 0 0))) (.slice none 0 0) (.slice none 0 0) s= .some (.bool true) s:=by kernel_rfl
theorem EmS.hi {s:St}{hs:List HdI}{v:Value}{b n:Nat}(h:EmS s 18 n (Bw hs) v b)(hn:n=hs.length):HiR s v hs:=by
 subst hn
 obtain⟨c,rfl,r⟩:=h.row
 exact .inr ⟨b,0,c,rfl,r⟩
def HiW (s:St)(v:Value):Prop:=v= .slice none 0 0\/ ∃b o n c,v= .slice (some ⟨b,o,none⟩) n c/\An s b o (n*18)
theorem HiW.ext {F G:Nat->Prop}{s s':St}{v:Value}(h:HiW s v)(e:Ext F G s s')(hG: ∀x,HiF v x-> ¬G x):HiW s' v:=by
 rcases h with h|⟨b,o,n,c,rfl,h⟩
 ·exact .inl h
 ·exact .inr ⟨b,o,n,c,rfl,λj hj=>let ⟨u,hu⟩:=h j hj;⟨u,hu.ext e (hG _ ⟨by show b+o<=b+(o+j);omega,by show b+(o+j)<b+o+n*18;omega⟩)⟩⟩
theorem HiW.ext0 {F:Nat->Prop}{s s':St}{v:Value}(h:HiW s v)(e:Ext F Non s s'):HiW s' v:=h.ext e λ_ _=>id
theorem HiW.same {s s':St}{v:Value}(h:HiW s v)(hm:s'.mem=s.mem)(hn:s'.next=s.next):HiW s' v:=by
 rcases h with h|⟨b,o,n,c,rfl,h⟩
 ·exact .inl h
 ·exact .inr ⟨b,o,n,c,rfl,λj hj=>let ⟨u,hu⟩:=h j hj;⟨u,hu.same hm hn⟩⟩
theorem EmS.hw {s:St}{hs:List HdI}{v:Value}{b n:Nat}(h:EmS s 18 n (Bw hs) v b)(h16: ∀h∈hs,h.1.length=16)(hn:n=hs.length):HiW s v:=by
 subst hn
 rcases h with⟨rfl,h0,_⟩|⟨h,_⟩
 ·exact .inr ⟨b,0,0,0,rfl,λj hj=>absurd hj (by omega)⟩
 ·refine .inr ⟨b,0,_,_,h.val,λj hj=> ?_⟩
  have hl:j<(Bw hs).length:=by rw[D8 h16];exact hj
  exact⟨_,h.own j _ (List.getElem?_eq_getElem hl)⟩
theorem Aek_ {n:Nat}{s:St}{v:Value}{hs:List HdI}{Q:Value->St->Prop}(hbd:s.lim<=s.next)(h:HiR s v hs)(h16: ∀h∈hs,h.1.length=16)(hz:hs.length<=400000)(hn:30<=n)
  (q: ∀s1 w,Ext Any Non s s1->HiR s1 w hs->(∀x,HiF w x->s.next<=x)->HiW s1 w->Q w s1):W (Ab envS (runF envS n) 103 [v]) s Q:=by
 refine AhX_ λtm h0=> ?_
 have hc:HiR (s.cxN cxN) v hs:=h.same rfl rfl
 refine XN_.u ?_
 simp only[DP_,RR,SS]
 refine XC_.u ?_
 rcases hc with⟨rfl,rfl⟩|⟨b,o,c,rfl,hv⟩
 ·simp only[L8,RR,SS,reduceCtorEq, ↓reduceIte,h0]
  rw[AC (Te_ _)]
  refine aI Gn_ ?_
  refine AgN_.u ?_
  simp only[Mj_,RR,SS]
  refine aF (rs:=[2]) (vs:=[.slice none 0 0]) rfl (.inl Oz_) (by omega) Rr Y9 rfl (by simp[T.get_set]) ?_
  exact q _ _ (Ext.refl _) (.inl ⟨rfl,rfl⟩) (λx hx=>hx.elim) (.inl rfl)
 ·simp only[L8,RR,SS,reduceCtorEq, ↓reduceIte,h0,Uq Dg]
  refine aH Gn_ ?_
  refine AaH_.u ?_
  simp only[JE_,RR,SS,reduceCtorEq, ↓reduceIte,h0]
  refine aK (s:=s.cxN cxN) hbd (r:=[]) Ho (by decide) rfl (Az (by decide)) λs1 n1 x1 r1=> ?_
  have hb1:s1.lim<=s1.next:=x1.bnd hbd
  have n1':s1.next=s.next+1:=n1
  have hv1:Row s1 b o (Bw hs):=hv.ext0 x1
  rw[CC]
  refine W.appE (s:=s1) hb1 Gk (len:=0) (old:=[]) (b:=s.next) (.inl ⟨rfl,rfl,rfl⟩) (Ej (n:=hs.length) (c:=c) hv1 (D8 h16)).g (by decide) (by decide) (by omega) (D8 h16) (IX hs) λs2 v2 b2 hb2 e2 x2=> ?_
  have x2':Ext Any Non s1 s2:=x2.weak hb1 (λ_ _ _=>trivial) λy _ h=>absurd h.1 (by omega)
  have xa:=(x1.any hbd).then0 x2' hbd
  have hbs:s.next<=b2:=by rcases hb2 with h|h<;>omega
  rw[List.nil_append,Nat.zero_add]at e2
  refine aF (rs:=[2]) (vs:=[v2]) rfl (.inl Aao_) (by omega) Rr Y9 xa.cx (by simp[T.get_set]) ?_
  have hres:=EmS.hi e2 rfl
  refine q _ _ xa.cx' (hres.same rfl rfl) (λx hx=> ?_) ((e2.hw h16 rfl).same rfl rfl)
  obtain⟨c2,ev2,_⟩:=e2.row
  rw[ev2]at hx
  have h1:b2+0<=x:=hx.1
  omega
theorem Dj:slN envS 75=some 2:=by kernel_rfl
theorem Hf:tyS envS 78=some (2,true):=by kernel_rfl
theorem Nm_:CG envS 78=some [.int .i64 0, .slice none 0 0]:=by kernel_rfl
theorem CV:fldN envS 78 0=some (0,1,false):=by kernel_rfl
theorem DX:fldN envS 78 1=some (1,1,false):=by kernel_rfl
structure FdI where
 num:Int
 v:Value
 l:List Nat
def fdC (f:FdI):List Value:=[.int .i64 f.num,f.v]
def hitP (f:FdI)(p:PkI):Bool:=decide (p.num=f.num)&&decide (p.size=(f.l.length:Nat))
theorem UA_ {n C:Nat}{p:PkI}{f:FdI}{s:St}{Q:Value->St->Prop}(hb:s.lim<=s.next)(hC:Row s C 0 (fdC f))(hB:Bs s f.v f.l)(hn:40<=n)(q: ∀s1,Ext Any Non s s1->Q (.bool (hitP f p)) s1):
  W (Ab envS (runF envS n) 102 [.agg (pkC p).toArray, .pointer (some ⟨C,0,none⟩)]) s Q:=by
 refine TY_ λtm h0 h1=> ?_
 refine Sw_.u ?_
 simp only[FG_,RR,SS,h0]
 refine W.box λsa na xa oa=> ?_
 rw[C2]at oa
 have oa':Aa sa s.next 0 (pkC p):=oa
 have o0:Own sa s.next (0+0) (.int .i64 p.num):=oa' 0 _ rfl
 have o1:Own sa s.next (0+1) (.int .i64 p.size):=oa' 1 _ rfl
 have f0:At sa C (0+0) (.int .i64 f.num):=((hC 0 _ rfl).same (s':=s.cxN cxN) rfl rfl).ext0 xa
 have f1:At sa C (0+1) f.v:=((hC 1 _ rfl).same (s':=s.cxN cxN) rfl rfl).ext0 xa
 have x0:Ext Any Non (s.cxN cxN) sa:=xa.any hb
 refine Adk_.u ?_
 simp only[XA,RR,SS,Nat.reduceEqDiff, ↓reduceIte,h1,Au Lq (by decide)]
 refine aB AT o0.at' ?_
 simp only[Au CV (by decide)]
 refine aB AT (f0.same rfl rfl) ?_
 have x2:=(x0.thenRd hb (s.next+(0+0))).thenRd hb (C+(0+0))
 have fin: ∀(s3:St) (tm3:T Value) (r:Bool),Ext Any Non (s.cxN cxN) s3->T.get tm3 3=some (.bool r)->r=hitP f p->W (runF envS (n-1-1) ⟨102,Aac_,KR,tm3,QI.tail, .run, .normal,none⟩) s3 λp s1=>Q p.1 (s1.cxN s.cx):=λs3 tm3 r x3 hr3 e=>by
  refine aF (rs:=[3]) (vs:=[.bool r]) rfl (.inl Wt_) (by omega) IV_ Abb_ x3.cx (by simp[hr3]) ?_
  rw[e]
  exact q _ x3.cx'
 by_cases c1:p.num=f.num
 ·simp only[SS, ↓reduceIte,Di,c1,decide_true,Au Hv (by decide)]
  refine aB AT (o1.same rfl rfl).at' ?_
  simp only[Au DX (by decide)]
  refine aB BW (f1.same rfl rfl) ?_
  have x4:=(x2.thenRd hb (s.next+(0+1))).thenRd hb (C+(0+1))
  have hB':Bs (s.cxN cxN) f.v f.l:=hB.same rfl rfl
  rw[hB'.len' Al]
  try simp only[Di]
  exact fin _ _ (decide (p.size=(f.l.length:Nat))) x4 (by simp[T.get_set]) (by unfold hitP;rw[decide_eq_true c1,Bool.true_and])
 ·simp only[AK,Cs,Fj,E1,Dr,CO,reduceCtorEq, ↓reduceIte,Di,c1,decide_false]
  exact fin _ _ false x2 (by simp[T.get_set]) (by unfold hitP;rw[decide_eq_false c1,Bool.false_and])
section
variable {v:Value}{ps:List PkI}{Q:Value×FrameMode->St->Prop}{s0:St}
theorem Bo_ {α:Type}{l:List α}{p:α->Bool}{i:Nat}(hi:i<l.length)(h:(l.take i).find? p=none):(l.take (i+1)).find? p=if p l[i]then some l[i]else none:=by
 rw[List.take_succ_eq_append_getElem hi,List.find?_append,h]
 simp[List.find?_cons]
 cases p l[i]<;>rfl
theorem S5 {α:Type}{l:List α}{p:α->Bool}{i:Nat}{x:α}(h:(l.take i).find? p=some x):l.find? p=some x:=by
 have e:l=l.take i++l.drop i:=(List.take_append_drop i l).symm
 rw[e,List.find?_append,h]
 rfl
def Y6 (ps:List PkI)(f:FdI)(r:Int):Prop:=(r= -1/\ps.find? (hitP f)=none)\/ ∃(i:Nat) (h:i<ps.length),r=(i:Nat)/\ps.find? (hitP f)=some ps[i]
theorem Ajl_ {C:Nat}{f:FdI}(hb0:s0.lim<=s0.next)(hr:PkR s0 v ps)(hps:ps.length<=1000000000)(hcx:s0.cx=cxN)(hC:Row s0 C 0 (fdC f))(hB:Bs s0 f.v f.l)
  (q: ∀s1 r,Ext Any Non s0 s1->Y6 ps f r->Q (.int .i64 r, .run) s1):
  ∀(k i n:Nat) (tm:T Value) (s:St) (td:List Item),i+k=ps.length->10*k+100<=n->skim 64 td=Lo->Ext Any Non s0 s->(ps.take i).find? (hitP f)=none->
  T.get tm 0=some v->T.get tm 1=some (.func (.func 102) #[] #[.pointer (some ⟨C,0,none⟩)])->T.get tm 7=some (.int .i64 (ps.length:Nat))->T.get tm 8=some (.int .i64 (i:Nat))->
  W (runF envS n ⟨101,Ahn_,DR,tm,td, .run, .normal,none⟩) s Q:=by
 intro k
 induction k with
 |zero=>
  intro i n tm s td hi hn hT hx ha h0 h1 h7 h8
  refine Uz.u ?_ hT
  simp only[Ru,RR,SS,Ak,h7,h8]
  refine aH Ga_ ?_
  refine VK_.u ?_
  simp only[Bw_,RR,SS]
  refine aF (rs:=[4]) (vs:=[.int .i64 (-1)]) rfl (.inl Sz_) (by omega) Nh AZ_ (hx.cx.trans hcx) (by simp[T.get_set]) ?_
  rw[show i=ps.length by omega,List.take_length]at ha
  exact q s (-1) hx (.inl ⟨rfl,ha⟩)
 |succ k ih=>
  intro i n tm s td hi hn hT hx ha h0 h1 h7 h8
  have hil:i<ps.length:=by omega
  have hb:=hx.bnd hb0
  obtain⟨b,o,c,ev,ga,_,_,_,_⟩:=(hr.ext0 hx).at hil
  refine Uz.u ?_ hT
  simp only[Ru,RR,SS,Ak,h7,h8]
  refine aI Ga_ ?_
  refine Yd_.u ?_
  simp only[VJ,RR,SS,Nat.reduceEqDiff, ↓reduceIte,h8]
  refine AfW_.u ?_
  simp only[Ct_,RR,SS,Nat.reduceEqDiff,reduceCtorEq, ↓reduceIte,h0,ev,h1,AL Bv hil]
  refine aG CZ ga rfl λs1 m1 n1 x1=> ?_
  have xs1:=hx.then0 x1 hb0
  rw[NS_]
  refine UA_ (f:=f) (xs1.bnd hb0) (hC.ext0 xs1) (hB.ext0 xs1) (by omega) λs2 x2=> ?_
  have xs2:=xs1.then0 x2 hb0
  have hf:=Bo_ hil ha
  cases ho:hitP f ps[i]with
  |true=>
   rw[ho]at hf
   refine aI KZ_ ?_
   refine Yy_.u ?_
   simp only[Yc,RR,SS,Nat.reduceEqDiff, ↓reduceIte]
   refine aF (rs:=[4]) (vs:=[.int .i64 (i:Nat)]) rfl (.inl Xg_) (by omega) Nh AZ_ (xs2.cx.trans hcx) (by simp[T.get_set]) ?_
   exact q s2 i xs2 (.inr ⟨i,hil,rfl,S5 hf⟩)
  |false=>
   rw[ho]at hf
   refine aH KZ_ ?_
   refine AcW_.u ?_
   have ei:=eiW (i:=i) (by omega)
   simp only[Hx_,RR,SS,Nat.reduceEqDiff, ↓reduceIte,Aw,h8,ei]
   exact ih (i+1) _ _ _ _ (by omega) (by omega) QG_ xs2 hf (by simp[T.get_set,h0,ev]) (by simp[T.get_set,h1]) (by simp[T.get_set,h7]) (by simp[T.get_set])
end
theorem Akd_ {n C:Nat}{v:Value}{ps:List PkI}{f:FdI}{s:St}{Q:Value->St->Prop}(hb:s.lim<=s.next)(hr:PkR s v ps)(hps:ps.length<=1000000000)(hC:Row s C 0 (fdC f))(hB:Bs s f.v f.l)(hn:10*ps.length+200<=n)(q: ∀s1 r,Ext Any Non s s1->Y6 ps f r->Q (.int .i64 r) s1):
  W (Ab envS (runF envS n) 101 [v, .func (.func 102) #[] #[.pointer (some ⟨C,0,none⟩)]]) s Q:=by
 refine SP_ λtm h0 h1=> ?_
 have hr':PkR (s.cxN cxN) v ps:=hr.same rfl rfl
 refine Rb_.u ?_
 simp only[LB_,RR,SS]
 refine Aig_.u ?_
 simp only[JT_,RR,SS,reduceCtorEq, ↓reduceIte,h0]
 rw[hr'.len]
 exact Ajl_ (s0:=s.cxN cxN) (f:=f) hb hr' hps rfl (λi u e=>(hC i u e).same rfl rfl) (hB.same rfl rfl) (λs1 r x1 h=>q _ r x1.cx' h) ps.length 0 _ _ _ _ (by omega) (by omega) rfl (Ext.refl _) rfl (by simp[T.get_set,h0]) (by simp[T.get_set,h1]) (by simp[T.get_set]) (by simp[T.get_set])
theorem Kc:slN envS 44=some 1:=by kernel_rfl
theorem Wg_:elT envS 44=some (1,8,[.int .i64 0]):=by kernel_rfl
theorem Aku_:appT envS 44 44=some (1,8,false,[.int .i64 0]):=by kernel_rfl
theorem Bs.lt {s:St}{v:Value}{l:List Nat}(h:Bs s v l): ∀x,BsF v x->x<s.next:=by
 intro x hx
 rcases h with⟨rfl,_⟩|⟨b,o,c,rfl,_,_,h3⟩
 ·exact hx.elim
 ·have h1:b+o<=x:=hx.1
  have h2:x<b+o+l.length:=hx.2
  have hl:x-(b+o)<(u8l l).length:=by rw[Av];omega
  have:=(h3 (x-(b+o)) _ (List.getElem?_eq_getElem hl)).1
  omega
def fdCs:List FdI->List Value
 |[]=>[]
 |f::l=>fdC f++fdCs l
theorem Is: ∀l:List FdI,(fdCs l).length=l.length*2
 |[]=>rfl
 |p::l=>by
  show(fdC p++fdCs l).length=_
  rw[List.length_append,Is l,List.length_cons]
  show 2+_=_
  omega
theorem Vc_ (l m:List FdI):fdCs (l++m)=fdCs l++fdCs m:=by
 induction l with
 |nil=>rfl
 |cons h l ih=>show fdC h++fdCs (l++m)=(fdC h++fdCs l)++fdCs m;rw[ih,List.append_assoc]
theorem G5 {ps:List FdI}{i:Nat}(hi:i<ps.length){j:Nat}(hj:j<2):(fdCs ps)[i*2+j]?=(fdC ps[i])[j]?:=by
 have e:ps=ps.take i++ps[i]::ps.drop (i+1):=by rw[List.getElem_cons_drop,List.take_append_drop]
 have hl:(fdCs (ps.take i)).length=i*2:=by
  rw[Is,List.length_take]
  congr 1;omega
 conv=>lhs;rw[e,Vc_]
 rw[List.getElem?_append_right (by omega),hl,show i*2+j-i*2=j by omega]
 show(fdC ps[i]++fdCs (ps.drop (i+1)))[j]?=_
 rw[List.getElem?_append_left (show j<2 from hj)]
structure FdR (s:St)(v:Value)(fs:List FdI):Prop where
 row:(v= .slice none 0 0/\fs=[])\/ ∃b o c,v= .slice (some ⟨b,o,none⟩) fs.length c/\Row s b o (fdCs fs)
 bs: ∀f∈fs,Bs s f.v f.l
 byt: ∀f∈fs,Byt f.l
theorem FdR.same {s s':St}{v:Value}{fs:List FdI}(h:FdR s v fs)(hm:s'.mem=s.mem)(hn:s'.next=s.next):FdR s' v fs:=by
 refine⟨?_,λp hp=>(h.bs p hp).same hm hn,h.byt⟩
 rcases h.row with h|⟨b,o,c,h0,h3⟩
 ·exact .inl h
 ·exact .inr ⟨b,o,c,h0,λi v e=>(h3 i v e).same hm hn⟩
theorem FdR.ext0 {F:Nat->Prop}{s s':St}{v:Value}{fs:List FdI}(h:FdR s v fs)(e:Ext F Non s s'):FdR s' v fs:=by
 refine⟨?_,λp hp=>(h.bs p hp).ext0 e,h.byt⟩
 rcases h.row with h|⟨b,o,c,h0,h3⟩
 ·exact .inl h
 ·exact .inr ⟨b,o,c,h0,h3.ext0 e⟩
theorem FdR.len {s s':St}{v:Value}{fs:List FdI}(h:FdR s v fs)(Q:Value->St->Prop):W (AS envS .len [75] [v]) s' Q=Q (.int .i64 (fs.length:Nat)) s':=by
 rcases h.row with⟨rfl,rfl⟩|⟨b,o,c,rfl,_⟩
 ·exact AP Dj Q
 ·exact AP Dj Q
theorem FdR.at {s:St}{v:Value}{fs:List FdI}(h:FdR s v fs){i:Nat}(hi:i<fs.length): ∃b o c,v= .slice (some ⟨b,o,none⟩) fs.length c/\Row s b (o+i*2) (fdC fs[i])/\Bs s fs[i].v fs[i].l/\Byt fs[i].l:=by
 have hm:=List.getElem_mem hi
 rcases h.row with⟨rfl,rfl⟩|⟨b,o,c,rfl,h3⟩
 ·simp at hi
 ·refine⟨b,o,c,rfl,λj u e=> ?_,h.bs _ hm,h.byt _ hm⟩
  have hj:j<2:=(List.getElem?_eq_some_iff.1 e).1
  have:=h3 (i*2+j) u (by rw[G5 hi hj];exact e)
  rwa [show o+(i*2+j)=o+i*2+j by omega]at this
def IntR (s:St)(v:Value)(l:List Int):Prop:=(v= .slice none 0 0/\l=[])\/ ∃b o c,v= .slice (some ⟨b,o,none⟩) l.length c/\Row s b o (l.map (.int .i64))
theorem IntR.same {s s':St}{v:Value}{l:List Int}(h:IntR s v l)(hm:s'.mem=s.mem)(hn:s'.next=s.next):IntR s' v l:=by
 rcases h with h|⟨b,o,c,h0,h3⟩
 ·exact .inl h
 ·exact .inr ⟨b,o,c,h0,λi v e=>(h3 i v e).same hm hn⟩
theorem IntR.ext0 {F:Nat->Prop}{s s':St}{v:Value}{l:List Int}(h:IntR s v l)(e:Ext F Non s s'):IntR s' v l:=by
 rcases h with h|⟨b,o,c,h0,h3⟩
 ·exact .inl h
 ·exact .inr ⟨b,o,c,h0,h3.ext0 e⟩
theorem IntR.len {s s':St}{v:Value}{l:List Int}(h:IntR s v l)(Q:Value->St->Prop):W (AS envS .len [44] [v]) s' Q=Q (.int .i64 (l.length:Nat)) s':=by
 rcases h with⟨rfl,rfl⟩|⟨b,o,c,rfl,_⟩
 ·exact AP Kc Q
 ·exact AP Kc Q
abbrev KeyP:Type:=Int×Int×List HdI
def Ay (ps:List PkI):Int->List FdI->List KeyP×List Int
 |_,[]=>([],[])
 |last,f::fs=>if f.num<=last\/999999<f.num then Ay ps last fs else
  match ps.find? (hitP f)with
  |some p=>(p.key::(Ay ps f.num fs).1,(Ay ps f.num fs).2)
  |none=>((f.num,(f.l.length:Int),(A6 f.l).1.map toI)::(Ay ps f.num fs).1,f.num::(Ay ps f.num fs).2)
structure MgO (s0 s:St)(os:List PkI)(sc:List Int)(vo vs:Value)(bo bs:Nat):Prop where
 mo:MkS s 3 os.length (pkCs os) vo bo
 ms:MkS s 1 sc.length (sc.map (.int .i64)) vs bs
 no:s0.next<=bo
 ns:s0.next<=bs
 dj: ∀x,MkF 3 os.length bo x-> ¬MkF 1 sc.length bs x
 hs: ∀o∈os,HiR s o.v o.hs/\(∀h∈o.hs,h.1.length=16)/\(∀x,HiF o.v x->s0.next<=x/\ ¬MkF 3 os.length bo x/\ ¬MkF 1 sc.length bs x)
 ow: ∀o∈os,HiW s o.v
 sp:os.Pairwise λp q=> ∀x,HiF p.v x-> ¬HiF q.v x
theorem MgO.ext0 {F:Nat->Prop}{s0 s s':St}{os:List PkI}{sc:List Int}{vo vs:Value}{bo bs:Nat}(h:MgO s0 s os sc vo vs bo bs)(e:Ext F Non s s'):MgO s0 s' os sc vo vs bo bs:=
 ⟨h.mo.ext0 e,h.ms.ext0 e,h.no,h.ns,h.dj,λo ho=>⟨(h.hs o ho).1.ext0 e,(h.hs o ho).2⟩,λo ho=>(h.ow o ho).ext0 e,h.sp⟩
theorem Ir {p:PkI}(h:oneCell p.v=true):(pkC p).all oneCell=true:=by
 unfold pkC
 simp[oneCell]at h ⊢
 exact h
theorem UE_ (p:PkI):C5 (λk=>some (k*3,3)) [(0, .agg (pkC p).toArray)] (rep 1 [.int .i64 0, .int .i64 0, .slice none 0 0])=some (pkC p):=rfl
theorem VX_ (n:Int):C5 (λk=>some (k*1,1)) [(0, .int .i64 n)] (rep 1 [.int .i64 0])=some [.int .i64 n]:=rfl
theorem Oj {n:Nat}{s0 s:St}{os:List PkI}{sc:List Int}{vo vs:Value}{bo bs:Nat}{p:PkI}{Q:Value->St->Prop}(hb0:s0.lim<=s0.next)(hx:Ext Any Non s0 s)(h:MgO s0 s os sc vo vs bo bs)(hp:HiR s p.v p.hs)(h16: ∀h∈p.hs,h.1.length=16)(hlo: ∀x,HiF p.v x->s0.next<=x/\ ¬MkF 3 os.length bo x/\ ¬MkF 1 sc.length bs x)(hle:os.length<=100000)(hpw:HiW s p.v)(hpn: ∀o∈os,∀x,HiF o.v x-> ¬HiF p.v x)
  (q: ∀s2 v2 b2,Ext Any Non s0 s2->Ext Any (MkF 3 os.length bo) s s2->MgO s0 s2 (os++[p]) sc v2 vs b2 bs->Q v2 s2):
  W (AU envS 55 1 [(0, .agg (pkC p).toArray)]) s λv s1=>W (AS envS .append [55,55] [vo,v]) s1 Q:=by
 have hb:=hx.bnd hb0
 refine aK hb (r:=pkC p) JC_ (by decide) (UE_ p) (Az (by decide)) λs1 n1 x1 r1=> ?_
 have hb1:=x1.bnd hb
 have n1':s1.next=s.next+4:=n1
 rw[CC]
 have hn0:s0.next<=s.next:=hx.nxt
 refine W.appU (s:=s1) hb1 LI_ (h.mo.ext0 x1) (Ej (n:=1) (c:=1) (Aa.row r1) rfl).g (by decide) (by decide) (by decide) (by omega) rfl (Ir hp.one) λs2 v2 b2 hb2 mk2 x2=> ?_
 have x12:Ext Any (MkF 3 os.length bo) s s2:=(x1.weak hb (λ_ _ h=>h.elim) λ_ _ h=>h.elim).trans x2 hb (λ_ _ _=>trivial) λ_ _ h=>h
 have x02:Ext Any Non s0 s2:=hx.trans x12 hb0 (λ_ _ _=>trivial) λy hy hq=>by
  have h1:=hq.2.1
  have h2:=h.no
  omega
 have hlt: ∀x,MkF 3 os.length bo x->x<s.next:=h.mo.lt
 have hlt1: ∀x,MkF 1 sc.length bs x->x<s.next:=h.ms.lt
 have hl:(os++[p]).length=os.length+1:=by simp
 refine q s2 v2 b2 x02 x12 ⟨?_,h.ms.ext x12 λx h1 h2=>h.dj x h2 h1,by omega,h.ns, ?_, ?_,λo ho=> ?_, ?_⟩
 ·rw[hl,TB]
  show MkS s2 3 (os.length+1) (pkCs os++(pkC p++[])) v2 b2
  rw[List.append_nil]
  exact mk2
 ·intro x h1 h2
  have h3:=h1.2.1
  have h4:=hlt1 x h2
  omega
 ·intro o ho
  rw[hl]
  rcases List.mem_append.1 ho with ho|ho
  ·obtain⟨g1,g2,g3⟩:=h.hs o ho
   have hlo':=g1.lt g2
   exact⟨g1.ext g2 x12 λx hx hq=>(g3 x hx).2.1 hq,g2,λx hx=>⟨(g3 x hx).1,λhq=>by have h3:=hq.2.1;have h4:=hlo' x hx;omega,(g3 x hx).2.2⟩⟩
  ·have:o=p:=by simpa using ho
   subst this
   have hlo':=hp.lt h16
   exact⟨hp.ext h16 x12 λx hx hq=>(hlo x hx).2.1 hq,h16,λx hx=>⟨(hlo x hx).1,λhq=>by have h3:=hq.2.1;have h4:=hlo' x hx;omega,(hlo x hx).2.2⟩⟩
 ·rcases List.mem_append.1 ho with ho|ho
  ·exact(h.ow o ho).ext x12 λx hx hq=>((h.hs o ho).2.2 x hx).2.1 hq
  ·have:o=p:=by simpa using ho
   subst this
   exact hpw.ext x12 λx hx hq=>(hlo x hx).2.1 hq
 ·exact List.pairwise_append.2 ⟨h.sp,List.pairwise_singleton _ _,λo ho q hq=>by rw[List.mem_singleton.1 hq];exact hpn o ho⟩
theorem XC {s0 s:St}{os:List PkI}{sc:List Int}{vo vs:Value}{bo bs:Nat}{m:Int}{Q:Value->St->Prop}(hb0:s0.lim<=s0.next)(hx:Ext Any Non s0 s)(h:MgO s0 s os sc vo vs bo bs)(hle:sc.length<=100000)
  (q: ∀s2 v2 b2,Ext Any Non s0 s2->Ext Any (MkF 1 sc.length bs) s s2->(∀x,x<s.next-> ¬MkF 1 (sc++[m]).length b2 x)->MgO s0 s2 os (sc++[m]) vo v2 bo b2->Q v2 s2):
  W (AU envS 44 1 [(0, .int .i64 m)]) s λv s1=>W (AS envS .append [44,44] [vs,v]) s1 Q:=by
 have hb:=hx.bnd hb0
 refine aK hb (r:=[.int .i64 m]) Wg_ (by decide) (VX_ m) (Az (by decide)) λs1 n1 x1 r1=> ?_
 have hb1:=x1.bnd hb
 have n1':s1.next=s.next+2:=n1
 rw[CC]
 have hn0:s0.next<=s.next:=hx.nxt
 refine W.appU (s:=s1) hb1 Aku_ (h.ms.ext0 x1) (Ej (n:=1) (c:=1) (Aa.row r1) rfl).g (by decide) (by decide) (by decide) (by omega) rfl rfl λs2 v2 b2 hb2 mk2 x2=> ?_
 have x12:Ext Any (MkF 1 sc.length bs) s s2:=(x1.weak hb (λ_ _ h=>h.elim) λ_ _ h=>h.elim).trans x2 hb (λ_ _ _=>trivial) λ_ _ h=>h
 have x02:Ext Any Non s0 s2:=hx.trans x12 hb0 (λ_ _ _=>trivial) λy hy hq=>by
  have h1:=hq.2.1
  have h2:=h.ns
  omega
 have hlt: ∀x,MkF 3 os.length bo x->x<s.next:=h.mo.lt
 have hl:(sc++[m]).length=sc.length+1:=by simp
 refine q s2 v2 b2 x02 x12 (λx hx hq=>by have:=hq.2.1;omega) ⟨h.mo.ext x12 λx h1 h2=>h.dj x h1 h2, ?_,h.no,by omega, ?_, ?_,λo ho=>(h.ow o ho).ext x12 λx hx hq=>((h.hs o ho).2.2 x hx).2.2 hq,h.sp⟩
 ·rw[hl,List.map_append]
  exact mk2
 ·intro x h1 h2
  rw[hl]at h2
  have h3:=h2.2.1
  have h4:=hlt x h1
  omega
 ·intro o ho
  obtain⟨g1,g2,g3⟩:=h.hs o ho
  have hlo':=g1.lt g2
  exact⟨g1.ext g2 x12 λx hx hq=>(g3 x hx).2.2 hq,g2,λx hx=>⟨(g3 x hx).1,(g3 x hx).2.1,λhq=>by rw[hl]at hq;have h3:=hq.2.1;have h4:=hlo' x hx;omega⟩⟩
structure PkW (n0:Nat)(s:St)(os:List PkI)(vo:Value)(bo:Nat):Prop where
 mo:MkS s 3 os.length (pkCs os) vo bo
 no:n0<=bo
 ow: ∀o∈os,HiW s o.v
 lo: ∀o∈os,∀x,HiF o.v x->n0<=x/\ ¬MkF 3 os.length bo x
 sp:os.Pairwise λp q=> ∀x,HiF p.v x-> ¬HiF q.v x
theorem MgO.pw {s0 s:St}{os:List PkI}{sc:List Int}{vo vs:Value}{bo bs:Nat}(h:MgO s0 s os sc vo vs bo bs):PkW s0.next s os vo bo:=
 ⟨h.mo,h.no,h.ow,λo ho x hx=>⟨((h.hs o ho).2.2 x hx).1,((h.hs o ho).2.2 x hx).2.1⟩,h.sp⟩
theorem PkW.same {n0:Nat}{s s':St}{os:List PkI}{vo:Value}{bo:Nat}(h:PkW n0 s os vo bo)(hm:s'.mem=s.mem)(hn:s'.next=s.next):PkW n0 s' os vo bo:=
 ⟨h.mo.same hm hn,h.no,λo ho=>(h.ow o ho).same hm hn,h.lo,h.sp⟩
theorem PkW.ext0 {F:Nat->Prop}{n0:Nat}{s s':St}{os:List PkI}{vo:Value}{bo:Nat}(h:PkW n0 s os vo bo)(e:Ext F Non s s'):PkW n0 s' os vo bo:=
 ⟨h.mo.ext0 e,h.no,λo ho=>(h.ow o ho).ext0 e,h.lo,h.sp⟩
theorem Es.hw {s s':St}{v:Value}{hs:List Hd}(h:Es s s' v hs)(h16: ∀h∈hs,h.1.length=16):HiW s' v:=by
 rcases h with⟨rfl,_⟩|⟨b,hb,hm,_⟩
 ·exact .inl rfl
 ·refine .inr ⟨b,0,_,_,hm.val,λj hj=> ?_⟩
  have hl:j<(AV hs).length:=by rw[Re h16];exact hj
  exact⟨_,hm.own j _ (List.getElem?_eq_getElem hl)⟩
