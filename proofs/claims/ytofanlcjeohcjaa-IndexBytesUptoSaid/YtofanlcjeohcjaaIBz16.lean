import Derived.Test.YtofanlcjeohcjaaIBz15
noncomputable section
namespace Go.Proofs.Ytofanlcjeohcjaa.Am
open Go.RowKit
def Qm:Nat:=Ao Try.f105
def Bd_:Code:=Try.f105.body.getD .skip
theorem Vv_:envS.fn.get 105=some Try.f105:=X
theorem AcA_:G1 envS 105 5 Qm Bd_:=λh=>
 aK Vv_ (h _ X)
theorem Ajy_:Try.f105.results.toList=[.tmp 2]:=X
def Z4:List Item:=skim 64 [.code Bd_]
def IF_:=nx Z4
def BY_:=nx IF_
def MA_:Rg:=λE u r t=>
 sV 2 (.int .u32 0) t
theorem AlV_:RegEq 105 5 Qm Z4 MA_:={}
def Gl_:Rg:=λE u r t=>
 mG t 0 λv3=>
 cN u r 130 [(some (.int .u32 0)),(some v3)] λv4=>
 sV 2 v4 t
theorem ZG_:RegEq 105 5 Qm IF_ Gl_:={}
theorem XU_: ∃k,BY_= .code .ret::k:=⟨BY_.tail,X⟩
def Lx:Nat:=Ao Try.f64
def YA:Code:=Try.f64.body.getD .skip
theorem Az_:envS.fn.get 64=some Try.f64:=X
theorem Add_:G1 envS 64 21 Lx YA:=λh=>
 aK Az_ (h _ X)
theorem Aty_:Try.f64.results.toList=[.tmp 2]:=X
def Ex_:List Item:=skim 64 [.code YA]
def Jc_:=nx Ex_
def Ga_:=nx Jc_
def KN_:=nx Ga_
def TU:Rg:=λE u r t=>
 sV 2 (.slice none 0 0) t
theorem Aex_:RegEq 64 21 Lx Ex_ TU:={}
def Ao_:Rg:=λE u r t=>
 mG t 0 λv4=>
 cN u r 105 [(some v4)] λv5=>
 sV 3 v5 t
theorem Aqj_:RegEq 64 21 Lx Jc_ Ao_:={}
def Vi_:Rg:=λE u r t=>
 mG t 0 λv6=>
 mG t 3 λv7=>
 vB E 51 5 (some v7) λv8=>
 mG t 3 λv9=>
 bC E .shr 51 9 (.int .u64 8) (some v9) λv10=>
 vB E 51 5 (some v10) λv11=>
 mG t 3 λv12=>
 bC E .shr 51 12 (.int .u64 16) (some v12) λv13=>
 vB E 51 5 (some v13) λv14=>
 mG t 3 λv15=>
 bC E .shr 51 15 (.int .u64 24) (some v15) λv16=>
 vB E 51 5 (some v16) λv17=>
 M.bind (oS (seqP [(0,(some v8)),(1,(some v11)),(2,(some v14)),(3,(some v17))]) λps=>BS E 22 4 ps) λv18=>
 M.bind (oS (seqP [(0,(some v6)),(1,(some v18))]) λps=>BS E 43 2 ps) λv19=>
 cN u r 63 [(some v19)] λv20=>
 sV 2 v20 t
theorem ZM_:RegEq 64 21 Lx Ga_ Vi_:={}
theorem AhK_: ∃k,KN_= .code .ret::k:=⟨KN_.tail,X⟩
def Gr:Nat:=Ao Try.f81
def RR_:Code:=Try.f81.body.getD .skip
theorem HZ:envS.fn.get 81=some Try.f81:=X
theorem Ji_:G1 envS 81 23 Gr RR_:=λh=>
 aK HZ (h _ X)
theorem JG:Try.f81.results.toList=[.tmp 2, .tmp 3]:=X
def SH_:List Item:=skim 64 [.code RR_]
def Bf_:=nx SH_
def ED_:=nx Bf_
def RZ:=nx ED_
def CD_:=bt RZ
def Nx_:=bf RZ
def VH_:=nx CD_
def KD_:=nx Nx_
def MN:Rg:=λE u r t=>
 mv (some (.slice none 0 0)) λv2=>
 setF 2 v2 t λt1=>
 sV 3 (.int .i64 0) t1
theorem T7:RegEq 81 23 Gr SH_ MN:={}
def PX:Rg:=λE u r t=>
 mG t 0 λv5=>
 lL E 22 v5 λv6=>
 bN E .sub 6 4 (some v6) λv7=>
 sV 4 v7 t
theorem Cs_:RegEq 81 23 Gr Bf_ PX:={}
def J7:Rg:=λE u r t=>
 mG t 4 λv8=>
 bN E .lss 8 0 (some v8) λv9=>
 mv (some v9) λv10=>
 sK v10 false (pG t 0) λv11=>
 sK v10 false (pG t 4) λv12=>
 sK v10 false (M.on (some v11) λa=>M.on (some none) λb=>M.on (onO (some v12) λv=>some (some v)) λc=>Be E 22 a b c) λv13=>
 sK v10 false (M.on (some (.func (.func 64) #[] #[])) λf=>M.on (seqO [(some v13)]) λl=>Ba u r f l) λv14=>
 sK v10 false (pG t 0) λv15=>
 sK v10 false (M.on (some (.func (.func 116) #[] #[])) λf=>M.on (seqO [(some v14),(some v15)]) λl=>Ba u r f l) λv16=>
 sK v10 false (oS (some v16) λa=>kUn E.P .not a) λv17=>
 ae v10 (.bool true) v17 λv18=>
 ac 18 v18 t
theorem TZ:RegEq 81 23 Gr ED_ J7:={}
theorem LU:Aj RZ=some 18:=X
def LT:Rg:=λE u r t=>
 mv (some (.slice none 0 0)) λv2=>
 setF 2 v2 t λt1=>
 sV 3 (.int .i64 4) t1
theorem MM:RegEq 81 23 Gr CD_ LT:={}
def Qp_:Rg:=λE u r t=>
 mG t 0 λv19=>
 mG t 4 λv20=>
 M.bind (M.on (some v19) λa=>M.on (some none) λb=>M.on (onO (some v20) λv=>some (some v)) λc=>Be E 22 a b c) λv21=>
 cN u r 117 [(some v21)] λv22=>
 mv (some v22) λv2=>
 setF 2 v2 t λt1=>
 sV 3 (.int .i64 0) t1
theorem AbQ_:RegEq 81 23 Gr Nx_ Qp_:={}
theorem O4: ∃k,VH_= .code .ret::k:=⟨VH_.tail,X⟩
theorem Awm_: ∃k,KD_= .code .ret::k:=⟨KD_.tail,X⟩
def Ch:Nat:=Ao Try.f63
abbrev KF:Nat:=36
def ZZ:Code:=Try.f63.body.getD .skip
theorem UJ:envS.fn.get 63=some Try.f63:=X
theorem Abu_:G1 envS 63 36 Ch ZZ:=λh=>
 aK UJ (h _ X)
theorem Awy_:Try.f63.results.toList=[.tmp 2]:=X
def DS_:List Item:=skim 64 [.code ZZ]
def UM:=nx DS_
def Co_:=nx UM
def LB:=nx Co_
def PQ:=nx LB
def ZF:=bt PQ
def Oh:=bf PQ
def Mm_:=nx ZF
def BC_:=nx Oh
def JQ_:=nx Mm_
def KT:=nx BC_
def HZ_:=nx JQ_
def OB:=nx KT
def Lo_:=bf HZ_
def GV_:=bt OB
def L5:=bf OB
theorem Alm_:skim 64 Lo_.tail=LB:=X
def Cn_:=nx GV_
def Aa_:=nx L5
def Y0:=nx Cn_
theorem Ama_:skim 64 Y0.tail=KT:=X
def Oy_:Rg:=λE u r t=>
 sV 2 (.slice none 0 0) t
theorem AaC_:RegEq 63 36 Ch DS_ Oy_:={}
def Ch_:Rg:=λE u r t=>
 sV 3 (.int .i64 0) t
theorem AiK_:RegEq 63 36 Ch UM Ch_:={}
def Fr_:Rg:=λE u r t=>
 mG t 0 λv9=>
 setF 9 v9 t λt1=>
 lL E 43 v9 λv10=>
 setF 10 v10 t1 λt2=>
 sV 11 (.int .i64 0) t2
theorem Awp_:RegEq 63 36 Ch Co_ Fr_:={}
def O9:Rg:=λE u r t=>
 bI E .lss 3 (.tmp 11) (.tmp 10) (T.get t 11) (T.get t 10) λv12=>
 ac 12 v12 t
theorem Kj_:RegEq 63 36 Ch LB O9:={}
theorem PT_:Aj PQ=some 12:=X
def JU_:Rg:=λE u r t=>
 iD E 43 (T.get t 9) (T.get t 11) λv13=>
 lD E 22 (some v13) λv14=>
 sV 5 v14 t
theorem AoF_:RegEq 63 36 Ch ZF JU_:={}
def Ja_:Rg:=λE u r t=>
 mG t 3 λv23=>
 cN u r 106 [(some (.slice none 0 0)),(some v23)] λv24=>
 sV 6 v24 t
theorem Abb_:RegEq 63 36 Ch Oh Ja_:={}
def Ey_:Rg:=λE u r t=>
 mG t 3 λv15=>
 mG t 5 λv16=>
 lL E 22 v16 λv17=>
 bT E .add 3 15 17 v15 v17 λv18=>
 sV 3 v18 t
theorem Ajb_:RegEq 63 36 Ch Mm_ Ey_:={}
def Xi:Rg:=λE u r t=>
 mG t 0 λv25=>
 setF 25 v25 t λt1=>
 lL E 43 v25 λv26=>
 setF 26 v26 t1 λt2=>
 sV 27 (.int .i64 0) t2
theorem AfI_:RegEq 63 36 Ch BC_ Xi:={}
def JM_:Rg:=λE u r t=>
 mG t 3 λv19=>
 bN E .lss 19 0 (some v19) λv20=>
 ac 20 v20 t
theorem ZH_:RegEq 63 36 Ch JQ_ JM_:={}
def NO:Rg:=λE u r t=>
 bI E .lss 3 (.tmp 27) (.tmp 26) (T.get t 27) (T.get t 26) λv28=>
 ac 28 v28 t
theorem IU_:RegEq 63 36 Ch KT NO:={}
theorem Axk_:Aj HZ_=some 20:=X
theorem DZ_:Aj OB=some 28:=X
def UH:Rg:=λE u r t=>
 bN E .add 11 1 (T.get t 11) λv22=>
 sV 11 v22 t
theorem AhT_:RegEq 63 36 Ch Lo_ UH:={}
def MN_:Rg:=λE u r t=>
 iD E 43 (T.get t 25) (T.get t 27) λv29=>
 lD E 22 (some v29) λv30=>
 sV 8 v30 t
theorem AjE_:RegEq 63 36 Ch GV_ MN_:={}
def CW_:Rg:=λE u r t=>
 mG t 6 λv35=>
 sV 2 v35 t
theorem Abt_:RegEq 63 36 Ch L5 CW_:={}
def Zb:Rg:=λE u r t=>
 mG t 6 λv31=>
 mG t 8 λv32=>
 lN E .append [22,22] [(some v31),(some v32)] λv33=>
 sV 6 v33 t
theorem AwR_:RegEq 63 36 Ch Cn_ Zb:={}
theorem AgR_: ∃k,Aa_= .code .ret::k:=⟨Aa_.tail,X⟩
def VR_:Rg:=λE u r t=>
 bN E .add 27 1 (T.get t 27) λv34=>
 sV 27 v34 t
theorem Atf_:RegEq 63 36 Ch Y0 VR_:={}
def F8:Nat:=Ao Try.f106
def Tl_:Code:=Try.f106.body.getD .skip
theorem NN_:envS.fn.get 106=some Try.f106:=X
theorem AxQ_:G2 envS 106 27 F8 Tl_:=λh=>
 aK NN_ (h _ X X)
theorem Apg_:Try.f106.results.toList=[.tmp 4]:=X
def OD_:List Item:=skim 64 [.code Tl_]
def Qz_:=nx OD_
def Wv:=nx Qz_
def EH_:=bf Wv
def DJ_:=nx EH_
def PF:=nx DJ_
def NS_:=bt PF
def Mc:=bf PF
theorem AcY_:skim 64 NS_.tail=Mc:=X
def Dc_:=nx Mc
def VV:Rg:=λE u r t=>
 sV 4 (.slice none 0 0) t
theorem WI_:RegEq 106 27 F8 OD_ VV:={}
def Tq_:Rg:=λE u r t=>
 mG t 1 λv5=>
 bN E .lss 5 0 (some v5) λv6=>
 ac 6 v6 t
theorem Aid_:RegEq 106 27 F8 Qz_ Tq_:={}
theorem Auj_:Aj Wv=some 6:=X
def Tf_:Rg:=λE u r t=>
 mG t 1 λv8=>
 mG t 0 λv9=>
 lN E .cap [22] [(some v9)] λv10=>
 mG t 0 λv11=>
 lL E 22 v11 λv12=>
 bT E .sub 3 10 12 v10 v12 λv13=>
 bT E .sub 3 8 13 v8 v13 λv14=>
 sV 1 v14 t
theorem AaB_:RegEq 106 27 F8 EH_ Tf_:={}
def Qi_:Rg:=λE u r t=>
 mG t 1 λv15=>
 bN E .gtr 15 0 (some v15) λv16=>
 ac 16 v16 t
theorem AvI_:RegEq 106 27 F8 DJ_ Qi_:={}
theorem AfX_:Aj PF=some 16:=X
def BD_:Rg:=λE u r t=>
 mG t 0 λv17=>
 mG t 0 λv18=>
 lN E .cap [22] [(some v18)] λv19=>
 M.bind (M.on (some v17) λa=>M.on (some none) λb=>M.on (onO (some v19) λv=>some (some v)) λc=>Be E 22 a b c) λv20=>
 mG t 1 λv21=>
 lN E .append [22,3] [(some v20),(some v21)] λv22=>
 mG t 0 λv23=>
 lL E 22 v23 λv24=>
 M.bind (M.on (some v22) λa=>M.on (some none) λb=>M.on (onO (some v24) λv=>some (some v)) λc=>Be E 22 a b c) λv25=>
 sV 0 v25 t
theorem AvC_:RegEq 106 27 F8 NS_ BD_:={}
def NM_:Rg:=λE u r t=>
 mG t 0 λv26=>
 sV 4 v26 t
theorem AcW_:RegEq 106 27 F8 Mc NM_:={}
theorem AqM_: ∃k,Dc_= .code .ret::k:=⟨Dc_.tail,X⟩
def Di:Nat:=Ao Try.f116
abbrev Axx_:Nat:=26
def Gp_:Code:=Try.f116.body.getD .skip
theorem LQ:envS.fn.get 116=some Try.f116:=X
theorem Avq_:G2 envS 116 26 Di Gp_:=λh=>
 aK LQ (h _ X X)
theorem Qa:Try.f116.results.toList=[.tmp 4]:=X
def Eu_:List Item:=skim 64 [.code Gp_]
def CP_:=nx Eu_
def NP:=nx CP_
def Hf_:=bt NP
def Nt_:=bf NP
def No_:=nx Hf_
def Jd:=nx Nt_
def OF:=nx Jd
def Dr_:=bt OF
def IN_:=bf OF
def L8:=nx Dr_
def Ur:=nx IN_
def ON:=nx L8
def VO:=bt ON
def Kx_:=bf ON
def Gi_:=nx VO
theorem Ago_:skim 64 Kx_.tail=Jd:=X
def Ts:Rg:=λE u r t=>
 sV 4 (.bool false) t
theorem Ary_:RegEq 116 26 Di Eu_ Ts:={}
def SQ:Rg:=λE u r t=>
 mG t 0 λv6=>
 lL E 22 v6 λv7=>
 mG t 1 λv8=>
 lL E 22 v8 λv9=>
 bT E .neq 3 7 9 v7 v9 λv10=>
 ac 10 v10 t
theorem AuM_:RegEq 116 26 Di CP_ SQ:={}
theorem Jx_:Aj NP=some 10:=X
def SF_:Rg:=λE u r t=>
 sV 4 (.bool false) t
theorem Ye_:RegEq 116 26 Di Hf_ SF_:={}
def Bs_:Rg:=λE u r t=>
 mG t 0 λv11=>
 lL E 22 v11 λv12=>
 setF 12 v12 t λt1=>
 sV 13 (.int .i64 0) t1
theorem AgN_:RegEq 116 26 Di Nt_ Bs_:={}
theorem Aav_: ∃k,No_= .code .ret::k:=⟨No_.tail,X⟩
def Nu:Rg:=λE u r t=>
 bI E .lss 3 (.tmp 13) (.tmp 12) (T.get t 13) (T.get t 12) λv14=>
 ac 14 v14 t
theorem OC_:RegEq 116 26 Di Jd Nu:={}
theorem SI_:Aj OF=some 14:=X
def Ih_:Rg:=λE u r t=>
 mG t 13 λv15=>
 sV 5 v15 t
theorem AqY_:RegEq 116 26 Di Dr_ Ih_:={}
def Yk:Rg:=λE u r t=>
 sV 4 (.bool true) t
theorem Aat_:RegEq 116 26 Di IN_ Yk:={}
def Zd:RdW:=λE call round tm=>
 PD (T.get tm 0) λp0=>
 PD (T.get tm 5) λp1=>
 ID E 22 (some p0.1) (some p1.1) λp2=>
 LD E 5 (some p2.1) λp3=>
 PD (T.get tm 1) λp4=>
 PD (T.get tm 5) λp5=>
 ID E 22 (some p4.1) (some p5.1) λp6=>
 LD E 5 (some p6.1) λp7=>
 fJ [p7,p6,p5,p4,p3,p2,p1,p0] tm
theorem Aes_:DrawEq 116 26 Di L8 [0,0,3,7,0,0,48,112,255] Zd:={}
theorem Atb_ (E:Env)(call round:Ai)(x16 x17 x18 x19 x20 x21 x22 x23:Value)(tm:T Value)(s:St):AK call round (A5 E Di 26 (hdC L8)) [x23,x22,x21,x20,x19,x18,x17,x16] tm s=(M.bind (oS (some x19) λa=>oS (some x23) λb=>Cl.get (aBin E .neq 5 (.tmp 19) (.tmp 23)) a b) λv24=>setT 24 v24 tm λtm1=>M.pure tm1) s:=X
theorem AkG_: ∃k,Ur= .code .ret::k:=⟨Ur.tail,X⟩
theorem HT_:Aj ON=some 24:=X
def WS:Rg:=λE u r t=>
 sV 4 (.bool false) t
theorem Ajh_:RegEq 116 26 Di VO WS:={}
def AU_:Rg:=λE u r t=>
 bN E .add 13 1 (T.get t 13) λv25=>
 sV 13 v25 t
theorem Asj_:RegEq 116 26 Di Kx_ AU_:={}
theorem Aoo_: ∃k,Gi_= .code .ret::k:=⟨Gi_.tail,X⟩
def JT:Nat:=Ao Try.f117
def Iu_:Code:=Try.f117.body.getD .skip
theorem R6:envS.fn.get 117=some Try.f117:=X
theorem Akq_:G1 envS 117 8 JT Iu_:=λh=>
 aK R6 (h _ X)
theorem T5:Try.f117.results.toList=[.tmp 2]:=X
def Pw_:List Item:=skim 64 [.code Iu_]
def EA_:=nx Pw_
def US_:=nx EA_
def Mb_:=bf US_
def HO_:=nx Mb_
def Zs:Rg:=λE u r t=>
 sV 2 (.slice none 0 0) t
theorem AlP_:RegEq 117 8 JT Pw_ Zs:={}
def Rf_:Rg:=λE u r t=>
 mG t 0 λv3=>
 bC E .eql 22 3 (.slice none 0 0) (some v3) λv4=>
 ac 4 v4 t
theorem Aqa_:RegEq 117 8 JT EA_ Rf_:={}
theorem AvH_:Aj US_=some 4:=X
def Z6:Rg:=λE u r t=>
 M.bind (oS (seqP []) λps=>BS E 22 0 ps) λv5=>
 mG t 0 λv6=>
 lN E .append [22,22] [(some v5),(some v6)] λv7=>
 sV 2 v7 t
theorem Yp_:RegEq 117 8 JT Mb_ Z6:={}
theorem Ui_: ∃k,HO_= .code .ret::k:=⟨HO_.tail,X⟩
section
variable {s:St}
def Bn (s:St)(v:Value)(l:List Nat):Prop:= ∃b o c,v= .slice (some ⟨b,o,none⟩) l.length c/\l.length<=c%capU/\Cc c 1=true/\Row s b o (u8l l)
theorem Bn.bs {v:Value}{l:List Nat}(h:Bn s v l):Bs s v l:= .inr h
theorem Bn.ext {F G:Nat->Prop}{s s':St}{v:Value}{l:List Nat}(h:Bn s v l)(e:Ext F G s s')(hG: ∀x,BsF v x-> ¬G x):Bn s' v l:=by
 rcases h.bs.ext e hG with⟨rfl,_⟩|h'
 ·obtain⟨_,_,_,e,_⟩:=h;cases e
 ·exact h'
theorem Bn.ext0 {F:Nat->Prop}{s s':St}{v:Value}{l:List Nat}(h:Bn s v l)(e:Ext F Non s s'):Bn s' v l:=h.ext e λ_ _=>id
def Byt (l:List Nat):Prop:= ∀x∈l,x<256
theorem U9: ∀{l:List Nat},Byt l->u8s (u8l l)=some l
 |[],_=>rfl
 |n::l,h=>by
  have e:=U9 (l:=l) λx hx=>h x (by simp[hx])
  show(match Value.int .u8 (.ofNat n),u8s (u8l l)with| .int .u8 (.ofNat n),some ns=>bif Nat.blt n 256 then some (n::ns)else none|_,_=>none)=_
  rw[e]
  simp -implicitDefEqProofs only[BT (h n am),cond_true]
theorem W.rdB {b o:Nat}{l:List Nat}{Q:List Value->St->Prop}(h:Row s b o (u8l l))(q: ∀s1,s1.mem=s.mem->s1.next=s.next->Ext (In b o l.length) Non s s1->Q (u8l l) s1):W (Am.rdL l.length ⟨b,o,none⟩) s Q:=by
 have hl:l.length=(u8l l).length:=(AQ l).symm
 rw[hl]
 refine W.rdL h λs1 e1 e2 e3=>q s1 e1 e2 ?_
 rw[AQ]at e3
 exact e3
theorem W.more {sum:Nat}{v:Value}{l:List Nat}{Q:Value->St->Prop}(h:Bn s v l)(hl:Byt l)(hz:l.length<=4611686018427387904)(hs:sum<4294967296)
  (q: ∀s1,s1.mem=s.mem->s1.next=s.next->Ext (BsF v) Non s s1->Q (.int .u32 (CM sum l:Nat)) s1):W (Ej [.int .u32 (sum:Nat),v]) s Q:=by
 obtain⟨b,o,c,rfl,h1,h2,h3⟩:=h
 refine W.chk (by rw[BT hs];simpa using hz) (W.bind (W.rdB h3 λs1 e1 e2 e3=>W.on (U9 hl) ?_))
 rw[Ls]
 exact W.pure (q s1 e1 e2 e3)
end
theorem AsU_ {n:Nat}{s:St}{v:Value}{l:List Nat}{Q:Value->St->Prop}(hn:10<=n)(h:Bn s v l)(hl:Byt l)(hz:l.length<=4611686018427387904)
  (q: ∀s1,s1.mem=s.mem->s1.next=s.next->Ext (BsF v) Non s s1->Q (.int .u32 (CM 0 l:Nat)) s1):W (Ac envS (runF envS n) 105 [v]) s Q:=by
 refine AcA_ λtm h0=> ?_
 refine AlV_.u ?_
 simp -implicitDefEqProofs only[MA_,RR,SS]
 refine ZG_.u ?_
 simp -implicitDefEqProofs only[Gl_,RR,SS,reduceCtorEq, ↓reduceIte,h0]
 refine W.orc (m:=Ej) X ?_
 change W (Ej [.int .u32 ((0:Nat):Int),v]) _ _
 refine W.more (s:=s.cxN cxN) h hl hz al λs1 e1 e2 e3=> ?_
 refine aB (rs:=[2]) (vs:=[.int .u32 (CM 0 l:Nat)]) rfl (.inl XU_) J Vv_ Ajy_ e3.cx Y ?_
 refine q _ e1 e2 ⟨e3.nxt,e3.lim,rfl,e3.mem,e3.rd,e3.wr⟩
theorem AH:slN envS 22=some 1:=X
theorem Lo:slN envS 43=some 1:=X
theorem DI:elT envS 22=some (1,1,[.int .u8 0]):=X
theorem Dr:appT envS 22 22=some (1,1,false,[.int .u8 0]):=X
theorem Axn_:appT envS 22 3=some (1,1,true,[.int .u8 0]):=X
theorem BE:tyS envS 22=some (1,false):=X
theorem Dd:tyS envS 5=some (1,false):=X
theorem Kq (n:Nat):rep n [Value.int .u8 0]=List.replicate n (Value.int .u8 0):=by
 induction n with
 |zero=>rfl
 |succ n ih=>
  show [Value.int .u8 0]++rep n [Value.int .u8 0]=_
  rw[ih];rfl
structure Room (s s':St)(N:Nat)(v:Value)(b:Nat):Prop where
 val:v= .slice (some ⟨b,0,none⟩) 0 (capU*((b+N*1)*1024+1)+N)
 new:s.next<=b
 own:Aa s' b 0 (List.replicate N (.int .u8 0))
 tok:T.get s'.mem (b+N)=some (.O (.tok false 1025))
 lt:b+N<s'.next
theorem Act_ {n N:Nat}{s:St}{Q:Value->St->Prop}(hbd:s.lim<=s.next)(hn:20<=n)(hN:0<N)(hN2:N<=1000000)
  (q: ∀s1 v b,Room s s1 N v b->Ext Non Non s s1->Q v s1):W (Ac envS (runF envS n) 106 [.slice none 0 0, .int .i64 (N:Nat)]) s Q:=by
 refine AxQ_ λtm h0 h1=> ?_
 refine WI_.u ?_
 simp -implicitDefEqProofs only[VV,RR,SS]
 refine Aid_.u ?_
 simp -implicitDefEqProofs only[Tq_,RR,SS,Nat.reduceEqDiff, ↓reduceIte,Ab,h1]
 refine aE Auj_ ?_
 refine AaB_.u ?_
 simp -implicitDefEqProofs only[Tf_,RR,SS,Nat.reduceEqDiff,reduceCtorEq, ↓reduceIte,Ah,h0,h1,XL AH,BC AH]
 refine AvI_.u ?_
 have e1:wrap64 ((N:Int)-wrap64 (((0:Nat):Int)-((0:Nat):Int)))=(N:Nat):=by
  rw[AN (n:=((0:Nat):Int)-((0:Nat):Int)) am am,AN]<;>simp<;>omega
 simp -implicitDefEqProofs only[Qi_,RR,SS, ↓reduceIte,Ae,e1]
 refine aH AfX_ ?_ rfl (an hN)
 refine AvC_.u ?_
 simp -implicitDefEqProofs only[BD_,RR,SS,Nat.reduceEqDiff,reduceCtorEq, ↓reduceIte,h0,XL AH,AdK_ (lo:=none) (hi:=some (.int .i64 ((0:Nat):Int))) AH rfl rfl,CD]
 refine W.appNilT (s:=s.cxN cxN) hbd (n:=N) (l:=rep N [.int .u8 0]) Axn_ (ApU_ J) hN al al J (by rw[Kq];simp) (by rw[Kq];simp[oneCell]) λs2 v b hf hT x2=> ?_
 obtain⟨rfl,hnew,hown,hlen,htok,hlt⟩:=hf
 have hc:=Hv (q:=(b+N*1)*1024+1) (A0 (n:=N) J)
 simp -implicitDefEqProofs only[BC AH,FL (l:=0) (h:=0) (lo:=none) (hi:=some (.int .i64 ((0:Nat):Int))) AH rfl rfl (Nat.le_refl _) (Nat.zero_le _) (Gs (m:=b+N*1) (A0 (n:=N) J) al), ↓reduceIte,hc,hN]
 refine AcW_.u ?_ AcY_
 simp -implicitDefEqProofs only[NM_,RR,SS, ↓reduceIte]
 refine aB (rs:=[4]) (vs:=[.slice (some ⟨b,0,none⟩) 0 (capU*((b+N*1)*1024+1)+N)]) rfl (.inl AqM_) J NN_ Apg_ x2.cx Y ?_
 exact q _ _ b ⟨rfl,hnew,λi v e=>(hown i v (by rw[Kq];exact e)).same rfl rfl,by rw[Nat.mul_one]at hT;exact hT,by rw[Nat.mul_one]at hlt;exact hlt⟩ ⟨x2.nxt,x2.lim,rfl,x2.mem,x2.rd,x2.wr⟩
def tot (l:List (Value×List Nat)):Nat:=(l.map λp=>p.2.length).sum
theorem XZ_ {l:List (Value×List Nat)}{i:Nat}{p:Value×List Nat}(h:l[i]?=some p):tot (l.take (i+1))=tot (l.take i)+p.2.length:=by
 unfold tot
 rw[List.take_add_one,h]
 simp
theorem FI_ {l:List (Value×List Nat)}(i:Nat):tot (l.take i)<=tot l:=by
 unfold tot
 have:(l.map λp=>p.2.length).sum=((l.take i).map λp=>p.2.length).sum+((l.drop i).map λp=>p.2.length).sum:=by
  rw[<-List.sum_append,<-List.map_append,List.take_append_drop]
 omega
def GP (b o:Nat)(l:List (Value×List Nat)):Nat->Prop:=λx=>In b o l.length x\/ ∃p∈l,BsF p.1 x
structure Parts (s:St)(b o:Nat)(l:List (Value×List Nat)):Prop where
 row:Row s b o (l.map (·.1))
 bs: ∀p∈l,Bs s p.1 p.2
theorem Parts.same {s s':St}{b o:Nat}{l:List (Value×List Nat)}(h:Parts s b o l)(hm:s'.mem=s.mem)(hn:s'.next=s.next):Parts s' b o l:=
 ⟨λi v e=>(h.row i v e).same hm hn,λp hp=>(h.bs p hp).same hm hn⟩
theorem Parts.ext0 {F:Nat->Prop}{s s':St}{b o:Nat}{l:List (Value×List Nat)}(h:Parts s b o l)(e:Ext F Non s s'):Parts s' b o l:=⟨h.row.ext0 e,λp hp=>(h.bs p hp).ext0 e⟩
section
variable {b o c:Nat}{parts:List (Value×List Nat)}
theorem Parts.get {s:St}(h:Parts s b o parts){i:Nat}(hi:i<parts.length):At s b (o+i*1) parts[i].1/\Bs s parts[i].1 parts[i].2:=by
 refine⟨?_,h.bs _ (List.getElem_mem hi)⟩
 rw[Nat.mul_one]
 exact h.row i _ (by simp[hi])
theorem SO_ {i:Nat}(hi:i<parts.length):tot (parts.take (i+1))=tot (parts.take i)+parts[i].2.length:=XZ_ (List.getElem?_eq_getElem hi)
theorem XM_ (ht:tot parts<=1000000)(hlen:parts.length<=4611686018427387904){F:Nat->Prop}(hF: ∀x,GP b o parts x->F x){Q:Value×FrameMode->St->Prop}{s0:St}(hb0:s0.lim<=s0.next)(hp:Parts s0 b o parts): ∀(k i n:Nat) (tm:T Value) (s:St) (td:List Item),i+k=parts.length->7*k+7<=n->skim 64 td=LB->Ext F Non s0 s->s.mem=s0.mem->s.next=s0.next->
  T.get tm 0=some (.slice (some ⟨b,o,none⟩) parts.length c)->T.get tm 9=some (.slice (some ⟨b,o,none⟩) parts.length c)->T.get tm 10=some (.int .i64 (parts.length:Nat))->T.get tm 11=some (.int .i64 (i:Nat))->T.get tm 3=some (.int .i64 (tot (parts.take i):Nat))->
  (∀n' tm' s1 td',n<=n'+7*k+2->skim 64 td'=Oh->Ext F Non s0 s1->s1.mem=s0.mem->s1.next=s0.next->T.get tm' 0=some (.slice (some ⟨b,o,none⟩) parts.length c)->T.get tm' 3=some (.int .i64 (tot parts:Nat))->W (runF envS n' ⟨63,KF,Ch,tm',td', .run, .normal,none⟩) s1 Q)->
  W (runF envS n ⟨63,KF,Ch,tm,td, .run, .normal,none⟩) s Q:=by
 intro k
 induction k with
 |zero=>
  intro i n tm s td hi hn hT hx hm hnx h0 h9 h10 h11 h3 q
  refine Kj_.u ?_ hT
  simp -implicitDefEqProofs only[O9,RR,SS,Ab,h10,h11]
  refine aE PT_ ?_
  have e:tot (parts.take i)=tot parts:=by rw[show i=parts.length by omega,List.take_length]
  rw[e]at h3
  exact q _ _ _ _ J rfl hx hm hnx (an h0) (an h3)
 |succ k ih=>
  intro i n tm s td hi hn hT hx hm hnx h0 h9 h10 h11 h3 q
  have hil:i<parts.length:=J
  obtain⟨g1,g2⟩:=hp.get hil
  have hlt:=SO_ hil
  have htl:=FI_ (l:=parts) (i+1)
  refine Kj_.u ?_ hT
  simp -implicitDefEqProofs only[O9,RR,SS,Ab,h10,h11]
  refine aH PT_ ?_
  refine AoF_.u ?_
  simp -implicitDefEqProofs only[JU_,RR,SS,Nat.reduceEqDiff, ↓reduceIte,h9,h11,AO Lo hil]
  refine aA BE (g1.same hm hnx) ?_
  refine Ajb_.u ?_
  have ew:wrap64 ((tot (parts.take i):Nat)+(parts[i].2.length:Nat):Int)=(tot (parts.take (i+1)):Nat):=by
   rw[AN J J,hlt];simp
  have ei:wrap64 ((i:Nat)+1:Int)=((i+1:Nat):Int):=by
   have:parts.length<=4611686018427387904:=hlen
   rw[AN J J];simp
  have hx1:Ext F Non s0 (s.rdN (b+(o+i*1))):=hx.trans (Ext.rdN (F:=F) s _ λ_=>hF _ (.inl ⟨J,J⟩)) hb0 (λ_ _ h=>h) λ_ _ h=>h
  simp -implicitDefEqProofs only[Ey_,RR,SS,Nat.reduceEqDiff, ↓reduceIte,Ad,h3,Bs.len (s:=s.rdN (b+(o+i*1))) (g2.same hm hnx) AH,ew]
  refine ZH_.u ?_
  simp -implicitDefEqProofs only[JM_,RR,SS, ↓reduceIte,Ab]
  refine aE Axk_ ?_
  refine AhT_.u ?_
  simp -implicitDefEqProofs only[UH,RR,SS,Nat.reduceEqDiff, ↓reduceIte,Ad,h11,ei]
  exact ih (i+1) _ _ _ _ J J Alm_ hx1 hm hnx (an h0) (an h9) (an h10) Y Y λn' tm' s1 td' e=>q n' tm' s1 td' J
end
section
variable {b o c:Nat}{parts:List (Value×List Nat)}
def fl (l:List (Value×List Nat)):List Nat:=(l.map (·.2)).flatten
theorem GQ (l:List (Value×List Nat)):(fl l).length=tot l:=by
 unfold fl tot
 rw[List.length_flatten,List.map_map]
 rfl
theorem AjJ_ {l:List (Value×List Nat)}{i:Nat}(h:i<l.length):fl (l.take (i+1))=fl (l.take i)++l[i].2:=by
 unfold fl
 rw[List.take_add_one,List.getElem?_eq_getElem h,List.map_append,List.flatten_append]
 simp
theorem AmZ_ (ht:tot parts<=1000000)(hlen:parts.length<=4611686018427387904){F:Nat->Prop}(hF: ∀x,GP b o parts x->F x){Q:Value×FrameMode->St->Prop}{s0:St}(hb0:s0.lim<=s0.next)(hp:Parts s0 b o parts){nb cc:Nat}(hnb:s0.next<=nb)(hcc:cc%capU=tot parts){z:Nat}{ce:Cell}(hz:nb+tot parts<=z): ∀(k i n:Nat) (tm:T Value) (s:St) (td:List Item),i+k=parts.length->6*k+6<=n->skim 64 td=KT->Ext F Non s0 s->C4 s nb 0 (tot parts)->Aa s nb 0 (u8l (fl (parts.take i)))->(T.get s.mem z=some ce/\z<s.next)->
  T.get tm 25=some (.slice (some ⟨b,o,none⟩) parts.length c)->T.get tm 26=some (.int .i64 (parts.length:Nat))->T.get tm 27=some (.int .i64 (i:Nat))->T.get tm 6=some (.slice (some ⟨nb,0,none⟩) (tot (parts.take i)) cc)->
  (∀n' tm' s1 td',n<=n'+6*k+2->skim 64 td'=L5->Ext F Non s0 s1->Aa s1 nb 0 (u8l (fl parts))->(T.get s1.mem z=some ce/\z<s1.next)->T.get tm' 6=some (.slice (some ⟨nb,0,none⟩) (tot parts) cc)->W (runF envS n' ⟨63,KF,Ch,tm',td', .run, .normal,none⟩) s1 Q)->
  W (runF envS n ⟨63,KF,Ch,tm,td, .run, .normal,none⟩) s Q:=by
 intro k
 induction k with
 |zero=>
  intro i n tm s td hi hn hT hx hown hrow hce h25 h26 h27 h6 q
  refine IU_.u ?_ hT
  simp -implicitDefEqProofs only[NO,RR,SS,Ab,h26,h27]
  refine aE DZ_ ?_
  have e:parts.take i=parts:=by rw[show i=parts.length by omega,List.take_length]
  rw[e]at h6 hrow
  exact q _ _ _ _ J rfl hx hrow hce (an h6)
 |succ k ih=>
  intro i n tm s td hi hn hT hx hown hrow hce h25 h26 h27 h6 q
  have hil:i<parts.length:=J
  obtain⟨g1,g2⟩:=(hp.ext0 hx).get hil
  have hlt:=SO_ hil
  have htl:=FI_ (l:=parts) (i+1)
  refine IU_.u ?_ hT
  simp -implicitDefEqProofs only[NO,RR,SS,Ab,h26,h27]
  refine aH DZ_ ?_
  refine AjE_.u ?_
  simp -implicitDefEqProofs only[MN_,RR,SS,Nat.reduceEqDiff, ↓reduceIte,h25,h27,AO Lo hil]
  refine aA BE g1 ?_
  have hx1:Ext F Non s0 (s.rdN (b+(o+i*1))):=hx.trans (Ext.rdN (F:=F) s _ λ_=>hF _ (.inl ⟨J,J⟩)) hb0 (λ_ _ h=>h) λ_ _ h=>h
  refine AwR_.u ?_
  simp -implicitDefEqProofs only[Zb,RR,SS,Nat.reduceEqDiff, ↓reduceIte,h6,CD]
  refine W.appIn (s:=s.rdN (b+(o+i*1))) Dr (g2.same (s':=s.rdN (b+(o+i*1))) rfl rfl).src.g (by rw[hcc];omega) (by rw[AQ,Nat.mul_one]) (CG _) (λj hj=> ?_) λs2 n2 x2 r2=> ?_
  ·obtain⟨u,hu⟩:=hown (tot (parts.take i)+j) J
   exact⟨u,by rw[show 0+tot (parts.take i)*1+j=0+(tot (parts.take i)+j) by omega];exact hu⟩
  have ei:=eiW (i:=i) J
  have hx2:Ext F Non s0 s2:=hx1.step x2 hb0 (λl hl h=>by
   rcases h with h|h
   ·exact hF _ (.inr ⟨_,List.getElem_mem hil,h⟩)
   ·exact absurd h.1 J) λl h=>by have:=h.1;omega
  have el:parts[i].2.length*1=(u8l parts[i].2).length:=by rw[AQ,Nat.mul_one]
  rw[el]at x2
  have hown2:C4 s2 nb 0 (tot parts):=C4.ext (s:=s.rdN (b+(o+i*1))) (λj hj=>let ⟨u,hu⟩:=hown j hj;⟨u,hu.same rfl rfl⟩) x2 r2
  have hrow2:Aa s2 nb 0 (u8l (fl (parts.take (i+1)))):=by
   rw[AjJ_ hil]
   unfold u8l
   rw[List.map_append]
   refine Aa.append (Aa.ext (s:=s.rdN (b+(o+i*1))) (λj v e=>(hrow j v e).same rfl rfl) x2 λj hj=> ?_) ?_
   ·rw[AQ,GQ]at hj
    intro h
    have:=h.1
    omega
   ·rw[AQ,GQ]
    rw[Nat.mul_one]at r2
    exact r2
  refine Atf_.u ?_
  simp -implicitDefEqProofs only[VR_,RR,SS,Nat.reduceEqDiff, ↓reduceIte,Ad,h27,ei]
  exact ih (i+1) _ _ _ _ J J Ama_ hx2 hown2 hrow2 ⟨by rw[x2.mem z hce.2 λh=>by have h1:=h.2;rw[AQ]at h1;omega];exact hce.1,Nat.lt_of_lt_of_le hce.2 x2.nxt⟩ (an h25) (an h26) Y (an hlt) λn' tm' s1 td' e=>q n' tm' s1 td' J
end
structure New (s s':St)(v:Value)(l:List Nat):Prop where
 bn:Bn s' v l
 new: ∀x,BsF v x->s.next<=x
theorem Bn.same {s s':St}{v:Value}{l:List Nat}(h:Bn s v l)(hm:s'.mem=s.mem)(hn:s'.next=s.next):Bn s' v l:=by
 obtain⟨b,o,c,h0,h1,h2,h3⟩:=h
 exact⟨b,o,c,h0,h1,h2,λi v e=>(h3 i v e).same hm hn⟩
structure MkG (s:St)(v:Value)(l:List Nat)(b:Nat):Prop where
 val:v= .slice (some ⟨b,0,none⟩) l.length (capU*((b+l.length)*1024+1)+l.length)
 own:Aa s b 0 (u8l l)
 tok:T.get s.mem (b+l.length)=some (.O (.tok false 1025))
 lt:b+l.length<s.next
theorem MkG.same {s s':St}{v:Value}{l:List Nat}{b:Nat}(h:MkG s v l b)(hm:s'.mem=s.mem)(hn:s'.next=s.next):MkG s' v l b:=
 ⟨h.val,λi u e=>(h.own i u e).same hm hn,by rw[hm];exact h.tok,by rw[hn];exact h.lt⟩
theorem MkG.ext {F G:Nat->Prop}{s s':St}{v:Value}{l:List Nat}{b:Nat}(h:MkG s v l b)(e:Ext F G s s')(hG: ∀x,In b 0 (l.length+1) x-> ¬G x):MkG s' v l b:=
 ⟨h.val,λi u q=>(h.own i u q).ext e (hG _ ⟨J,by have:=(List.getElem?_eq_some_iff.1 q).1;rw[AQ]at this;omega⟩),by rw[e.mem _ h.lt (hG _ ⟨J,J⟩)];exact h.tok,Nat.lt_of_lt_of_le h.lt e.nxt⟩
theorem MkG.bn {s:St}{v:Value}{l:List Nat}{b:Nat}(h:MkG s v l b)(hl:l.length<=1073741824):Bn s v l:=
 ⟨b,0,_,h.val,by rw[Hv (A0 hl)];exact Nat.le_refl _,Gs (A0 hl) al,h.own.row⟩
theorem MkG.new {s0 s:St}{v:Value}{l:List Nat}{b:Nat}(h:MkG s v l b)(hl:l.length<=1073741824)(hb:s0.next<=b):New s0 s v l:=
 ⟨h.bn hl,λx hx=>by rw[h.val]at hx;have:=hx.1;omega⟩
theorem Aak_ {n:Nat}{s:St}{b o c:Nat}{parts:List (Value×List Nat)}{Q:Value->St->Prop}(hbd:s.lim<=s.next)(hp:Parts s b o parts)(h0:0<tot parts)(ht:tot parts<=1000000)(hlen:parts.length<=4611686018427387904)(hn:13*parts.length+60<=n)
  (q: ∀s1 v nb,Ext (GP b o parts) Non s s1->MkG s1 v (fl parts) nb->s.next<=nb->Q v s1):W (Ac envS (runF envS n) 63 [.slice (some ⟨b,o,none⟩) parts.length c]) s Q:=by
 refine Abu_ λtm hk0=> ?_
 have hpc:Parts (s.cxN cxN) b o parts:=hp.same rfl rfl
 refine AaC_.u ?_
 simp -implicitDefEqProofs only[Oy_,RR,SS]
 refine AiK_.u ?_
 simp -implicitDefEqProofs only[Ch_,RR,SS]
 refine Awp_.u ?_
 simp -implicitDefEqProofs only[Fr_,RR,SS,reduceCtorEq, ↓reduceIte,hk0,BC Lo]
 refine XM_ (c:=c) ht hlen (F:=GP b o parts) (λ_ h=>h) (s0:=s.cxN cxN) hbd hpc parts.length 0 _ _ _ _ J J rfl (Ext.refl _) rfl rfl (an hk0) Y Y Y (by simp[T.get_set,tot]) λn1 tm1 s1 td1 hn1 hT1 hx1 hm1 hnx1 g0 g3=> ?_
 refine Abb_.u ?_ hT1
 simp -implicitDefEqProofs only[Ja_,RR,SS,g3]
 have hb1:s1.lim<=s1.next:=hx1.bnd hbd
 refine Act_ hb1 J h0 ht λs2 v nb hr x2=> ?_
 obtain⟨rfl,hnew,hown,htok,hlt⟩:=hr
 have hx2:Ext (GP b o parts) Non (s.cxN cxN) s2:=hx1.step x2 hbd (λ_ _ h=>h.elim) λ_ h=>h.elim
 have hnb:s.next<=nb:=by
  have:s1.next=s.next:=hnx1
  omega
 have hcc:=Hv (q:=(nb+tot parts*1)*1024+1) (A0 (n:=tot parts) J)
 have hok:=Gs (m:=nb+tot parts*1) (sz:=1) (A0 (n:=tot parts) J) al
 generalize hC:capU*((nb+tot parts*1)*1024+1)+tot parts=C at *
 refine AfI_.u ?_
 simp -implicitDefEqProofs only[Xi,RR,SS,reduceCtorEq, ↓reduceIte,g0,BC Lo]
 refine AmZ_ (c:=c) ht hlen (F:=GP b o parts) (λ_ h=>h) (s0:=s.cxN cxN) hbd hpc (nb:=nb) (cc:=C) hnb hcc (z:=nb+tot parts) (Nat.le_refl _) parts.length 0 _ _ _ _ J J rfl hx2 (by have:=hown.owned;rwa [List.length_replicate]at this) (λi v e=>by simp[fl]at e) ⟨htok,hlt⟩ Y Y Y (by simp[T.get_set,tot]) λn3 tm3 s3 td3 hn3 hT3 hx3 hrow hz3 g6=> ?_
 refine Abt_.u ?_ hT3
 simp -implicitDefEqProofs only[CW_,RR,SS,g6]
 refine aB (rs:=[2]) (vs:=[.slice (some ⟨nb,0,none⟩) (tot parts) C]) rfl (.inl AgR_) J UJ Awy_ hx3.cx Y ?_
 have hC':C=capU*((nb+(fl parts).length)*1024+1)+(fl parts).length:=by rw[<-hC,GQ,Nat.mul_one]
 refine q _ (.slice (some ⟨nb,0,none⟩) (tot parts) C) nb hx3.cx' ⟨by rw[<-hC',GQ],λi u e=>(hrow i u e).same rfl rfl,by rw[GQ];exact hz3.1,by rw[GQ];exact hz3.2⟩ hnb
theorem AnC_:elT envS 43=some (1,24,[.slice none 0 0]):=X
theorem QE_:hasT envS 51=true:=X
theorem Hl:intK envS 5=some .u8:=X
def le4 (n:Nat):List Nat:=[n%256,n>>>8%256,n>>>16%256,n>>>24%256]
def gput (l:List Nat):List Nat:=l++le4 (CM 0 l)
theorem Byt.le4 (n:Nat):Byt (le4 n):=λx hx=>by
 simp -implicitDefEqProofs only[Am.le4,List.mem_cons,List.not_mem_nil,or_false]at hx
 omega
theorem Byt.gput {l:List Nat}(h:Byt l):Byt (gput l):=λx hx=>by
 rcases List.mem_append.1 hx with hx|hx
 ·exact h x hx
 ·exact Byt.le4 _ x hx
theorem CQ_ {n:Nat}{s:St}{v:Value}{l:List Nat}{Q:Value->St->Prop}(hbd:s.lim<=s.next)(hn:120<=n)(h:Bn s v l)(hl:Byt l)(hz:l.length<=900000)
  (q: ∀s1 w nb,Ext (BsF v) Non s s1->MkG s1 w (gput l) nb->s.next<=nb->Q w s1):W (Ac envS (runF envS n) 64 [v]) s Q:=by
 refine Add_ λtm h0=> ?_
 have hc:Bn (s.cxN cxN) v l:=h.same rfl rfl
 refine Aex_.u ?_
 simp -implicitDefEqProofs only[TU,RR,SS]
 refine Aqj_.u ?_
 simp -implicitDefEqProofs only[Ao_,RR,SS,reduceCtorEq, ↓reduceIte,h0]
 refine AsU_ J hc hl J λs1 m1 n1 x1=> ?_
 refine ZM_.u ?_
 generalize hS:CM 0 l=S
 simp -implicitDefEqProofs only[Vi_,RR,SS,reduceCtorEq, ↓reduceIte,h0]
 simp -implicitDefEqProofs only[DA QE_ Hl,wrap_u8,TW (k:= .u32) al,Wk (k:= .u32) al,Fg_ (k:= .u32) al]
 have hb1:s1.lim<=s1.next:=x1.bnd hbd
 refine aM hb1 (r:=u8l (le4 S)) DI al rfl (A0 al) λs2 n2 x2 r2=> ?_
 have hb2:s2.lim<=s2.next:=x2.bnd hb1
 obtain⟨b,o,c,rfl,hv⟩:=hc
 refine aM hb2 (r:=[.slice (some ⟨b,o,none⟩) l.length c, .slice (some ⟨s1.next,0,none⟩) 4 4]) AnC_ al rfl (A0 al) λs3 n3 x3 r3=> ?_
 have hb3:s3.lim<=s3.next:=x3.bnd hb2
 have hx1:Ext (BsF (.slice (some ⟨b,o,none⟩) l.length c)) Non (s.cxN cxN) s1:=x1
 have hx2:=hx1.step x2 hbd (λ_ _ h=>h.elim) λ_ h=>h.elim
 have hx3:=hx2.step x3 hbd (λ_ _ h=>h.elim) λ_ h=>h.elim
 have hBv:Bs s3 (.slice (some ⟨b,o,none⟩) l.length c) l:=(Bn.bs ⟨b,o,c,rfl,hv⟩).ext0 hx3
 have hB4:Bs s3 (.slice (some ⟨s1.next,0,none⟩) 4 4) (le4 S):=(Aa.bn r2 (A0 (by simp[le4]))).ext0 x3
 have hlt:tot [((.slice (some ⟨b,o,none⟩) l.length c:Value),l),(.slice (some ⟨s1.next,0,none⟩) 4 4,le4 S)]=l.length+4:=by simp[tot,le4]
 refine Aak_ (parts:=[(.slice (some ⟨b,o,none⟩) l.length c,l),(.slice (some ⟨s1.next,0,none⟩) 4 4,le4 S)]) hb3 ⟨r3.row,λp hp=> ?_⟩ (by rw[hlt];omega) (by rw[hlt];omega) am (by simp;omega) λs4 w nb x4 hw hnb=> ?_
 ·rcases List.mem_cons.1 hp with rfl|hp
  ·exact hBv
  ·rcases List.mem_cons.1 hp with rfl|hp
   ·exact hB4
   ·cases hp
 have hx4:=hx3.step x4 hbd (λx hx h=>by
  have hn1:s.next<=s1.next:=x1.nxt
  have hn2:s1.next<=s2.next:=x2.nxt
  have hxl:x<s.lim:=hx
  rcases h with h|⟨p,hp,h⟩
  ·have:=h.1;omega
  ·rcases List.mem_cons.1 hp with rfl|hp
   ·exact h
   ·rcases List.mem_cons.1 hp with rfl|hp
    ·have:s1.next+0<=x:=h.1
     omega
    ·cases hp) λ_ h=>h.elim
 refine aB (rs:=[2]) (vs:=[w]) rfl (.inl AhK_) J Az_ Aty_ hx4.cx Y ?_
 refine q _ _ nb hx4.cx' ?_ (Nat.le_trans hx3.nxt hnb)
 have:=hw.same (s':=s4.cxN s.cx) rfl rfl
 show MkG (s4.cxN s.cx) w (gput l) nb
 unfold gput
 rw[hS]
 simpa [fl]using this
theorem Kr (l:List Nat):(gput l).length=l.length+4:=by simp[gput,le4]
theorem Akc_ {n:Nat}{s:St}{v:Value}{l:List Nat}{Q:Value->St->Prop}(hbd:s.lim<=s.next)(hn:120<=n)(h:Bn s v l)(hl:Byt l)(hz:l.length<=900000)
  (q: ∀s1 w,Ext (BsF v) Non s s1->New s s1 w (gput l)->Q w s1):W (Ac envS (runF envS n) 64 [v]) s Q:=
 CQ_ hbd hn h hl hz λs1 w nb x1 hw hb=>q s1 w x1 (hw.new (by rw[Kr];omega) hb)
theorem Bs.at {s:St}{v:Value}{l:List Nat}(h:Bs s v l){i:Nat}(hi:i<l.length): ∃b o c,v= .slice (some ⟨b,o,none⟩) l.length c/\At s b (o+i*1) (u8 l[i])/\(∀x,x=b+(o+i*1)->BsF v x):=by
 rcases h with⟨rfl,rfl⟩|⟨b,o,c,rfl,_,_,h3⟩
 ·simp at hi
 ·refine⟨b,o,c,rfl, ?_,λx hx=>⟨J,J⟩⟩
  rw[Nat.mul_one]
  exact h3.at (List.getElem?_eq_getElem hi)
section
variable {va vb:Value}{la lb:List Nat}
theorem Aqb_ {F:Nat->Prop}(hFa: ∀x,BsF va x->F x)(hFb: ∀x,BsF vb x->F x){Q:Value×FrameMode->St->Prop}{s0:St}(hb0:s0.lim<=s0.next)(ha:Bs s0 va la)(hb:Bs s0 vb lb)(hlen:la.length=lb.length)(hz:la.length<=4611686018427387904)(hcx:s0.cx= .cx none (some []))(q: ∀s1,Ext F Non s0 s1->s1.mem=s0.mem->s1.next=s0.next->Q (.bool (decide (la=lb)), .run) s1):
  ∀(k i n:Nat) (tm:T Value) (s:St) (td:List Item),i+k=la.length->7*k+20<=n->skim 64 td=Jd->Ext F Non s0 s->s.mem=s0.mem->s.next=s0.next->la.take i=lb.take i->
  T.get tm 0=some va->T.get tm 1=some vb->T.get tm 12=some (.int .i64 (la.length:Nat))->T.get tm 13=some (.int .i64 (i:Nat))->
  W (runF envS n ⟨116,Axx_,Di,tm,td, .run, .normal,none⟩) s Q:=by
 intro k
 induction k with
 |zero=>
  intro i n tm s td hi hn hT hx hm hnx heq h0 h1 h12 h13
  refine OC_.u ?_ hT
  simp -implicitDefEqProofs only[Nu,RR,SS,Ab,h12,h13]
  refine aE SI_ ?_
  refine Aat_.u ?_
  simp -implicitDefEqProofs only[Yk,RR,SS]
  have e:la=lb:=by
   rw[show i=la.length by omega,List.take_length,hlen,List.take_length]at heq
   exact heq
  refine aB (rs:=[4]) (vs:=[.bool true]) rfl (.inl AkG_) J LQ Qa (hx.cx.trans hcx) Y ?_
  have:=q s hx hm hnx
  rw[decide_eq_true e]at this
  exact this
 |succ k ih=>
  intro i n tm s td hi hn hT hx hm hnx heq h0 h1 h12 h13
  have hia:i<la.length:=J
  have hib:i<lb.length:=J
  obtain⟨ba,oa,ca,rfl,ga,fa⟩:=ha.at hia
  obtain⟨bb,ob,cb,rfl,gb,fb⟩:=hb.at hib
  refine OC_.u ?_ hT
  simp -implicitDefEqProofs only[Nu,RR,SS,Ab,h12,h13]
  refine aH SI_ ?_
  refine AqY_.u ?_
  simp -implicitDefEqProofs only[Ih_,RR,SS,Nat.reduceEqDiff, ↓reduceIte,h13]
  refine Aes_.u ?_
  simp -implicitDefEqProofs only[Zd,RR,T.get_set,Nat.reduceEqDiff, ↓reduceIte,h0,h1,AA,Aw]
  rw[W_dq λs Q=>AO (s:=s) AH hia Q]
  refine aD Dd (ga.same hm hnx) λrd1 hr1=> ?_
  simp -implicitDefEqProofs only[Aw]
  rw[W_dq λs Q=>AO (s:=s) AH hib Q]
  refine aD Dd (gb.same hm hnx) λrd2 hr2=> ?_
  rw[AJ]
  refine⟨CX am am, ?_⟩
  refine W.cast (Atb_ _ _ _ _ _ _ _ _ _ _ _ _ _) ?_
  simp -implicitDefEqProofs only[SS,AlW_]
  generalize hs':(⟨(dSt s.mem s.next).mem,(dSt s.mem s.next).next,s.lim,_,_,s.cx⟩:St)=s'
  have hx':Ext F Non s0 s':=by
   rw[<-hs']
   refine hx.trans (Ext.draw (F:=F) (Nat.le_refl _) (λ_ _=>rfl) am (by
    simp -implicitDefEqProofs only[List.mem_cons,List.not_mem_nil,or_false]
    rintro m (rfl|rfl|rfl|rfl|rfl|rfl|rfl|rfl) x hx _<;>first|(exact hFa _ (fa _ (hr1 _ hx)))|(exact hFb _ (fb _ (hr2 _ hx)))|(cases hx))) hb0 (λ_ _ h=>h) λ_ _ h=>h
  have hm':s'.mem=s0.mem:=by rw[<-hs'];exact hm
  have hn':s'.next=s0.next:=by rw[<-hs'];exact hnx
  by_cases he:la[i]=lb[i]
  ·refine aE HT_ ?_ rfl (an he)
   refine Asj_.u ?_
   have ei:=eiW (i:=i) J
   simp -implicitDefEqProofs only[AU_,RR,SS,Nat.reduceEqDiff, ↓reduceIte,Ad,h13,ei]
   refine ih (i+1) _ _ _ _ J J Ago_ hx' hm' hn' ?_ (an h0) (an h1) (an h12) Y
   rw[List.take_add_one,List.take_add_one,heq,List.getElem?_eq_getElem hia,List.getElem?_eq_getElem hib,he]
  ·refine aH HT_ ?_ rfl (an he)
   refine Ajh_.u ?_
   simp -implicitDefEqProofs only[WS,RR,SS]
   have e:la≠lb:=by
    intro e
    subst e
    exact he rfl
   refine aB (rs:=[4]) (vs:=[.bool false]) rfl (.inl Aoo_) J LQ Qa (hx'.cx.trans hcx) Y ?_
   have:=q s' hx' hm' hn'
   rw[decide_eq_false e]at this
   exact this
theorem Agn_ {n:Nat}{s:St}{Q:Value->St->Prop}(hbd:s.lim<=s.next)(ha:Bs s va la)(hb:Bs s vb lb)(hz:la.length<=4611686018427387904)(hn:7*la.length+40<=n)
  (q: ∀s1,Ext (λx=>BsF va x\/BsF vb x) Non s s1->s1.mem=s.mem->s1.next=s.next->Q (.bool (decide (la=lb))) s1):W (Ac envS (runF envS n) 116 [va,vb]) s Q:=by
 refine Avq_ λtm h0 h1=> ?_
 have ha':Bs (s.cxN cxN) va la:=ha.same rfl rfl
 have hb':Bs (s.cxN cxN) vb lb:=hb.same rfl rfl
 refine Ary_.u ?_
 simp -implicitDefEqProofs only[Ts,RR,SS]
 refine AuM_.u ?_
 simp -implicitDefEqProofs only[SQ,RR,SS,Nat.reduceEqDiff,reduceCtorEq, ↓reduceIte,Ag,h0,h1,ha'.len AH,hb'.len AH]
 by_cases hlen:la.length=lb.length
 ·refine aE Jx_ ?_ rfl (an hlen)
  refine AgN_.u ?_
  simp -implicitDefEqProofs only[Bs_,RR,SS,reduceCtorEq, ↓reduceIte,h0,ha'.len AH]
  exact Aqb_ (s0:=s.cxN cxN) (F:=λx=>BsF va x\/BsF vb x) (λ_ h=> .inl h) (λ_ h=> .inr h) hbd ha' hb' hlen hz rfl (λs1 x1 m1 n1=>q _ x1.cx' m1 n1) la.length 0 _ _ _ _ J J rfl (Ext.refl _) rfl rfl am (an h0) (an h1) Y Y
 ·refine aH Jx_ ?_
  refine Ye_.u ?_
  simp -implicitDefEqProofs only[SF_,RR,SS]
  have e:la≠lb:=λe=>hlen (by rw[e])
  refine aB (rs:=[4]) (vs:=[.bool false]) rfl (.inl Aav_) J LQ Qa rfl Y ?_
  have:=q _ (Ext.refl s) rfl rfl
  rw[decide_eq_false e]at this
  exact this
end
theorem Fresh1.toNew {s s':St}{v:Value}{b:Nat}{l:List Nat}(h:Fresh1 s s' 1 l.length (u8l l) v b)(hl:l.length<capU):New s s' v l:=by
 obtain⟨rfl,hnew,hown,_,_,_⟩:=h
 refine⟨⟨b,0,_,rfl,by rw[Hv hl];exact Nat.le_refl _,Gs hl al,hown.row⟩,λx hx=> ?_⟩
 have:b+0<=x:=hx.1
 omega
theorem YA_ {n:Nat}{s:St}{v:Value}{l:List Nat}{Q:Value->St->Prop}(hbd:s.lim<=s.next)(h:Bn s v l)(hz:l.length<=1000000)(hn:30<=n)
  (q: ∀s1 w,Ext (BsF v) Non s s1->New s s1 w l->(0<l.length-> ∃nb,MkG s1 w l nb/\s.next<=nb)->Q w s1):W (Ac envS (runF envS n) 117 [v]) s Q:=by
 refine Akq_ λtm h0=> ?_
 have hc:Bn (s.cxN cxN) v l:=h.same rfl rfl
 refine AlP_.u ?_
 simp -implicitDefEqProofs only[Zs,RR,SS]
 refine Aqa_.u ?_
 obtain⟨b,o,c,rfl,hv⟩:=hc
 simp -implicitDefEqProofs only[Rf_,RR,SS,reduceCtorEq, ↓reduceIte,h0,AfP_ AH]
 refine aE AvH_ ?_
 refine Yp_.u ?_
 simp -implicitDefEqProofs only[Z6,RR,SS,reduceCtorEq, ↓reduceIte,h0]
 refine aM (s:=s.cxN cxN) hbd (r:=[]) DI al rfl (A0 al) λs1 n1 x1 r1=> ?_
 have hb1:s1.lim<=s1.next:=x1.bnd hbd
 have hx1:Ext (BsF (.slice (some ⟨b,o,none⟩) l.length c)) Non (s.cxN cxN) s1:=x1.weak hbd (λ_ _ h=>h.elim) λ_ _ h=>h
 have hv1:Bs s1 (.slice (some ⟨b,o,none⟩) l.length c) l:=(Bn.bs ⟨b,o,c,rfl,hv⟩).ext0 hx1
 rw[CD]
 by_cases hl:0<l.length
 ·refine W.appEmpT hb1 Dr hv1.src.g hl al al J (by rw[AQ,Nat.mul_one]) (CG _) λs2 w nb hf hT x2=> ?_
  have hx2:=hx1.step x2 hbd (λ_ _ h=>h) λ_ h=>h.elim
  refine aB (rs:=[2]) (vs:=[w]) rfl (.inl Ui_) J R6 T5 hx2.cx Y ?_
  have hN:=hf.toNew (A0 J)
  have h2:s.next<=s1.next:=hx1.nxt
  refine q _ _ hx2.cx' ⟨hN.bn.same rfl rfl,λx hx=> ?_⟩ λ_=>⟨nb,⟨?_,λi u e=>(hf.own i u e).same rfl rfl,by rw[Nat.mul_one]at hT;exact hT,by have:=hf.lt;rw[Nat.mul_one]at this;exact this⟩,Nat.le_trans h2 hf.new⟩
  ·have h1:=hN.new x hx
   omega
  ·have:=hf.val
   rw[Nat.mul_one]at this
   exact this
 ·have h0l:l=[]:=List.eq_nil_of_length_eq_zero J
  subst h0l
  refine W.appIn (s:=s1) (n:=0) (len:=0) (c:=0) (l:=[]) Dr hv1.src.g am rfl rfl (λi hi=>absurd hi J) λs2 n2 x2 r2=> ?_
  have hx2:=hx1.step x2 hbd (λ_ _ h=>by
   rcases h with h|h
   ·exact h
   ·have h3:=h.1;have h4:=h.2;omega) λl h=>by have h3:=h.1;have h4:=h.2;omega
  refine aB (rs:=[2]) (vs:=[.slice (some ⟨s.next,0,none⟩) (0+0) 0]) rfl (.inl Ui_) J R6 T5 hx2.cx (by simp[T.get_set];rfl) ?_
  refine q _ _ hx2.cx' ⟨⟨s.next,0,0,rfl,am,ER (by unfold capU;decide),λi v e=>by simp at e⟩,λx hx=> ?_⟩ λh=>absurd h hl
  have h3:s.next+0<=x:=hx.1
  have h4:x<s.next+0+(0+0):=hx.2
  omega
theorem W.cut {E:Env}{t:Nat}{s:St}{v:Value}{l:List Nat}{i j:Nat}{lo hi:Option Value}{Q:Value->St->Prop}(h:Bn s v l)(ht:slN E t=some 1)(hlo:bndV lo 0=some i)(hhi:bndV hi l.length=some j)(hij:i<=j)(hj:j<=l.length)
  (q: ∀v',Bn s v' ((l.take j).drop i)->(∀x,BsF v' x->BsF v x)->Q v' s):W (Be E t v lo hi) s Q:=by
 obtain⟨b,o,c,rfl,h1,h2,h3⟩:=h
 rw[FL ht hlo hhi hij J h2]
 obtain⟨o',e1,e2,e3,e4,e5⟩:=Bs.sub' hij hj h1 h2 h3
 rw[e1]
 refine q _ ⟨b,o',c-i,rfl,e2,e3,e4⟩ λx hx=> ?_
 have hlen:((l.take j).drop i).length=j-i:=by rw[List.length_drop,List.length_take];omega
 have h6:b+o'<=x:=hx.1
 have h7:x<b+o'+((l.take j).drop i).length:=hx.2
 rw[hlen]at h7
 rcases e5 with rfl|e5
 ·exact⟨J,J⟩
 ·rw[hlen]at e5;omega
def GOk (l:List Nat):Prop:=4<=l.length/\gput (l.take (l.length-4))=l
instance (l:List Nat):Decidable (GOk l):=by unfold GOk;infer_instance
theorem Ph (l:List Nat):(gput l).length=l.length+4:=by simp[gput,le4]
theorem ZA_ {n:Nat}{s:St}{v:Value}{l:List Nat}{Q:Value->St->Prop}(hbd:s.lim<=s.next)(h:Bn s v l)(hb:Byt l)(hz:l.length<=900000)(hn:7*l.length+200<=n)
  (q1:GOk l-> ∀s1 w,Ext (BsF v) Non s s1->New s s1 w (l.take (l.length-4))->(4<l.length-> ∃nb,MkG s1 w (l.take (l.length-4)) nb/\s.next<=nb)->Q (.tuple #[w, .int .i64 0]) s1) (q2: ¬GOk l-> ∀s1,Ext (BsF v) Non s s1->Q (.tuple #[.slice none 0 0, .int .i64 4]) s1):W (Ac envS (runF envS n) 81 [v]) s Q:=by
 refine Ji_ λtm h0=> ?_
 have hc:Bn (s.cxN cxN) v l:=h.same rfl rfl
 refine T7.u ?_
 simp -implicitDefEqProofs only[MN,RR,SS]
 refine Cs_.u ?_
 simp -implicitDefEqProofs only[PX,RR,SS,reduceCtorEq, ↓reduceIte,Ah,h0,hc.bs.len AH]
 refine TZ.u ?_
 by_cases h4:4<=l.length
 ·have ek:wrap64 ((l.length:Nat)-4:Int)=((l.length-4:Nat):Int):=by
   rw[AN J J];omega
  have ed:decide (((l.length-4:Nat):Int)<0)=false:=am
  simp -implicitDefEqProofs only[J7,RR,SS,reduceCtorEq, ↓reduceIte,Ab,h0,ek,ed]
  have hcut:(l.take (l.length-4)).drop 0=l.take (l.length-4):=rfl
  refine W.cut hc AH (i:=0) (j:=l.length-4) rfl rfl (Nat.zero_le _) J λv1 hv1 hF1=> ?_
  rw[hcut]at hv1
  have hB1:Byt (l.take (l.length-4)):=λx hx=>hb x (List.mem_of_mem_take hx)
  have hl1:(l.take (l.length-4)).length=l.length-4:=by rw[List.length_take];omega
  refine Akc_ (s:=s.cxN cxN) hbd J hv1 hB1 J λs1 w1 x1 hw1=> ?_
  have hb1:s1.lim<=s1.next:=x1.bnd hbd
  have hx1:Ext (BsF v) Non (s.cxN cxN) s1:=x1.weak hbd (λx _ hx=>hF1 x hx) λ_ _ h=>h
  refine Agn_ hb1 hw1.bn.bs (hc.ext0 hx1).bs (by rw[Ph];omega) (by rw[Ph];omega) λs2 x2 m2 n2=> ?_
  have hx2:Ext (BsF v) Non (s.cxN cxN) s2:=hx1.step x2 hbd (λx hx h=>by
   rcases h with h|h
   ·have h5:s.next<=x:=hw1.new x h
    have h6:x<s.lim:=hx
    omega
   ·exact h) λ_ h=>h.elim
  have hb2:s2.lim<=s2.next:=hx2.bnd hbd
  simp -implicitDefEqProofs only[CI]
  by_cases hg:gput (l.take (l.length-4))=l
  ·refine aE LU ?_ rfl (an hg)
   refine AbQ_.u ?_
   simp -implicitDefEqProofs only[Qp_,RR,SS,Nat.reduceEqDiff,reduceCtorEq, ↓reduceIte,h0]
   refine W.cut (hc.ext0 hx2) AH (i:=0) (j:=l.length-4) rfl rfl (Nat.zero_le _) J λv3 hv3 hF3=> ?_
   rw[hcut]at hv3
   refine YA_ hb2 hv3 J J λs3 w x3 hw3 hm3=> ?_
   have hx3:Ext (BsF v) Non (s.cxN cxN) s3:=hx2.step x3 hbd (λx _ hx=>hF3 x hx) λ_ h=>h.elim
   refine aB (rs:=[2,3]) (vs:=[w, .int .i64 0]) rfl (.inl Awm_) J HZ JG hx3.cx Y ?_
   have h6:s.next<=s2.next:=hx2.nxt
   refine q1 ⟨h4,hg⟩ _ w hx3.cx' ⟨hw3.bn.same rfl rfl,λx hx=> ?_⟩ λh=> ?_
   ·have h5:=hw3.new x hx
    omega
   ·obtain⟨nb,g1,g2⟩:=hm3 (by rw[hl1];omega)
    exact⟨nb,g1.same rfl rfl,Nat.le_trans h6 g2⟩
  ·refine aH LU ?_ rfl (an hg)
   refine MM.u ?_
   simp -implicitDefEqProofs only[LT,RR,SS]
   refine aB (rs:=[2,3]) (vs:=[.slice none 0 0, .int .i64 4]) rfl (.inl O4) J HZ JG hx2.cx Y ?_
   exact q2 (λh=>hg h.2) _ hx2.cx'
 ·have ed:decide (wrap64 ((l.length:Nat)-4:Int)<0)=true:=by
   rw[AN J J];simp;omega
  simp -implicitDefEqProofs only[J7,RR,SS,reduceCtorEq, ↓reduceIte,Ab,h0,ed]
  refine aH LU ?_
  refine MM.u ?_
  simp -implicitDefEqProofs only[LT,RR,SS]
  refine aB (rs:=[2,3]) (vs:=[.slice none 0 0, .int .i64 4]) rfl (.inl O4) J HZ JG rfl Y ?_
  exact q2 (λh=>h4 h.1) _ (Ext.refl s)
theorem AuR_ {n:Nat}{s:St}{v:Value}{l:List Nat}{Q:Value->St->Prop}(hbd:s.lim<=s.next)(h:Bn s v l)(hb:Byt l)(hz:l.length<=900000)(hn:7*l.length+200<=n)
 (q1:GOk l-> ∀s1 w,Ext (BsF v) Non s s1->New s s1 w (l.take (l.length-4))->Q (.tuple #[w, .int .i64 0]) s1) (q2: ¬GOk l-> ∀s1,Ext (BsF v) Non s s1->Q (.tuple #[.slice none 0 0, .int .i64 4]) s1):W (Ac envS (runF envS n) 81 [v]) s Q:=ZA_ hbd h hb hz hn (λhg s1 w x hw _=>q1 hg s1 w x hw) q2
