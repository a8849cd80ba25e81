import Derived.Test.YtofanlcjeohcjaaIBz24
noncomputable section
namespace Go.Proofs.Ytofanlcjeohcjaa.Am
open Go.RowKit
theorem EmS.hi {s:St}{hs:List HdI}{v:Value}{b n:Nat}(h:EmS s 18 n (A9 hs) v b)(hn:n=hs.length):HiR s v hs:=by
 subst hn
 obtain⟨c,rfl,r⟩:=h.row
 exact .inr ⟨b,0,c,rfl,r⟩
def HiW (s:St)(v:Value):Prop:=v= .slice none 0 0\/ ∃b o n c,v= .slice (some ⟨b,o,none⟩) n c/\C4 s b o (n*18)
theorem HiW.ext {F G:Nat->Prop}{s s':St}{v:Value}(h:HiW s v)(e:Ext F G s s')(hG: ∀x,HiF v x-> ¬G x):HiW s' v:=by
 rcases h with h|⟨b,o,n,c,rfl,h⟩
 ·exact .inl h
 ·exact .inr ⟨b,o,n,c,rfl,λj hj=>let ⟨u,hu⟩:=h j hj;⟨u,hu.ext e (hG _ ⟨by show b+o<=b+(o+j);omega,by show b+(o+j)<b+o+n*18;omega⟩)⟩⟩
theorem HiW.ext0 {F:Nat->Prop}{s s':St}{v:Value}(h:HiW s v)(e:Ext F Non s s'):HiW s' v:=h.ext e λ_ _=>id
theorem HiW.same {s s':St}{v:Value}(h:HiW s v)(hm:s'.mem=s.mem)(hn:s'.next=s.next):HiW s' v:=by
 rcases h with h|⟨b,o,n,c,rfl,h⟩
 ·exact .inl h
 ·exact .inr ⟨b,o,n,c,rfl,λj hj=>let ⟨u,hu⟩:=h j hj;⟨u,hu.same hm hn⟩⟩
structure FdI where
 num:Int
 v:Value
 l:List Nat
section
variable {v:Value}{ps:List PkI}{Q:Value×FrameMode->St->Prop}{s0:St}
end
abbrev KeyP:Type:=Int×Int×List HdI
theorem KU_ {p:PkI}(h:oneCell p.v=true):(pkC p).all oneCell=true:=by
 unfold pkC
 simp[oneCell]at h ⊢
 exact h
theorem AsR_ (p:PkI):DY (λk=>some (k*3,3)) [(0, .agg (pkC p).toArray)] (rep 1 [.int .i64 0, .int .i64 0, .slice none 0 0])=some (pkC p):=rfl
structure PkW (n0:Nat)(s:St)(os:List PkI)(vo:Value)(bo:Nat):Prop where
 mo:MkS s 3 os.length (pkCs os) vo bo
 no:n0<=bo
 ow: ∀o∈os,HiW s o.v
 lo: ∀o∈os,∀x,HiF o.v x->n0<=x/\ ¬MkF 3 os.length bo x
 sp:os.Pairwise λp q=> ∀x,HiF p.v x-> ¬HiF q.v x
theorem PkW.same {n0:Nat}{s s':St}{os:List PkI}{vo:Value}{bo:Nat}(h:PkW n0 s os vo bo)(hm:s'.mem=s.mem)(hn:s'.next=s.next):PkW n0 s' os vo bo:=
 ⟨h.mo.same hm hn,h.no,λo ho=>(h.ow o ho).same hm hn,h.lo,h.sp⟩
theorem PkW.ext0 {F:Nat->Prop}{n0:Nat}{s s':St}{os:List PkI}{vo:Value}{bo:Nat}(h:PkW n0 s os vo bo)(e:Ext F Non s s'):PkW n0 s' os vo bo:=
 ⟨h.mo.ext0 e,h.no,λo ho=>(h.ow o ho).ext0 e,h.lo,h.sp⟩
section
variable {vp vf:Value}{ps:List PkI}{fs:List FdI}{Q:Value×FrameMode->St->Prop}{s0:St}
end
def CE:Nat:=Ao Try.f85
abbrev CA_:Nat:=36
def OF_:Code:=Try.f85.body.getD .skip
theorem Jy_:envS.fn.get 85=some Try.f85:=X
theorem AdX_:G1 envS 85 36 CE OF_:=λh=>
 aK Jy_ (h _ X)
theorem AcJ_:Try.f85.results.toList=[.cell 2 85]:=X
def Vs:List Item:=skim 64 [.code OF_]
def Ld_:=nx Vs
def Gh_:=nx Ld_
def JN_:=nx Gh_
def Vp_:=nx JN_
def IM:=nx Vp_
def Po:=nx IM
def TT:=bt Po
def LL:=bf Po
def Pr:=nx TT
def Vx_:=nx LL
theorem Ans_:skim 64 (brT Pr)=LL:=X
def GZ_:=bf Pr
def TL:=nx GZ_
def Ro_:=nx TL
def Qf_:=nx Ro_
def Tp:=nx Qf_
def Du_:=nx Tp
theorem AfJ_:skim 64 Du_.tail=IM:=X
def KE_:Rg:=λE u r t=>
 M.bind (A6 E 85) λv2=>
 ac 2 v2 t
theorem XC_:RegEq 85 36 CE Vs KE_:={}
def MS_:Rg:=λE u r t=>
 M.bind (A6 E 85) λv3=>
 ac 3 v3 t
theorem AgV_:RegEq 85 36 CE Ld_ MS_:={}
def Zi:Rg:=λE u r t=>
 mG t 0 λv5=>
 cN u r 121 [(some v5),(some (.int .i64 1)),(some (.int .i64 999999))] λv6=>
 fD E 85 0 (T.get t 3) λv7=>
 sT E 3 (some v7) (some v6) λ_=>
 M.pure t
theorem Avy_:RegEq 85 36 CE Gh_ Zi:={}
def ZR:Rg:=λE u r t=>
 mG t 0 λv8=>
 cN u r 121 [(some v8),(some (.int .i64 0)),(some (.int .i64 65536))] λv9=>
 fD E 85 1 (T.get t 3) λv10=>
 sT E 3 (some v10) (some v9) λ_=>
 M.pure t
theorem Agr_:RegEq 85 36 CE JN_ ZR:={}
def QQ_:Rg:=λE u r t=>
 mG t 0 λv11=>
 cN u r 83 [(some v11),(some (.int .i64 20000))] λv12=>
 setF 12 v12 t λt1=>
 sV 13 (.int .i64 0) t1
theorem Aqp_:RegEq 85 36 CE Vp_ QQ_:={}
def Pd:Rg:=λE u r t=>
 bI E .lss 3 (.tmp 13) (.tmp 12) (T.get t 13) (T.get t 12) λv14=>
 ac 14 v14 t
theorem Ep_:RegEq 85 36 CE IM Pd:={}
theorem Jl_:Aj Po=some 14:=X
def Vk:Rg:=λE u r t=>
 mG t 0 λv15=>
 cN u r 84 [(some v15)] λv16=>
 M.bind (oS (some v16) λa=>Dv E 116 a 0) λv17=>
 bC E .neq 27 17 (.int .i64 0) (some v17) λv18=>
 ac 18 v18 t
theorem Aud_:RegEq 85 36 CE TT Vk:={}
def Cd_:Rg:=λE u r t=>
 lD E 85 (T.get t 3) λv35=>
 sT E 85 (T.get t 2) (some v35) λ_=>
 M.pure t
theorem Adr_:RegEq 85 36 CE LL Cd_:={}
theorem Wb_:Aj Pr=some 18:=X
theorem Adl_: ∃k,Vx_= .code .ret::k:=⟨Vx_.tail,X⟩
def HW_:Rg:=λE u r t=>
 M.bind (A6 E 35) λv4=>
 ac 4 v4 t
theorem AiT_:RegEq 85 36 CE GZ_ HW_:={}
def Qc_:Rg:=λE u r t=>
 mG t 0 λv19=>
 cN u r 122 [(some v19)] λv20=>
 fD E 35 0 (T.get t 4) λv21=>
 sT E 26 (some v21) (some v20) λ_=>
 M.pure t
theorem Aab_:RegEq 85 36 CE TL Qc_:={}
def TH_:Rg:=λE u r t=>
 mG t 0 λv22=>
 cN u r 121 [(some v22),(some (.int .i64 0)),(some (.int .i64 2147483647))] λv23=>
 fD E 35 1 (T.get t 4) λv24=>
 sT E 3 (some v24) (some v23) λ_=>
 M.pure t
theorem Aiq_:RegEq 85 36 CE Ro_ TH_:={}
def Uo:Rg:=λE u r t=>
 mG t 0 λv25=>
 cN u r 121 [(some v25),(some (.int .i64 1)),(some (.int .i64 1024))] λv26=>
 fD E 35 2 (T.get t 4) λv27=>
 sT E 3 (some v27) (some v26) λ_=>
 M.pure t
theorem AwD_:RegEq 85 36 CE Qf_ Uo:={}
def Xq:Rg:=λE u r t=>
 fD E 85 2 (T.get t 3) λv28=>
 lD E 36 (some v28) λv29=>
 lD E 35 (T.get t 4) λv30=>
 M.bind (oS (seqP [(0,(some v30))]) λps=>BS E 36 1 ps) λv31=>
 lN E .append [36,36] [(some v29),(some v31)] λv32=>
 fD E 85 2 (T.get t 3) λv33=>
 sT E 36 (some v33) (some v32) λ_=>
 M.pure t
theorem Xb_:RegEq 85 36 CE Tp Xq:={}
def Z9:Rg:=λE u r t=>
 bN E .add 13 1 (T.get t 13) λv34=>
 sV 13 v34 t
theorem AeJ_:RegEq 85 36 CE Du_ Z9:={}
def By:Nat:=Ao Try.f37
abbrev JZ:Nat:=72
def Te_:Code:=Try.f37.body.getD .skip
theorem NI:envS.fn.get 37=some Try.f37:=X
theorem AjO_:G1 envS 37 72 By Te_:=λh=>
 aK NI (h _ X)
theorem Lj_:Try.f37.results.toList=[.tmp 2, .tmp 3]:=X
def X2:List Item:=skim 64 [.code Te_]
def GP_:=nx X2
def Ig_:=nx GP_
def O2:=nx Ig_
def AH_:=bt O2
def Ew_:=bf O2
def Ng_:=nx AH_
def BT_:=nx Ew_
def Yy:=nx BT_
def JH:=nx Yy
def Sc:=nx JH
def FG_:=bt Sc
def Ss:=bf Sc
def Af_:=nx FG_
def Ha_:=nx Ss
def Ui:=nx Af_
def VZ_:=nx Ha_
def Tl:=nx Ui
def Tr:=bf VZ_
def UP:=nx Tl
def ZS:=nx Tr
def Lq:=nx UP
def PR:=nx Lq
def Ix_:=bt PR
def RC:=bf PR
def Bj_:=nx Ix_
theorem Wy_:skim 64 RC.tail=JH:=X
def VX_:=nx Bj_
def YE:=nx VX_
def Ze:=nx YE
theorem Awl_:skim 64 Ze.tail=Lq:=X
def Ab_:Rg:=λE u r t=>
 mv (some (.slice none 0 0)) λv2=>
 setF 2 v2 t λt1=>
 sV 3 (.int .i64 0) t1
theorem AgJ_:RegEq 37 72 By X2 Ab_:={}
def Gt_:Rg:=λE u r t=>
 mG t 0 λv12=>
 cN u r 43 [(some v12)] λv13=>
 sV 4 v13 t
theorem Aph_:RegEq 37 72 By GP_ Gt_:={}
def HY_:Rg:=λE u r t=>
 mG t 4 λv14=>
 bC E .neq 27 14 (.int .i64 0) (some v14) λv15=>
 ac 15 v15 t
theorem Xg_:RegEq 37 72 By Ig_ HY_:={}
theorem SG_:Aj O2=some 15:=X
def Vd_:Rg:=λE u r t=>
 mG t 4 λv16=>
 mv (some (.slice none 0 0)) λv2=>
 setF 2 v2 t λt1=>
 sV 3 v16 t1
theorem Abg_:RegEq 37 72 By AH_ Vd_:={}
def PW_:Rg:=λE u r t=>
 cN u r 75 [] λv17=>
 sV 5 v17 t
theorem Xq_:RegEq 37 72 By Ew_ PW_:={}
theorem Ags_: ∃k,Ng_= .code .ret::k:=⟨Ng_.tail,X⟩
def Qh_:Rg:=λE u r t=>
 mG t 5 λv18=>
 mG t 0 λv19=>
 lL E 55 v19 λv20=>
 cN u r 76 [(some v18),(some v20)] λv21=>
 M.pure t
theorem Apx_:RegEq 37 72 By BT_ Qh_:={}
def Oh_:Rg:=λE u r t=>
 mG t 0 λv22=>
 setF 22 v22 t λt1=>
 lL E 55 v22 λv23=>
 setF 23 v23 t1 λt2=>
 sV 24 (.int .i64 0) t2
theorem Alz_:RegEq 37 72 By Yy Oh_:={}
def Sq:Rg:=λE u r t=>
 bI E .lss 3 (.tmp 24) (.tmp 23) (T.get t 24) (T.get t 23) λv25=>
 ac 25 v25 t
theorem US:RegEq 37 72 By JH Sq:={}
theorem GF_:Aj Sc=some 25:=X
def VP:Rg:=λE u r t=>
 iD E 55 (T.get t 22) (T.get t 24) λv26=>
 lD E 85 (some v26) λv27=>
 M.bind (A6 E 85) λv7=>
 setF 7 v7 t λt1=>
 sT E 85 (some v7) (some v27) λ_=>
 M.pure t1
theorem Abc_:RegEq 37 72 By FG_ VP:={}
def RY_:Rg:=λE u r t=>
 mG t 5 λv63=>
 cN u r 78 [(some v63)] λv64=>
 mv (some v64) λv62=>
 eX 0 (some v62) λv65=>
 eX 1 (some v62) λv66=>
 mv (some v65) λv10=>
 setF 10 v10 t λt1=>
 sV 11 v66 t1
theorem Atr_:RegEq 37 72 By Ss RY_:={}
def Te:Rg:=λE u r t=>
 mG t 5 λv28=>
 fD E 85 0 (T.get t 7) λv29=>
 lD E 3 (some v29) λv30=>
 cN u r 76 [(some v28),(some v30)] λv31=>
 M.pure t
theorem Amx_:RegEq 37 72 By Af_ Te:={}
def Ss_:Rg:=λE u r t=>
 mG t 11 λv67=>
 bC E .neq 27 67 (.int .i64 0) (some v67) λv68=>
 ac 68 v68 t
theorem AvQ_:RegEq 37 72 By Ha_ Ss_:={}
def HM_:Rg:=λE u r t=>
 mG t 5 λv32=>
 fD E 85 1 (T.get t 7) λv33=>
 lD E 3 (some v33) λv34=>
 cN u r 76 [(some v32),(some v34)] λv35=>
 M.pure t
theorem Afe_:RegEq 37 72 By Ui HM_:={}
theorem Apf_:Aj VZ_=some 68:=X
def FC_:Rg:=λE u r t=>
 mG t 5 λv36=>
 fD E 85 2 (T.get t 7) λv37=>
 lD E 36 (some v37) λv38=>
 lL E 36 v38 λv39=>
 cN u r 76 [(some v36),(some v39)] λv40=>
 M.pure t
theorem Awc_:RegEq 37 72 By Tl FC_:={}
def DR_:Rg:=λE u r t=>
 mG t 10 λv70=>
 cN u r 64 [(some v70)] λv71=>
 mv (some v71) λv2=>
 setF 2 v2 t λt1=>
 sV 3 (.int .i64 0) t1
theorem XP_:RegEq 37 72 By Tr DR_:={}
def Ty_:Rg:=λE u r t=>
 fD E 85 2 (T.get t 7) λv41=>
 lD E 36 (some v41) λv42=>
 setF 42 v42 t λt1=>
 lL E 36 v42 λv43=>
 setF 43 v43 t1 λt2=>
 sV 44 (.int .i64 0) t2
theorem Ajt_:RegEq 37 72 By UP Ty_:={}
theorem AqA_: ∃k,ZS= .code .ret::k:=⟨ZS.tail,X⟩
def Q9:Rg:=λE u r t=>
 bI E .lss 3 (.tmp 44) (.tmp 43) (T.get t 44) (T.get t 43) λv45=>
 ac 45 v45 t
theorem XZ:RegEq 37 72 By Lq Q9:={}
theorem Ph_:Aj PR=some 45:=X
def Ev_:Rg:=λE u r t=>
 iD E 36 (T.get t 42) (T.get t 44) λv46=>
 lD E 35 (some v46) λv47=>
 M.bind (A6 E 35) λv9=>
 setF 9 v9 t λt1=>
 sT E 35 (some v9) (some v47) λ_=>
 M.pure t1
theorem Aod_:RegEq 37 72 By Ix_ Ev_:={}
def Hp_:Rg:=λE u r t=>
 bN E .add 24 1 (T.get t 24) λv61=>
 sV 24 v61 t
theorem AhC_:RegEq 37 72 By RC Hp_:={}
def Br_:Rg:=λE u r t=>
 mG t 5 λv48=>
 fD E 35 0 (T.get t 9) λv49=>
 lD E 26 (some v49) λv50=>
 cN u r 77 [(some v48),(some v50)] λv51=>
 M.pure t
theorem AoA_:RegEq 37 72 By Bj_ Br_:={}
def Le_:Rg:=λE u r t=>
 mG t 5 λv52=>
 fD E 35 1 (T.get t 9) λv53=>
 lD E 3 (some v53) λv54=>
 cN u r 76 [(some v52),(some v54)] λv55=>
 M.pure t
theorem Aeh_:RegEq 37 72 By VX_ Le_:={}
def Ei_:Rg:=λE u r t=>
 mG t 5 λv56=>
 fD E 35 2 (T.get t 9) λv57=>
 lD E 3 (some v57) λv58=>
 cN u r 76 [(some v56),(some v58)] λv59=>
 M.pure t
theorem Aap_:RegEq 37 72 By YE Ei_:={}
def W4:Rg:=λE u r t=>
 bN E .add 44 1 (T.get t 44) λv60=>
 sV 44 v60 t
theorem Awh_:RegEq 37 72 By Ze W4:={}
def Cn:Nat:=Ao Try.f39
abbrev K4:Nat:=41
def Ud_:Code:=Try.f39.body.getD .skip
theorem JP:envS.fn.get 39=some Try.f39:=X
theorem Att_:G1 envS 39 41 Cn Ud_:=λh=>
 aK JP (h _ X)
theorem QS:Try.f39.results.toList=[.tmp 2, .tmp 3]:=X
def Pa_:List Item:=skim 64 [.code Ud_]
def SP:=nx Pa_
def Nk:=nx SP
def Pa:=nx Nk
def Vz:=bt Pa
def Lv_:=bf Pa
def Vg:=nx Vz
def Kh_:=nx Lv_
def Ux_:=nx Kh_
def JW:=nx Ux_
def NS:=nx JW
def IY_:=bt NS
def KW:=bf NS
def Mw:=nx IY_
def Jz:=nx KW
theorem AnL_:skim 64 (brT Mw)=KW:=X
def V5:=bf Mw
def CS_:=bt Jz
def NT_:=bf Jz
def Fx_:=nx V5
def Ug:=nx CS_
def QL_:=nx NT_
theorem Alk_:skim 64 Fx_.tail=JW:=X
def IX_:Rg:=λE u r t=>
 mv (some (.slice none 0 0)) λv2=>
 setF 2 v2 t λt1=>
 sV 3 (.int .i64 0) t1
theorem Asp_:RegEq 39 41 Cn Pa_ IX_:={}
def FX_:Rg:=λE u r t=>
 mG t 0 λv9=>
 cN u r 81 [(some v9)] λv10=>
 mv (some v10) λv8=>
 eX 0 (some v8) λv11=>
 eX 1 (some v8) λv12=>
 mv (some v11) λv4=>
 setF 4 v4 t λt1=>
 sV 5 v12 t1
theorem Avh_:RegEq 39 41 Cn SP FX_:={}
def OU:Rg:=λE u r t=>
 mG t 5 λv13=>
 bC E .neq 27 13 (.int .i64 0) (some v13) λv14=>
 ac 14 v14 t
theorem HF_:RegEq 39 41 Cn Nk OU:={}
theorem FP_:Aj Pa=some 14:=X
def Aq_:Rg:=λE u r t=>
 mv (some (.slice none 0 0)) λv2=>
 setF 2 v2 t λt1=>
 sV 3 (.int .i64 4) t1
theorem Aae_:RegEq 39 41 Cn Vz Aq_:={}
def Za:Rg:=λE u r t=>
 mG t 4 λv15=>
 cN u r 82 [(some v15)] λv16=>
 sV 6 v16 t
theorem AeG_:RegEq 39 41 Cn Lv_ Za:={}
theorem Avp_: ∃k,Vg= .code .ret::k:=⟨Vg.tail,X⟩
def ZD:Rg:=λE u r t=>
 sV 7 (.slice none 0 0) t
theorem AbD_:RegEq 39 41 Cn Kh_ ZD:={}
def Uy_:Rg:=λE u r t=>
 mG t 6 λv17=>
 cN u r 83 [(some v17),(some (.int .i64 500))] λv18=>
 setF 18 v18 t λt1=>
 sV 19 (.int .i64 0) t1
theorem ApF_:RegEq 39 41 Cn Ux_ Uy_:={}
def OS:Rg:=λE u r t=>
 bI E .lss 3 (.tmp 19) (.tmp 18) (T.get t 19) (T.get t 18) λv20=>
 ac 20 v20 t
theorem Zz:RegEq 39 41 Cn JW OS:={}
theorem WN:Aj NS=some 20:=X
def Hv_:Rg:=λE u r t=>
 mG t 6 λv21=>
 cN u r 84 [(some v21)] λv22=>
 M.bind (oS (some v22) λa=>Dv E 116 a 0) λv23=>
 bC E .neq 27 23 (.int .i64 0) (some v23) λv24=>
 ac 24 v24 t
theorem AnG_:RegEq 39 41 Cn IY_ Hv_:={}
def WQ:Rg:=λE u r t=>
 mG t 6 λv31=>
 cN u r 86 [(some v31)] λv32=>
 M.bind (oS (some v32) λa=>Dv E 116 a 0) λv33=>
 bC E .neq 27 33 (.int .i64 0) (some v33) λv34=>
 mv (some v34) λv35=>
 sK v35 false (pG t 7) λv36=>
 sK v35 false (M.on (some (.func (.func 43) #[] #[])) λf=>M.on (seqO [(some v36)]) λl=>Ba u r f l) λv37=>
 sK v35 false (oS (some v37) λa=>oS (some (.int .i64 0)) λb=>Cl.get (aBin E .neq 27 (.tmp 37) (.const (.int .i64 0))) a b) λv38=>
 ae v35 (.bool true) v38 λv39=>
 ac 39 v39 t
theorem AwM_:RegEq 39 41 Cn KW WQ:={}
theorem JY_:Aj Mw=some 24:=X
theorem QA_:Aj Jz=some 39:=X
def BA_:Rg:=λE u r t=>
 mG t 7 λv25=>
 mG t 6 λv26=>
 cN u r 85 [(some v26)] λv27=>
 M.bind (oS (seqP [(0,(some v27))]) λps=>BS E 55 1 ps) λv28=>
 lN E .append [55,55] [(some v25),(some v28)] λv29=>
 sV 7 v29 t
theorem Apr_:RegEq 39 41 Cn V5 BA_:={}
def PB_:Rg:=λE u r t=>
 mv (some (.slice none 0 0)) λv2=>
 setF 2 v2 t λt1=>
 sV 3 (.int .i64 4) t1
theorem AfQ_:RegEq 39 41 Cn CS_ PB_:={}
def Pq_:Rg:=λE u r t=>
 mG t 7 λv40=>
 mv (some v40) λv2=>
 setF 2 v2 t λt1=>
 sV 3 (.int .i64 0) t1
theorem AbA_:RegEq 39 41 Cn NT_ Pq_:={}
def Hg_:Rg:=λE u r t=>
 bN E .add 19 1 (T.get t 19) λv30=>
 sV 19 v30 t
theorem AoC_:RegEq 39 41 Cn Fx_ Hg_:={}
theorem ArS_: ∃k,Ug= .code .ret::k:=⟨Ug.tail,X⟩
theorem YR_: ∃k,QL_= .code .ret::k:=⟨QL_.tail,X⟩
