import Derived.Test.YtofanlcjeohcjaaIBk25
import Derived.Test.YtofanlcjeohcjaaIBk20
import Derived.Test.YtofanlcjeohcjaaIBk15
import Derived.Test.YtofanlcjeohcjaaIBk07
import Derived.KernelRfl
import Derived.Test.YtofanlcjeohcjaaIBk24
noncomputable section
namespace Go.Proofs.Ytofanlcjeohcjaa.Am
open Go.RowKit
theorem HiR.slice {s:St}{v:Value}{hs:List HdI}(h:HiR s v hs): ∃a n c,v= .slice a n c:=by
 rcases h with⟨rfl,_⟩|⟨b,o,c,rfl,_⟩
 ·exact⟨_,_,_,rfl⟩
 ·exact⟨_,_,_,rfl⟩
theorem Nb.hi {s s':St}{v:Value}{hs:List Hd}(h:Nb s s' v hs):HiR s' v (hs.map toI)/\ ∀x,HiF v x->s.next<=x:=by
 rcases h with⟨rfl,rfl⟩|⟨b,hb,hm,_⟩
 ·exact⟨.inl ⟨rfl,rfl⟩,λx hx=>hx.elim⟩
 ·have hr:HsR s' v hs:= .inr ⟨b,0,_,hm.val,hm.own.row⟩
  refine⟨hr.toI,λx hx=> ?_⟩
  rw[hm.val]at hx
  have h1:b+0<=x:=hx.1
  omega
theorem MgO.rows {s0 s:St}{os:List PkI}{sc:List Int}{vo vs:Value}{bo bs:Nat}(h:MgO s0 s os sc vo vs bo bs):PkR s vo os/\IntR s vs sc:=by
 refine⟨⟨?_,λp hp=>(h.hs p hp).1,λp hp=>(h.hs p hp).2.1⟩, ?_⟩
 ·rcases h.mo with⟨rfl,h0,_⟩|⟨hm,_⟩
  ·exact .inl ⟨rfl,List.eq_nil_of_length_eq_zero h0⟩
  ·exact .inr ⟨bo,0,_,hm.val,hm.own.row⟩
 ·rcases h.ms with⟨rfl,h0,_⟩|⟨hm,_⟩
  ·exact .inl ⟨rfl,List.eq_nil_of_length_eq_zero h0⟩
  ·exact .inr ⟨bs,0,_,hm.val,hm.own.row⟩
section
variable {vp vf:Value}{ps:List PkI}{fs:List FdI}{Q:Value×FrameMode->St->Prop}{s0:St}
end
def CJ:Nat:=Ba Try.f85
abbrev GT_:Nat:=36
def ZC:Code:=Try.f85.body.getD .skip
theorem ZK:envS.fn.get 85=some Try.f85:=by kernel_rfl
theorem Tm_ {a0:Value}{n:Nat}{s:St}{Q:Value->St->Prop}(h: ∀tm,T.get tm 0=some a0->W (runF envS n ⟨85,36,CJ,tm,[.code ZC], .run, .normal,none⟩) (s.cxN cxN) λp s1=>Q p.1 (s1.cxN s.cx)):W (Ay envS (runF envS n) 85 [a0]) s Q:=
 W.call (by kernel_rfl) (by kernel_rfl) ZK (by kernel_rfl) rfl rfl (by simp) (h _ (by kernel_rfl))
theorem Tg_:Try.f85.results.toList=[.cell 2 85]:=by kernel_rfl
def RS:List Item:=skim 64 [.code ZC]
def Mt:List Item:=skim 64 RS.tail
theorem AdC_:skim 64 RS.tail=Mt:=by kernel_rfl
def NL:List Item:=skim 64 Mt.tail
theorem Ace_:skim 64 Mt.tail=NL:=by kernel_rfl
def OA:List Item:=skim 64 NL.tail
theorem Add_:skim 64 NL.tail=OA:=by kernel_rfl
def Pz:List Item:=skim 64 OA.tail
theorem SH_:skim 64 OA.tail=Pz:=by kernel_rfl
def G8:List Item:=skim 64 Pz.tail
theorem OJ_:skim 64 Pz.tail=G8:=by kernel_rfl
def Hn:List Item:=skim 64 G8.tail
theorem Xp:skim 64 G8.tail=Hn:=by kernel_rfl
def Mz:List Item:=skim 64 (brT Hn)
theorem KU_:skim 64 (brT Hn)=Mz:=by kernel_rfl
def IF:List Item:=skim 64 (brF Hn)
theorem VC_:skim 64 (brF Hn)=IF:=by kernel_rfl
def Kj:List Item:=skim 64 Mz.tail
theorem BJ_:skim 64 Mz.tail=Kj:=by kernel_rfl
def UG:List Item:=skim 64 IF.tail
theorem Lj_:skim 64 IF.tail=UG:=by kernel_rfl
theorem Lr_:skim 64 (brT Kj)=IF:=by kernel_rfl
def Od:List Item:=skim 64 (brF Kj)
theorem Ahm_:skim 64 (brF Kj)=Od:=by kernel_rfl
def PK:List Item:=skim 64 Od.tail
theorem Ajx_:skim 64 Od.tail=PK:=by kernel_rfl
def K2:List Item:=skim 64 PK.tail
theorem UE_:skim 64 PK.tail=K2:=by kernel_rfl
def K3:List Item:=skim 64 K2.tail
theorem Xd_:skim 64 K2.tail=K3:=by kernel_rfl
def Nw:List Item:=skim 64 K3.tail
theorem Tn_:skim 64 K3.tail=Nw:=by kernel_rfl
def US:List Item:=skim 64 Nw.tail
theorem Ali_:skim 64 Nw.tail=US:=by kernel_rfl
theorem Zy_:skim 64 US.tail=G8:=by kernel_rfl
def Z4 (E:Env)(call round:Ad)(tm:T Value):M (T Value):=
 M.bind (BV E 85) λv2=>
 setF 2 v2 tm λtm1=>
 M.pure tm1
theorem Mi_:RegEq 85 36 CJ RS Z4:=⟨by kernel_rfl,λ_ _ _ _ _ _ _ _ _=>by kernel_rfl⟩
def W5 (E:Env)(call round:Ad)(tm:T Value):M (T Value):=
 M.bind (BV E 85) λv3=>
 setF 3 v3 tm λtm1=>
 M.pure tm1
theorem VF_:RegEq 85 36 CJ Mt W5:=⟨by kernel_rfl,λ_ _ _ _ _ _ _ _ _=>by kernel_rfl⟩
def Gr_ (E:Env)(call round:Ad)(tm:T Value):M (T Value):=
 mv (T.get tm 0) λv5=>
 M.bind (M.on (some (.func (.func 121) #[] #[])) λf=>M.on (seqO [(some v5),(some (.int .i64 1)),(some (.int .i64 999999))]) λl=>AW call round f l) λv6=>
 M.bind (oS (T.get tm 3) λa=>kFld E 85 a 0) λv7=>
 M.bind (oS (some v7) λa=>oS (some v6) λb=>Bo E 3 a b) λ_=>
 M.pure tm
theorem Aeb_:RegEq 85 36 CJ NL Gr_:=⟨by kernel_rfl,λ_ _ _ _ _ _ _ _ _=>by kernel_rfl⟩
def BD_ (E:Env)(call round:Ad)(tm:T Value):M (T Value):=
 mv (T.get tm 0) λv8=>
 M.bind (M.on (some (.func (.func 121) #[] #[])) λf=>M.on (seqO [(some v8),(some (.int .i64 0)),(some (.int .i64 65536))]) λl=>AW call round f l) λv9=>
 M.bind (oS (T.get tm 3) λa=>kFld E 85 a 1) λv10=>
 M.bind (oS (some v10) λa=>oS (some v9) λb=>Bo E 3 a b) λ_=>
 M.pure tm
theorem Aca_:RegEq 85 36 CJ OA BD_:=⟨by kernel_rfl,λ_ _ _ _ _ _ _ _ _=>by kernel_rfl⟩
def Za (E:Env)(call round:Ad)(tm:T Value):M (T Value):=
 mv (T.get tm 0) λv11=>
 M.bind (M.on (some (.func (.func 83) #[] #[])) λf=>M.on (seqO [(some v11),(some (.int .i64 20000))]) λl=>AW call round f l) λv12=>
 setF 12 v12 tm λtm1=>
 mv (some (.int .i64 0)) λv13=>
 setF 13 v13 tm1 λtm2=>
 M.pure tm2
theorem UG_:RegEq 85 36 CJ Pz Za:=⟨by kernel_rfl,λ_ _ _ _ _ _ _ _ _=>by kernel_rfl⟩
def UX (E:Env)(call round:Ad)(tm:T Value):M (T Value):=
 M.bind (oS (T.get tm 13) λa=>oS (T.get tm 12) λb=>Cl.get (aBin E .lss 3 (.tmp 13) (.tmp 12)) a b) λv14=>
 setF 14 v14 tm λtm1=>
 M.pure tm1
theorem ZE:RegEq 85 36 CJ G8 UX:=⟨by kernel_rfl,λ_ _ _ _ _ _ _ _ _=>by kernel_rfl⟩
theorem Jn_:A5 Hn=some 14:=by kernel_rfl
def Cg_ (E:Env)(call round:Ad)(tm:T Value):M (T Value):=
 mv (T.get tm 0) λv15=>
 M.bind (M.on (some (.func (.func 84) #[] #[])) λf=>M.on (seqO [(some v15)]) λl=>AW call round f l) λv16=>
 M.bind (oS (some v16) λa=>Du E 116 a 0) λv17=>
 M.bind (oS (some v17) λa=>oS (some (.int .i64 0)) λb=>Cl.get (aBin E .neq 27 (.tmp 17) (.const (.int .i64 0))) a b) λv18=>
 setF 18 v18 tm λtm1=>
 M.pure tm1
theorem NF_:RegEq 85 36 CJ Mz Cg_:=⟨by kernel_rfl,λ_ _ _ _ _ _ _ _ _=>by kernel_rfl⟩
def Zn (E:Env)(call round:Ad)(tm:T Value):M (T Value):=
 M.bind (oS (T.get tm 3) λa=>AD E 85 a) λv35=>
 M.bind (oS (T.get tm 2) λa=>oS (some v35) λb=>Bo E 85 a b) λ_=>
 M.pure tm
theorem Ls_:RegEq 85 36 CJ IF Zn:=⟨by kernel_rfl,λ_ _ _ _ _ _ _ _ _=>by kernel_rfl⟩
theorem ZH:A5 Kj=some 18:=by kernel_rfl
theorem QS_: ∃k,UG= .code .ret::k:=⟨UG.tail,by kernel_rfl⟩
def Xf (E:Env)(call round:Ad)(tm:T Value):M (T Value):=
 M.bind (BV E 35) λv4=>
 setF 4 v4 tm λtm1=>
 M.pure tm1
theorem Mz_:RegEq 85 36 CJ Od Xf:=⟨by kernel_rfl,λ_ _ _ _ _ _ _ _ _=>by kernel_rfl⟩
def AZ_ (E:Env)(call round:Ad)(tm:T Value):M (T Value):=
 mv (T.get tm 0) λv19=>
 M.bind (M.on (some (.func (.func 122) #[] #[])) λf=>M.on (seqO [(some v19)]) λl=>AW call round f l) λv20=>
 M.bind (oS (T.get tm 4) λa=>kFld E 35 a 0) λv21=>
 M.bind (oS (some v21) λa=>oS (some v20) λb=>Bo E 26 a b) λ_=>
 M.pure tm
theorem UU_:RegEq 85 36 CJ PK AZ_:=⟨by kernel_rfl,λ_ _ _ _ _ _ _ _ _=>by kernel_rfl⟩
def X0 (E:Env)(call round:Ad)(tm:T Value):M (T Value):=
 mv (T.get tm 0) λv22=>
 M.bind (M.on (some (.func (.func 121) #[] #[])) λf=>M.on (seqO [(some v22),(some (.int .i64 0)),(some (.int .i64 2147483647))]) λl=>AW call round f l) λv23=>
 M.bind (oS (T.get tm 4) λa=>kFld E 35 a 1) λv24=>
 M.bind (oS (some v24) λa=>oS (some v23) λb=>Bo E 3 a b) λ_=>
 M.pure tm
theorem Aee_:RegEq 85 36 CJ K2 X0:=⟨by kernel_rfl,λ_ _ _ _ _ _ _ _ _=>by kernel_rfl⟩
def HR_ (E:Env)(call round:Ad)(tm:T Value):M (T Value):=
 mv (T.get tm 0) λv25=>
 M.bind (M.on (some (.func (.func 121) #[] #[])) λf=>M.on (seqO [(some v25),(some (.int .i64 1)),(some (.int .i64 1024))]) λl=>AW call round f l) λv26=>
 M.bind (oS (T.get tm 4) λa=>kFld E 35 a 2) λv27=>
 M.bind (oS (some v27) λa=>oS (some v26) λb=>Bo E 3 a b) λ_=>
 M.pure tm
theorem VV_:RegEq 85 36 CJ K3 HR_:=⟨by kernel_rfl,λ_ _ _ _ _ _ _ _ _=>by kernel_rfl⟩
def Ek_ (E:Env)(call round:Ad)(tm:T Value):M (T Value):=
 M.bind (oS (T.get tm 3) λa=>kFld E 85 a 2) λv28=>
 M.bind (oS (some v28) λa=>AD E 36 a) λv29=>
 M.bind (oS (T.get tm 4) λa=>AD E 35 a) λv30=>
 M.bind (oS (seqP [(0,(some v30))]) λps=>C5 E 36 1 ps) λv31=>
 M.bind (oS (seqO [(some v29),(some v31)]) λl=>A6 E .append [36,36] l) λv32=>
 M.bind (oS (T.get tm 3) λa=>kFld E 85 a 2) λv33=>
 M.bind (oS (some v33) λa=>oS (some v32) λb=>Bo E 36 a b) λ_=>
 M.pure tm
theorem RN_:RegEq 85 36 CJ Nw Ek_:=⟨by kernel_rfl,λ_ _ _ _ _ _ _ _ _=>by kernel_rfl⟩
def Fq_ (E:Env)(call round:Ad)(tm:T Value):M (T Value):=
 M.bind (oS (T.get tm 13) λa=>oS (some (.int .i64 1)) λb=>Cl.get (aBin E .add 3 (.tmp 13) (.const (.int .i64 1))) a b) λv34=>
 mv (some v34) λv13=>
 setF 13 v13 tm λtm1=>
 M.pure tm1
theorem Akk_:RegEq 85 36 CJ US Fq_:=⟨by kernel_rfl,λ_ _ _ _ _ _ _ _ _=>by kernel_rfl⟩
def BO:Nat:=Ba Try.f37
abbrev O9:Nat:=72
def EB_:Code:=Try.f37.body.getD .skip
theorem SR:envS.fn.get 37=some Try.f37:=by kernel_rfl
theorem Ajh_ {a0:Value}{n:Nat}{s:St}{Q:Value->St->Prop}(h: ∀tm,T.get tm 0=some a0->W (runF envS n ⟨37,72,BO,tm,[.code EB_], .run, .normal,none⟩) (s.cxN cxN) λp s1=>Q p.1 (s1.cxN s.cx)):W (Ay envS (runF envS n) 37 [a0]) s Q:=
 W.call (by kernel_rfl) (by kernel_rfl) SR (by kernel_rfl) rfl rfl (by simp) (h _ (by kernel_rfl))
theorem Ih_:Try.f37.results.toList=[.tmp 2, .tmp 3]:=by kernel_rfl
def Un:List Item:=skim 64 [.code EB_]
def OT:List Item:=skim 64 Un.tail
theorem Pa_:skim 64 Un.tail=OT:=by kernel_rfl
def LC:List Item:=skim 64 OT.tail
theorem AbP_:skim 64 OT.tail=LC:=by kernel_rfl
def IS:List Item:=skim 64 LC.tail
theorem Cr_:skim 64 LC.tail=IS:=by kernel_rfl
def Oj:List Item:=skim 64 (brT IS)
theorem NI_:skim 64 (brT IS)=Oj:=by kernel_rfl
def LV:List Item:=skim 64 (brF IS)
theorem Agi_:skim 64 (brF IS)=LV:=by kernel_rfl
def SD:List Item:=skim 64 Oj.tail
theorem UB_:skim 64 Oj.tail=SD:=by kernel_rfl
def Ms:List Item:=skim 64 LV.tail
theorem Abq_:skim 64 LV.tail=Ms:=by kernel_rfl
def Ll:List Item:=skim 64 Ms.tail
theorem Ago_:skim 64 Ms.tail=Ll:=by kernel_rfl
def Hx:List Item:=skim 64 Ll.tail
theorem AbM_:skim 64 Ll.tail=Hx:=by kernel_rfl
def G0:List Item:=skim 64 Hx.tail
theorem HV_:skim 64 Hx.tail=G0:=by kernel_rfl
def Ma:List Item:=skim 64 (brT G0)
theorem RB_:skim 64 (brT G0)=Ma:=by kernel_rfl
def J3:List Item:=skim 64 (brF G0)
theorem LR_:skim 64 (brF G0)=J3:=by kernel_rfl
def La:List Item:=skim 64 Ma.tail
theorem YD_:skim 64 Ma.tail=La:=by kernel_rfl
def KR:List Item:=skim 64 J3.tail
theorem QL_:skim 64 J3.tail=KR:=by kernel_rfl
def OK:List Item:=skim 64 La.tail
theorem TK_:skim 64 La.tail=OK:=by kernel_rfl
def OG:List Item:=skim 64 KR.tail
theorem KE_:skim 64 KR.tail=OG:=by kernel_rfl
def Ly:List Item:=skim 64 OK.tail
theorem AkC_:skim 64 OK.tail=Ly:=by kernel_rfl
def Pv:List Item:=skim 64 (brF OG)
theorem Afb_:skim 64 (brF OG)=Pv:=by kernel_rfl
def Mu:List Item:=skim 64 Ly.tail
theorem Wk_:skim 64 Ly.tail=Mu:=by kernel_rfl
def To:List Item:=skim 64 Pv.tail
theorem All_:skim 64 Pv.tail=To:=by kernel_rfl
def If:List Item:=skim 64 Mu.tail
theorem Aej_:skim 64 Mu.tail=If:=by kernel_rfl
def Hy:List Item:=skim 64 If.tail
theorem W4:skim 64 If.tail=Hy:=by kernel_rfl
def MM:List Item:=skim 64 (brT Hy)
theorem Ajo_:skim 64 (brT Hy)=MM:=by kernel_rfl
def NM:List Item:=skim 64 (brF Hy)
theorem WH_:skim 64 (brF Hy)=NM:=by kernel_rfl
def NO:List Item:=skim 64 MM.tail
theorem AgB_:skim 64 MM.tail=NO:=by kernel_rfl
theorem Ado_:skim 64 NM.tail=Hx:=by kernel_rfl
def KQ:List Item:=skim 64 NO.tail
theorem AhW_:skim 64 NO.tail=KQ:=by kernel_rfl
def LU:List Item:=skim 64 KQ.tail
theorem OA_:skim 64 KQ.tail=LU:=by kernel_rfl
def Rk:List Item:=skim 64 LU.tail
theorem AjQ_:skim 64 LU.tail=Rk:=by kernel_rfl
theorem Mo_:skim 64 Rk.tail=If:=by kernel_rfl
def GI_ (E:Env)(call round:Ad)(tm:T Value):M (T Value):=
 mv (some (.slice none 0 0)) λv2=>
 setF 2 v2 tm λtm1=>
 mv (some (.int .i64 0)) λv3=>
 setF 3 v3 tm1 λtm2=>
 M.pure tm2
theorem Ajg_:RegEq 37 72 BO Un GI_:=⟨by kernel_rfl,λ_ _ _ _ _ _ _ _ _=>by kernel_rfl⟩
def FW_ (E:Env)(call round:Ad)(tm:T Value):M (T Value):=
 mv (T.get tm 0) λv12=>
 M.bind (M.on (some (.func (.func 43) #[] #[])) λf=>M.on (seqO [(some v12)]) λl=>AW call round f l) λv13=>
 mv (some v13) λv4=>
 setF 4 v4 tm λtm1=>
 M.pure tm1
theorem Ahq_:RegEq 37 72 BO OT FW_:=⟨by kernel_rfl,λ_ _ _ _ _ _ _ _ _=>by kernel_rfl⟩
def X5 (E:Env)(call round:Ad)(tm:T Value):M (T Value):=
 mv (T.get tm 4) λv14=>
 M.bind (oS (some v14) λa=>oS (some (.int .i64 0)) λb=>Cl.get (aBin E .neq 27 (.tmp 14) (.const (.int .i64 0))) a b) λv15=>
 setF 15 v15 tm λtm1=>
 M.pure tm1
theorem AaG_:RegEq 37 72 BO LC X5:=⟨by kernel_rfl,λ_ _ _ _ _ _ _ _ _=>by kernel_rfl⟩
theorem Y4:A5 IS=some 15:=by kernel_rfl
def Fl_ (E:Env)(call round:Ad)(tm:T Value):M (T Value):=
 mv (T.get tm 4) λv16=>
 mv (some (.slice none 0 0)) λv2=>
 setF 2 v2 tm λtm1=>
 mv (some v16) λv3=>
 setF 3 v3 tm1 λtm2=>
 M.pure tm2
theorem Aif_:RegEq 37 72 BO Oj Fl_:=⟨by kernel_rfl,λ_ _ _ _ _ _ _ _ _=>by kernel_rfl⟩
def X9 (E:Env)(call round:Ad)(tm:T Value):M (T Value):=
 M.bind (M.on (some (.func (.func 75) #[] #[])) λf=>M.on (seqO []) λl=>AW call round f l) λv17=>
 mv (some v17) λv5=>
 setF 5 v5 tm λtm1=>
 M.pure tm1
theorem Afs_:RegEq 37 72 BO LV X9:=⟨by kernel_rfl,λ_ _ _ _ _ _ _ _ _=>by kernel_rfl⟩
theorem Alc_: ∃k,SD= .code .ret::k:=⟨SD.tail,by kernel_rfl⟩
def Ww (E:Env)(call round:Ad)(tm:T Value):M (T Value):=
 mv (T.get tm 5) λv18=>
 mv (T.get tm 0) λv19=>
 M.bind (oS (seqO [(some v19)]) λl=>A6 E .len [55] l) λv20=>
 M.bind (M.on (some (.func (.func 76) #[] #[])) λf=>M.on (seqO [(some v18),(some v20)]) λl=>AW call round f l) λv21=>
 M.pure tm
theorem Wi_:RegEq 37 72 BO Ms Ww:=⟨by kernel_rfl,λ_ _ _ _ _ _ _ _ _=>by kernel_rfl⟩
def Gw_ (E:Env)(call round:Ad)(tm:T Value):M (T Value):=
 mv (T.get tm 0) λv22=>
 setF 22 v22 tm λtm1=>
 M.bind (oS (seqO [(some v22)]) λl=>A6 E .len [55] l) λv23=>
 setF 23 v23 tm1 λtm2=>
 mv (some (.int .i64 0)) λv24=>
 setF 24 v24 tm2 λtm3=>
 M.pure tm3
theorem AcV_:RegEq 37 72 BO Ll Gw_:=⟨by kernel_rfl,λ_ _ _ _ _ _ _ _ _=>by kernel_rfl⟩
def Vd (E:Env)(call round:Ad)(tm:T Value):M (T Value):=
 M.bind (oS (T.get tm 24) λa=>oS (T.get tm 23) λb=>Cl.get (aBin E .lss 3 (.tmp 24) (.tmp 23)) a b) λv25=>
 setF 25 v25 tm λtm1=>
 M.pure tm1
theorem EG_:RegEq 37 72 BO Hx Vd:=⟨by kernel_rfl,λ_ _ _ _ _ _ _ _ _=>by kernel_rfl⟩
theorem X7:A5 G0=some 25:=by kernel_rfl
def Dd_ (E:Env)(call round:Ad)(tm:T Value):M (T Value):=
 M.bind (oS (T.get tm 22) λa=>oS (T.get tm 24) λb=>Bt E 55 a b) λv26=>
 M.bind (oS (some v26) λa=>AD E 85 a) λv27=>
 M.bind (BV E 85) λv7=>
 setF 7 v7 tm λtm1=>
 M.bind (oS (some v7) λa=>oS (some v27) λb=>Bo E 85 a b) λ_=>
 M.pure tm1
theorem Pg_:RegEq 37 72 BO Ma Dd_:=⟨by kernel_rfl,λ_ _ _ _ _ _ _ _ _=>by kernel_rfl⟩
def Z7 (E:Env)(call round:Ad)(tm:T Value):M (T Value):=
 mv (T.get tm 5) λv63=>
 M.bind (M.on (some (.func (.func 78) #[] #[])) λf=>M.on (seqO [(some v63)]) λl=>AW call round f l) λv64=>
 mv (some v64) λv62=>
 M.bind (oS (some v62) λa=>kExt 0 a) λv65=>
 M.bind (oS (some v62) λa=>kExt 1 a) λv66=>
 mv (some v65) λv10=>
 setF 10 v10 tm λtm1=>
 mv (some v66) λv11=>
 setF 11 v11 tm1 λtm2=>
 M.pure tm2
theorem Rs_:RegEq 37 72 BO J3 Z7:=⟨by kernel_rfl,λ_ _ _ _ _ _ _ _ _=>by kernel_rfl⟩
def XN (E:Env)(call round:Ad)(tm:T Value):M (T Value):=
 mv (T.get tm 5) λv28=>
 M.bind (oS (T.get tm 7) λa=>kFld E 85 a 0) λv29=>
 M.bind (oS (some v29) λa=>AD E 3 a) λv30=>
 M.bind (M.on (some (.func (.func 76) #[] #[])) λf=>M.on (seqO [(some v28),(some v30)]) λl=>AW call round f l) λv31=>
 M.pure tm
theorem AcE_:RegEq 37 72 BO La XN:=⟨by kernel_rfl,λ_ _ _ _ _ _ _ _ _=>by kernel_rfl⟩
def Fs_ (E:Env)(call round:Ad)(tm:T Value):M (T Value):=
 mv (T.get tm 11) λv67=>
 M.bind (oS (some v67) λa=>oS (some (.int .i64 0)) λb=>Cl.get (aBin E .neq 27 (.tmp 67) (.const (.int .i64 0))) a b) λv68=>
 setF 68 v68 tm λtm1=>
 M.pure tm1
theorem Tk_:RegEq 37 72 BO KR Fs_:=⟨by kernel_rfl,λ_ _ _ _ _ _ _ _ _=>by kernel_rfl⟩
def Ay_ (E:Env)(call round:Ad)(tm:T Value):M (T Value):=
 mv (T.get tm 5) λv32=>
 M.bind (oS (T.get tm 7) λa=>kFld E 85 a 1) λv33=>
 M.bind (oS (some v33) λa=>AD E 3 a) λv34=>
 M.bind (M.on (some (.func (.func 76) #[] #[])) λf=>M.on (seqO [(some v32),(some v34)]) λl=>AW call round f l) λv35=>
 M.pure tm
theorem MR_:RegEq 37 72 BO OK Ay_:=⟨by kernel_rfl,λ_ _ _ _ _ _ _ _ _=>by kernel_rfl⟩
theorem Acw_:A5 OG=some 68:=by kernel_rfl
def Gg_ (E:Env)(call round:Ad)(tm:T Value):M (T Value):=
 mv (T.get tm 5) λv36=>
 M.bind (oS (T.get tm 7) λa=>kFld E 85 a 2) λv37=>
 M.bind (oS (some v37) λa=>AD E 36 a) λv38=>
 M.bind (oS (seqO [(some v38)]) λl=>A6 E .len [36] l) λv39=>
 M.bind (M.on (some (.func (.func 76) #[] #[])) λf=>M.on (seqO [(some v36),(some v39)]) λl=>AW call round f l) λv40=>
 M.pure tm
theorem Ub_:RegEq 37 72 BO Ly Gg_:=⟨by kernel_rfl,λ_ _ _ _ _ _ _ _ _=>by kernel_rfl⟩
def Jo_ (E:Env)(call round:Ad)(tm:T Value):M (T Value):=
 mv (T.get tm 10) λv70=>
 M.bind (M.on (some (.func (.func 64) #[] #[])) λf=>M.on (seqO [(some v70)]) λl=>AW call round f l) λv71=>
 mv (some v71) λv2=>
 setF 2 v2 tm λtm1=>
 mv (some (.int .i64 0)) λv3=>
 setF 3 v3 tm1 λtm2=>
 M.pure tm2
theorem Abv_:RegEq 37 72 BO Pv Jo_:=⟨by kernel_rfl,λ_ _ _ _ _ _ _ _ _=>by kernel_rfl⟩
def Jw_ (E:Env)(call round:Ad)(tm:T Value):M (T Value):=
 M.bind (oS (T.get tm 7) λa=>kFld E 85 a 2) λv41=>
 M.bind (oS (some v41) λa=>AD E 36 a) λv42=>
 setF 42 v42 tm λtm1=>
 M.bind (oS (seqO [(some v42)]) λl=>A6 E .len [36] l) λv43=>
 setF 43 v43 tm1 λtm2=>
 mv (some (.int .i64 0)) λv44=>
 setF 44 v44 tm2 λtm3=>
 M.pure tm3
theorem Vs_:RegEq 37 72 BO Mu Jw_:=⟨by kernel_rfl,λ_ _ _ _ _ _ _ _ _=>by kernel_rfl⟩
theorem MD_: ∃k,To= .code .ret::k:=⟨To.tail,by kernel_rfl⟩
def Sa (E:Env)(call round:Ad)(tm:T Value):M (T Value):=
 M.bind (oS (T.get tm 44) λa=>oS (T.get tm 43) λb=>Cl.get (aBin E .lss 3 (.tmp 44) (.tmp 43)) a b) λv45=>
 setF 45 v45 tm λtm1=>
 M.pure tm1
theorem Bu_:RegEq 37 72 BO If Sa:=⟨by kernel_rfl,λ_ _ _ _ _ _ _ _ _=>by kernel_rfl⟩
theorem Zv:A5 Hy=some 45:=by kernel_rfl
def Gz_ (E:Env)(call round:Ad)(tm:T Value):M (T Value):=
 M.bind (oS (T.get tm 42) λa=>oS (T.get tm 44) λb=>Bt E 36 a b) λv46=>
 M.bind (oS (some v46) λa=>AD E 35 a) λv47=>
 M.bind (BV E 35) λv9=>
 setF 9 v9 tm λtm1=>
 M.bind (oS (some v9) λa=>oS (some v47) λb=>Bo E 35 a b) λ_=>
 M.pure tm1
theorem Ajk_:RegEq 37 72 BO MM Gz_:=⟨by kernel_rfl,λ_ _ _ _ _ _ _ _ _=>by kernel_rfl⟩
def Bz_ (E:Env)(call round:Ad)(tm:T Value):M (T Value):=
 M.bind (oS (T.get tm 24) λa=>oS (some (.int .i64 1)) λb=>Cl.get (aBin E .add 3 (.tmp 24) (.const (.int .i64 1))) a b) λv61=>
 mv (some v61) λv24=>
 setF 24 v24 tm λtm1=>
 M.pure tm1
theorem PR_:RegEq 37 72 BO NM Bz_:=⟨by kernel_rfl,λ_ _ _ _ _ _ _ _ _=>by kernel_rfl⟩
def Zt (E:Env)(call round:Ad)(tm:T Value):M (T Value):=
 mv (T.get tm 5) λv48=>
 M.bind (oS (T.get tm 9) λa=>kFld E 35 a 0) λv49=>
 M.bind (oS (some v49) λa=>AD E 26 a) λv50=>
 M.bind (M.on (some (.func (.func 77) #[] #[])) λf=>M.on (seqO [(some v48),(some v50)]) λl=>AW call round f l) λv51=>
 M.pure tm
theorem TU_:RegEq 37 72 BO NO Zt:=⟨by kernel_rfl,λ_ _ _ _ _ _ _ _ _=>by kernel_rfl⟩
def ZW (E:Env)(call round:Ad)(tm:T Value):M (T Value):=
 mv (T.get tm 5) λv52=>
 M.bind (oS (T.get tm 9) λa=>kFld E 35 a 1) λv53=>
 M.bind (oS (some v53) λa=>AD E 3 a) λv54=>
 M.bind (M.on (some (.func (.func 76) #[] #[])) λf=>M.on (seqO [(some v52),(some v54)]) λl=>AW call round f l) λv55=>
 M.pure tm
theorem Acg_:RegEq 37 72 BO KQ ZW:=⟨by kernel_rfl,λ_ _ _ _ _ _ _ _ _=>by kernel_rfl⟩
def YH (E:Env)(call round:Ad)(tm:T Value):M (T Value):=
 mv (T.get tm 5) λv56=>
 M.bind (oS (T.get tm 9) λa=>kFld E 35 a 2) λv57=>
 M.bind (oS (some v57) λa=>AD E 3 a) λv58=>
 M.bind (M.on (some (.func (.func 76) #[] #[])) λf=>M.on (seqO [(some v56),(some v58)]) λl=>AW call round f l) λv59=>
 M.pure tm
theorem Wy_:RegEq 37 72 BO LU YH:=⟨by kernel_rfl,λ_ _ _ _ _ _ _ _ _=>by kernel_rfl⟩
def GF_ (E:Env)(call round:Ad)(tm:T Value):M (T Value):=
 M.bind (oS (T.get tm 44) λa=>oS (some (.int .i64 1)) λb=>Cl.get (aBin E .add 3 (.tmp 44) (.const (.int .i64 1))) a b) λv60=>
 mv (some v60) λv44=>
 setF 44 v44 tm λtm1=>
 M.pure tm1
theorem ZE_:RegEq 37 72 BO Rk GF_:=⟨by kernel_rfl,λ_ _ _ _ _ _ _ _ _=>by kernel_rfl⟩
def CC:Nat:=Ba Try.f39
abbrev PM:Nat:=41
def JS_:Code:=Try.f39.body.getD .skip
theorem Pj:envS.fn.get 39=some Try.f39:=by kernel_rfl
theorem Yp_ {a0:Value}{n:Nat}{s:St}{Q:Value->St->Prop}(h: ∀tm,T.get tm 0=some a0->W (runF envS n ⟨39,41,CC,tm,[.code JS_], .run, .normal,none⟩) (s.cxN cxN) λp s1=>Q p.1 (s1.cxN s.cx)):W (Ay envS (runF envS n) 39 [a0]) s Q:=
 W.call (by kernel_rfl) (by kernel_rfl) Pj (by kernel_rfl) rfl rfl (by simp) (h _ (by kernel_rfl))
theorem S7:Try.f39.results.toList=[.tmp 2, .tmp 3]:=by kernel_rfl
def TV:List Item:=skim 64 [.code JS_]
def Mo:List Item:=skim 64 TV.tail
theorem QG_:skim 64 TV.tail=Mo:=by kernel_rfl
def Jt:List Item:=skim 64 Mo.tail
theorem QX:skim 64 Mo.tail=Jt:=by kernel_rfl
def II:List Item:=skim 64 Jt.tail
theorem FA_:skim 64 Jt.tail=II:=by kernel_rfl
def Lu:List Item:=skim 64 (brT II)
theorem Xq_:skim 64 (brT II)=Lu:=by kernel_rfl
def Pk:List Item:=skim 64 (brF II)
theorem AkX_:skim 64 (brF II)=Pk:=by kernel_rfl
def SG:List Item:=skim 64 Lu.tail
theorem Or_:skim 64 Lu.tail=SG:=by kernel_rfl
def M6:List Item:=skim 64 Pk.tail
theorem Agp_:skim 64 Pk.tail=M6:=by kernel_rfl
def PL:List Item:=skim 64 M6.tail
theorem Vw_:skim 64 M6.tail=PL:=by kernel_rfl
def G1:List Item:=skim 64 PL.tail
theorem Uw_:skim 64 PL.tail=G1:=by kernel_rfl
def GT:List Item:=skim 64 G1.tail
theorem JU_:skim 64 G1.tail=GT:=by kernel_rfl
def NS:List Item:=skim 64 (brT GT)
theorem YZ_:skim 64 (brT GT)=NS:=by kernel_rfl
def Hu:List Item:=skim 64 (brF GT)
theorem No_:skim 64 (brF GT)=Hu:=by kernel_rfl
def IY:List Item:=skim 64 NS.tail
theorem XZ:skim 64 NS.tail=IY:=by kernel_rfl
def F4:List Item:=skim 64 Hu.tail
theorem SQ:skim 64 Hu.tail=F4:=by kernel_rfl
theorem MY_:skim 64 (brT IY)=Hu:=by kernel_rfl
def Ol:List Item:=skim 64 (brF IY)
theorem Aas_:skim 64 (brF IY)=Ol:=by kernel_rfl
def P0:List Item:=skim 64 (brT F4)
theorem QK_:skim 64 (brT F4)=P0:=by kernel_rfl
def M3:List Item:=skim 64 (brF F4)
theorem AcK_:skim 64 (brF F4)=M3:=by kernel_rfl
def Ur:List Item:=skim 64 Ol.tail
theorem AfV_:skim 64 Ol.tail=Ur:=by kernel_rfl
def SV:List Item:=skim 64 P0.tail
theorem Oh_:skim 64 P0.tail=SV:=by kernel_rfl
def VB:List Item:=skim 64 M3.tail
theorem XW_:skim 64 M3.tail=VB:=by kernel_rfl
theorem TM_:skim 64 Ur.tail=G1:=by kernel_rfl
def HZ_ (E:Env)(call round:Ad)(tm:T Value):M (T Value):=
 mv (some (.slice none 0 0)) λv2=>
 setF 2 v2 tm λtm1=>
 mv (some (.int .i64 0)) λv3=>
 setF 3 v3 tm1 λtm2=>
 M.pure tm2
theorem AcN_:RegEq 39 41 CC TV HZ_:=⟨by kernel_rfl,λ_ _ _ _ _ _ _ _ _=>by kernel_rfl⟩
def Ye (E:Env)(call round:Ad)(tm:T Value):M (T Value):=
 mv (T.get tm 0) λv9=>
 M.bind (M.on (some (.func (.func 81) #[] #[])) λf=>M.on (seqO [(some v9)]) λl=>AW call round f l) λv10=>
 mv (some v10) λv8=>
 M.bind (oS (some v8) λa=>kExt 0 a) λv11=>
 M.bind (oS (some v8) λa=>kExt 1 a) λv12=>
 mv (some v11) λv4=>
 setF 4 v4 tm λtm1=>
 mv (some v12) λv5=>
 setF 5 v5 tm1 λtm2=>
 M.pure tm2
theorem Abh_:RegEq 39 41 CC Mo Ye:=⟨by kernel_rfl,λ_ _ _ _ _ _ _ _ _=>by kernel_rfl⟩
def Sd (E:Env)(call round:Ad)(tm:T Value):M (T Value):=
 mv (T.get tm 5) λv13=>
 M.bind (oS (some v13) λa=>oS (some (.int .i64 0)) λb=>Cl.get (aBin E .neq 27 (.tmp 13) (.const (.int .i64 0))) a b) λv14=>
 setF 14 v14 tm λtm1=>
 M.pure tm1
theorem GL_:RegEq 39 41 CC Jt Sd:=⟨by kernel_rfl,λ_ _ _ _ _ _ _ _ _=>by kernel_rfl⟩
theorem YR:A5 II=some 14:=by kernel_rfl
def Hu_ (E:Env)(call round:Ad)(tm:T Value):M (T Value):=
 mv (some (.slice none 0 0)) λv2=>
 setF 2 v2 tm λtm1=>
 mv (some (.int .i64 4)) λv3=>
 setF 3 v3 tm1 λtm2=>
 M.pure tm2
theorem Xy_:RegEq 39 41 CC Lu Hu_:=⟨by kernel_rfl,λ_ _ _ _ _ _ _ _ _=>by kernel_rfl⟩
def Ea_ (E:Env)(call round:Ad)(tm:T Value):M (T Value):=
 mv (T.get tm 4) λv15=>
 M.bind (M.on (some (.func (.func 82) #[] #[])) λf=>M.on (seqO [(some v15)]) λl=>AW call round f l) λv16=>
 mv (some v16) λv6=>
 setF 6 v6 tm λtm1=>
 M.pure tm1
theorem LJ_:RegEq 39 41 CC Pk Ea_:=⟨by kernel_rfl,λ_ _ _ _ _ _ _ _ _=>by kernel_rfl⟩
theorem Tv_: ∃k,SG= .code .ret::k:=⟨SG.tail,by kernel_rfl⟩
def CW_ (E:Env)(call round:Ad)(tm:T Value):M (T Value):=
 mv (some (.slice none 0 0)) λv7=>
 setF 7 v7 tm λtm1=>
 M.pure tm1
theorem Agw_:RegEq 39 41 CC M6 CW_:=⟨by kernel_rfl,λ_ _ _ _ _ _ _ _ _=>by kernel_rfl⟩
def GR_ (E:Env)(call round:Ad)(tm:T Value):M (T Value):=
 mv (T.get tm 6) λv17=>
 M.bind (M.on (some (.func (.func 83) #[] #[])) λf=>M.on (seqO [(some v17),(some (.int .i64 500))]) λl=>AW call round f l) λv18=>
 setF 18 v18 tm λtm1=>
 mv (some (.int .i64 0)) λv19=>
 setF 19 v19 tm1 λtm2=>
 M.pure tm2
theorem Ts_:RegEq 39 41 CC PL GR_:=⟨by kernel_rfl,λ_ _ _ _ _ _ _ _ _=>by kernel_rfl⟩
def Rc (E:Env)(call round:Ad)(tm:T Value):M (T Value):=
 M.bind (oS (T.get tm 19) λa=>oS (T.get tm 18) λb=>Cl.get (aBin E .lss 3 (.tmp 19) (.tmp 18)) a b) λv20=>
 setF 20 v20 tm λtm1=>
 M.pure tm1
theorem Fz_:RegEq 39 41 CC G1 Rc:=⟨by kernel_rfl,λ_ _ _ _ _ _ _ _ _=>by kernel_rfl⟩
theorem IY_:A5 GT=some 20:=by kernel_rfl
def HE_ (E:Env)(call round:Ad)(tm:T Value):M (T Value):=
 mv (T.get tm 6) λv21=>
 M.bind (M.on (some (.func (.func 84) #[] #[])) λf=>M.on (seqO [(some v21)]) λl=>AW call round f l) λv22=>
 M.bind (oS (some v22) λa=>Du E 116 a 0) λv23=>
 M.bind (oS (some v23) λa=>oS (some (.int .i64 0)) λb=>Cl.get (aBin E .neq 27 (.tmp 23) (.const (.int .i64 0))) a b) λv24=>
 setF 24 v24 tm λtm1=>
 M.pure tm1
theorem AhO_:RegEq 39 41 CC NS HE_:=⟨by kernel_rfl,λ_ _ _ _ _ _ _ _ _=>by kernel_rfl⟩
def GH_ (E:Env)(call round:Ad)(tm:T Value):M (T Value):=
 mv (T.get tm 6) λv31=>
 M.bind (M.on (some (.func (.func 86) #[] #[])) λf=>M.on (seqO [(some v31)]) λl=>AW call round f l) λv32=>
 M.bind (oS (some v32) λa=>Du E 116 a 0) λv33=>
 M.bind (oS (some v33) λa=>oS (some (.int .i64 0)) λb=>Cl.get (aBin E .neq 27 (.tmp 33) (.const (.int .i64 0))) a b) λv34=>
 mv (some v34) λv35=>
 M.bind (M.chk (isK v35) (aC (isB v35 false) (oS (T.get tm 7) λa=>M.pure a) (M.pure undef))) λv36=>
 M.bind (M.chk (isK v35) (aC (isB v35 false) (M.on (some (.func (.func 43) #[] #[])) λf=>M.on (seqO [(some v36)]) λl=>AW call round f l) (M.pure undef))) λv37=>
 M.bind (M.chk (isK v35) (aC (isB v35 false) (oS (some v37) λa=>oS (some (.int .i64 0)) λb=>Cl.get (aBin E .neq 27 (.tmp 37) (.const (.int .i64 0))) a b) (M.pure undef))) λv38=>
 M.bind (M.on (some v35) λa=>M.on (some (.bool true)) λb=>M.on (some v38) λc=>Bp a b c) λv39=>
 setF 39 v39 tm λtm1=>
 M.pure tm1
theorem AkJ_:RegEq 39 41 CC Hu GH_:=⟨by kernel_rfl,λ_ _ _ _ _ _ _ _ _=>by kernel_rfl⟩
theorem EZ_:A5 IY=some 24:=by kernel_rfl
theorem Do_:A5 F4=some 39:=by kernel_rfl
def WQ (E:Env)(call round:Ad)(tm:T Value):M (T Value):=
 mv (T.get tm 7) λv25=>
 mv (T.get tm 6) λv26=>
 M.bind (M.on (some (.func (.func 85) #[] #[])) λf=>M.on (seqO [(some v26)]) λl=>AW call round f l) λv27=>
 M.bind (oS (seqP [(0,(some v27))]) λps=>C5 E 55 1 ps) λv28=>
 M.bind (oS (seqO [(some v25),(some v28)]) λl=>A6 E .append [55,55] l) λv29=>
 mv (some v29) λv7=>
 setF 7 v7 tm λtm1=>
 M.pure tm1
theorem AiS_:RegEq 39 41 CC Ol WQ:=⟨by kernel_rfl,λ_ _ _ _ _ _ _ _ _=>by kernel_rfl⟩
def BO_ (E:Env)(call round:Ad)(tm:T Value):M (T Value):=
 mv (some (.slice none 0 0)) λv2=>
 setF 2 v2 tm λtm1=>
 mv (some (.int .i64 4)) λv3=>
 setF 3 v3 tm1 λtm2=>
 M.pure tm2
theorem AgC_:RegEq 39 41 CC P0 BO_:=⟨by kernel_rfl,λ_ _ _ _ _ _ _ _ _=>by kernel_rfl⟩
def Km_ (E:Env)(call round:Ad)(tm:T Value):M (T Value):=
 mv (T.get tm 7) λv40=>
 mv (some v40) λv2=>
 setF 2 v2 tm λtm1=>
 mv (some (.int .i64 0)) λv3=>
 setF 3 v3 tm1 λtm2=>
 M.pure tm2
theorem VZ_:RegEq 39 41 CC M3 Km_:=⟨by kernel_rfl,λ_ _ _ _ _ _ _ _ _=>by kernel_rfl⟩
def DH_ (E:Env)(call round:Ad)(tm:T Value):M (T Value):=
 M.bind (oS (T.get tm 19) λa=>oS (some (.int .i64 1)) λb=>Cl.get (aBin E .add 3 (.tmp 19) (.const (.int .i64 1))) a b) λv30=>
 mv (some v30) λv19=>
 setF 19 v19 tm λtm1=>
 M.pure tm1
theorem Ags_:RegEq 39 41 CC Ur DH_:=⟨by kernel_rfl,λ_ _ _ _ _ _ _ _ _=>by kernel_rfl⟩
theorem Ale_: ∃k,SV= .code .ret::k:=⟨SV.tail,by kernel_rfl⟩
theorem Tw_: ∃k,VB= .code .ret::k:=⟨VB.tail,by kernel_rfl⟩
def BB:Nat:=Ba Try.f13
abbrev EF:Nat:=155
def Ka_:Code:=Try.f13.body.getD .skip
theorem MT:envS.fn.get 13=some Try.f13:=by kernel_rfl
theorem AdG_ {a0 a1 a2 a3:Value}{n:Nat}{s:St}{Q:Value->St->Prop}(h: ∀tm,T.get tm 0=some a0->T.get tm 1=some a1->T.get tm 2=some a2->T.get tm 3=some a3->W (runF envS n ⟨13,155,BB,tm,[.code Ka_], .run, .normal,none⟩) (s.cxN cxN) λp s1=>Q p.1 (s1.cxN s.cx)):W (Ay envS (runF envS n) 13 [a0,a1,a2,a3]) s Q:=
 W.call (by kernel_rfl) (by kernel_rfl) MT (by kernel_rfl) rfl rfl (by simp) (h _ (by kernel_rfl) (by kernel_rfl) (by kernel_rfl) (by kernel_rfl))
theorem Vy:Try.f13.results.toList=[.tmp 8]:=by kernel_rfl
def Qi:List Item:=skim 64 [.code Ka_]
def OY:List Item:=skim 64 Qi.tail
theorem Ajp_:skim 64 Qi.tail=OY:=by kernel_rfl
def M8:List Item:=skim 64 OY.tail
theorem SW_:skim 64 OY.tail=M8:=by kernel_rfl
def FQ:List Item:=skim 64 M8.tail
theorem Tq:skim 64 M8.tail=FQ:=by kernel_rfl
def Mb:List Item:=skim 64 (brT FQ)
theorem Od_:skim 64 (brT FQ)=Mb:=by kernel_rfl
def NZ:List Item:=skim 64 (brF FQ)
theorem QU_:skim 64 (brF FQ)=NZ:=by kernel_rfl
def RD:List Item:=skim 64 Mb.tail
theorem YE_:skim 64 Mb.tail=RD:=by kernel_rfl
def MJ:List Item:=skim 64 NZ.tail
theorem DX_:skim 64 NZ.tail=MJ:=by kernel_rfl
def N2:List Item:=skim 64 MJ.tail
theorem Am_:skim 64 MJ.tail=N2:=by kernel_rfl
def NH:List Item:=skim 64 (brF N2)
theorem DG_:skim 64 (brF N2)=NH:=by kernel_rfl
def Hk:List Item:=skim 64 NH.tail
theorem Xk:skim 64 NH.tail=Hk:=by kernel_rfl
def MR:List Item:=skim 64 (brT Hk)
theorem AcO_:skim 64 (brT Hk)=MR:=by kernel_rfl
def GQ:List Item:=skim 64 (brF Hk)
theorem VN_:skim 64 (brF Hk)=GQ:=by kernel_rfl
def Om:List Item:=skim 64 MR.tail
theorem AdA_:skim 64 MR.tail=Om:=by kernel_rfl
def Mx:List Item:=skim 64 GQ.tail
theorem Hl_:skim 64 GQ.tail=Mx:=by kernel_rfl
def PO:List Item:=skim 64 Om.tail
theorem Lh_:skim 64 Om.tail=PO:=by kernel_rfl
def H3:List Item:=skim 64 Mx.tail
theorem Jp_:skim 64 Mx.tail=H3:=by kernel_rfl
def Lq:List Item:=skim 64 (brF PO)
theorem AhA_:skim 64 (brF PO)=Lq:=by kernel_rfl
def Px:List Item:=skim 64 (brT H3)
theorem Ael_:skim 64 (brT H3)=Px:=by kernel_rfl
def Oo:List Item:=skim 64 (brF H3)
theorem ND_:skim 64 (brF H3)=Oo:=by kernel_rfl
def NJ:List Item:=skim 64 Lq.tail
theorem Td_:skim 64 Lq.tail=NJ:=by kernel_rfl
def SN:List Item:=skim 64 Px.tail
theorem Nt_:skim 64 Px.tail=SN:=by kernel_rfl
def Mj:List Item:=skim 64 Oo.tail
theorem AiV_:skim 64 Oo.tail=Mj:=by kernel_rfl
def N5:List Item:=skim 64 NJ.tail
theorem Wh_:skim 64 NJ.tail=N5:=by kernel_rfl
def R8:List Item:=skim 64 Mj.tail
theorem Akr_:skim 64 Mj.tail=R8:=by kernel_rfl
def Hq:List Item:=skim 64 N5.tail
theorem Aio_:skim 64 N5.tail=Hq:=by kernel_rfl
def GX:List Item:=skim 64 Hq.tail
theorem XB:skim 64 Hq.tail=GX:=by kernel_rfl
def NI:List Item:=skim 64 (brT GX)
theorem YP_:skim 64 (brT GX)=NI:=by kernel_rfl
def J2:List Item:=skim 64 (brF GX)
theorem TO_:skim 64 (brF GX)=J2:=by kernel_rfl
def HG:List Item:=skim 64 NI.tail
theorem BW_:skim 64 NI.tail=HG:=by kernel_rfl
def KJ:List Item:=skim 64 J2.tail
theorem ZL:skim 64 J2.tail=KJ:=by kernel_rfl
def JM:List Item:=skim 64 (brT HG)
theorem Sv_:skim 64 (brT HG)=JM:=by kernel_rfl
def IT:List Item:=skim 64 (brF HG)
theorem Acs_:skim 64 (brF HG)=IT:=by kernel_rfl
def N1:List Item:=skim 64 KJ.tail
theorem Aw_:skim 64 KJ.tail=N1:=by kernel_rfl
theorem ZJ_:skim 64 JM.tail=IT:=by kernel_rfl
theorem WT_:skim 64 IT.tail=Hq:=by kernel_rfl
theorem Afr_:skim 64 (brF N1)=GQ:=by kernel_rfl
def WH (E:Env)(call round:Ad)(tm:T Value):M (T Value):=
 mv (some (.bool false)) λv8=>
 setF 8 v8 tm λtm1=>
 M.pure tm1
theorem Uf_:RegEq 13 155 BB Qi WH:=⟨by kernel_rfl,λ_ _ _ _ _ _ _ _ _=>by kernel_rfl⟩
def Yw (E:Env)(call round:Ad)(tm:T Value):M (T Value):=
 M.bind (M.on (some (.func (.func 58) #[] #[])) λf=>M.on (seqO []) λl=>AW call round f l) λv23=>
 mv (some v23) λv9=>
 setF 9 v9 tm λtm1=>
 M.pure tm1
theorem AeB_:RegEq 13 155 BB OY Yw:=⟨by kernel_rfl,λ_ _ _ _ _ _ _ _ _=>by kernel_rfl⟩
def Xa (E:Env)(call round:Ad)(tm:T Value):M (T Value):=
 mv (T.get tm 0) λv24=>
 M.bind (M.on (some (.func (.func 34) #[] #[])) λf=>M.on (seqO [(some v24),(some (.int .i64 520)),(some (.int .i64 300))]) λl=>AW call round f l) λv25=>
 mv (some v25) λv26=>
 M.bind (M.chk (isK v26) (aC (isB v26 false) (oS (T.get tm 1) λa=>M.pure a) (M.pure undef))) λv27=>
 M.bind (M.chk (isK v26) (aC (isB v26 false) (oS (seqO [(some v27)]) λl=>A6 E .len [22] l) (M.pure undef))) λv28=>
 M.bind (M.chk (isK v26) (aC (isB v26 false) (oS (some v28) λa=>oS (some (.int .i64 3000)) λb=>Cl.get (aBin E .gtr 3 (.tmp 28) (.const (.int .i64 3000))) a b) (M.pure undef))) λv29=>
 M.bind (M.on (some v26) λa=>M.on (some (.bool true)) λb=>M.on (some v29) λc=>Bp a b c) λv30=>
 setF 30 v30 tm λtm1=>
 M.pure tm1
theorem Afa_:RegEq 13 155 BB M8 Xa:=⟨by kernel_rfl,λ_ _ _ _ _ _ _ _ _=>by kernel_rfl⟩
theorem HI_:A5 FQ=some 30:=by kernel_rfl
def Ju_ (E:Env)(call round:Ad)(tm:T Value):M (T Value):=
 mv (T.get tm 9) λv31=>
 mv (some v31) λv8=>
 setF 8 v8 tm λtm1=>
 M.pure tm1
theorem Xz_:RegEq 13 155 BB Mb Ju_:=⟨by kernel_rfl,λ_ _ _ _ _ _ _ _ _=>by kernel_rfl⟩
def EO_ (E:Env)(call round:Ad)(tm:T Value):M (T Value):=
 mv (T.get tm 0) λv33=>
 M.bind (M.on (some (.func (.func 37) #[] #[])) λf=>M.on (seqO [(some v33)]) λl=>AW call round f l) λv34=>
 mv (some v34) λv32=>
 M.bind (oS (some v32) λa=>kExt 0 a) λv35=>
 M.bind (oS (some v32) λa=>kExt 1 a) λv36=>
 mv (some v35) λv10=>
 setF 10 v10 tm λtm1=>
 mv (some v36) λv11=>
 setF 11 v11 tm1 λtm2=>
 M.pure tm2
theorem Ye_:RegEq 13 155 BB NZ EO_:=⟨by kernel_rfl,λ_ _ _ _ _ _ _ _ _=>by kernel_rfl⟩
theorem NR_: ∃k,RD= .code .ret::k:=⟨RD.tail,by kernel_rfl⟩
def QH (E:Env)(call round:Ad)(tm:T Value):M (T Value):=
 mv (T.get tm 11) λv37=>
 mv (T.get tm 0) λv38=>
 M.bind (M.on (some (.func (.func 43) #[] #[])) λf=>M.on (seqO [(some v38)]) λl=>AW call round f l) λv39=>
 M.bind (oS (some v37) λa=>oS (some v39) λb=>Cl.get (aBin E .neq 27 (.tmp 37) (.tmp 39)) a b) λv40=>
 setF 40 v40 tm λtm1=>
 M.pure tm1
theorem BY_:RegEq 13 155 BB MJ QH:=⟨by kernel_rfl,λ_ _ _ _ _ _ _ _ _=>by kernel_rfl⟩
theorem Xi:A5 N2=some 40:=by kernel_rfl
def RW (E:Env)(call round:Ad)(tm:T Value):M (T Value):=
 mv (T.get tm 11) λv41=>
 M.bind (oS (some v41) λa=>oS (some (.int .i64 0)) λb=>Cl.get (aBin E .eql 27 (.tmp 41) (.const (.int .i64 0))) a b) λv42=>
 setF 42 v42 tm λtm1=>
 M.pure tm1
theorem Yq:RegEq 13 155 BB NH RW:=⟨by kernel_rfl,λ_ _ _ _ _ _ _ _ _=>by kernel_rfl⟩
theorem Hs_:A5 Hk=some 42:=by kernel_rfl
def Yj (E:Env)(call round:Ad)(tm:T Value):M (T Value):=
 mv (T.get tm 10) λv44=>
 M.bind (M.on (some (.func (.func 39) #[] #[])) λf=>M.on (seqO [(some v44)]) λl=>AW call round f l) λv45=>
 mv (some v45) λv43=>
 M.bind (oS (some v43) λa=>kExt 0 a) λv46=>
 M.bind (oS (some v43) λa=>kExt 1 a) λv47=>
 mv (some v46) λv12=>
 setF 12 v12 tm λtm1=>
 mv (some v47) λv13=>
 setF 13 v13 tm1 λtm2=>
 M.pure tm2
theorem Adw_:RegEq 13 155 BB MR Yj:=⟨by kernel_rfl,λ_ _ _ _ _ _ _ _ _=>by kernel_rfl⟩
def By_ (E:Env)(call round:Ad)(tm:T Value):M (T Value):=
 mv (T.get tm 1) λv119=>
 M.bind (M.on (some (.func (.func 39) #[] #[])) λf=>M.on (seqO [(some v119)]) λl=>AW call round f l) λv120=>
 mv (some v120) λv118=>
 M.bind (oS (some v118) λa=>kExt 0 a) λv121=>
 M.bind (oS (some v118) λa=>kExt 1 a) λv122=>
 mv (some v121) λv19=>
 setF 19 v19 tm λtm1=>
 mv (some v122) λv20=>
 setF 20 v20 tm1 λtm2=>
 M.pure tm2
theorem Tb_:RegEq 13 155 BB GQ By_:=⟨by kernel_rfl,λ_ _ _ _ _ _ _ _ _=>by kernel_rfl⟩
def YN (E:Env)(call round:Ad)(tm:T Value):M (T Value):=
 mv (T.get tm 13) λv48=>
 M.bind (oS (some v48) λa=>oS (some (.int .i64 0)) λb=>Cl.get (aBin E .neq 27 (.tmp 48) (.const (.int .i64 0))) a b) λv49=>
 mv (some v49) λv50=>
 M.bind (M.chk (isK v50) (aC (isB v50 false) (oS (T.get tm 12) λa=>M.pure a) (M.pure undef))) λv51=>
 M.bind (M.chk (isK v50) (aC (isB v50 false) (oS (T.get tm 0) λa=>M.pure a) (M.pure undef))) λv52=>
 M.bind (M.chk (isK v50) (aC (isB v50 false) (M.on (some (.func (.func 45) #[] #[])) λf=>M.on (seqO [(some v51),(some v52)]) λl=>AW call round f l) (M.pure undef))) λv53=>
 M.bind (M.chk (isK v50) (aC (isB v50 false) (oS (some v53) λa=>kUn E.P .not a) (M.pure undef))) λv54=>
 M.bind (M.on (some v50) λa=>M.on (some (.bool true)) λb=>M.on (some v54) λc=>Bp a b c) λv55=>
 mv (some v55) λv56=>
 M.bind (M.chk (isK v56) (aC (isB v56 false) (oS (T.get tm 10) λa=>M.pure a) (M.pure undef))) λv57=>
 M.bind (M.chk (isK v56) (aC (isB v56 false) (oS (seqO [(some v57)]) λl=>A6 E .len [22] l) (M.pure undef))) λv58=>
 M.bind (M.chk (isK v56) (aC (isB v56 false) (oS (some v58) λa=>oS (some (.int .i64 5)) λb=>Cl.get (aBin E .lss 3 (.tmp 58) (.const (.int .i64 5))) a b) (M.pure undef))) λv59=>
 M.bind (M.on (some v56) λa=>M.on (some (.bool true)) λb=>M.on (some v59) λc=>Bp a b c) λv60=>
 setF 60 v60 tm λtm1=>
 M.pure tm1
theorem AkZ_:RegEq 13 155 BB Om YN:=⟨by kernel_rfl,λ_ _ _ _ _ _ _ _ _=>by kernel_rfl⟩
def Vc (E:Env)(call round:Ad)(tm:T Value):M (T Value):=
 mv (T.get tm 20) λv123=>
 M.bind (oS (some v123) λa=>oS (some (.int .i64 0)) λb=>Cl.get (aBin E .neq 27 (.tmp 123) (.const (.int .i64 0))) a b) λv124=>
 setF 124 v124 tm λtm1=>
 M.pure tm1
theorem ZI:RegEq 13 155 BB Mx Vc:=⟨by kernel_rfl,λ_ _ _ _ _ _ _ _ _=>by kernel_rfl⟩
theorem Uy_:A5 PO=some 60:=by kernel_rfl
theorem Xr:A5 H3=some 124:=by kernel_rfl
def ZP (E:Env)(call round:Ad)(tm:T Value):M (T Value):=
 mv (T.get tm 10) λv62=>
 mv (T.get tm 2) λv63=>
 M.bind (M.on (some (.func (.func 33) #[] #[])) λf=>M.on (seqO [(some v63),(some (.int .i64 4))]) λl=>AW call round f l) λv64=>
 M.bind (M.on (some v62) λa=>M.on (some none) λb=>M.on (onO (some v64) λv=>some (some v)) λc=>B8 E 22 a b c) λv65=>
 M.bind (M.on (some (.func (.func 39) #[] #[])) λf=>M.on (seqO [(some v65)]) λl=>AW call round f l) λv66=>
 mv (some v66) λv61=>
 M.bind (oS (some v61) λa=>kExt 0 a) λv67=>
 M.bind (oS (some v61) λa=>kExt 1 a) λv68=>
 mv (some v67) λv14=>
 mv (some v68) λv15=>
 setF 15 v15 tm λtm1=>
 M.pure tm1
theorem Aga_:RegEq 13 155 BB Lq ZP:=⟨by kernel_rfl,λ_ _ _ _ _ _ _ _ _=>by kernel_rfl⟩
def Cu_ (E:Env)(call round:Ad)(tm:T Value):M (T Value):=
 mv (T.get tm 9) λv125=>
 mv (some v125) λv126=>
 M.bind (M.chk (isK v126) (aC (isB v126 true) (oS (T.get tm 20) λa=>M.pure a) (M.pure undef))) λv127=>
 M.bind (M.chk (isK v126) (aC (isB v126 true) (oS (some v127) λa=>oS (some (.int .i64 4)) λb=>Cl.get (aBin E .eql 27 (.tmp 127) (.const (.int .i64 4))) a b) (M.pure undef))) λv128=>
 M.bind (M.on (some v126) λa=>M.on (some v128) λb=>M.on (some (.bool false)) λc=>Bp a b c) λv129=>
 mv (some v129) λv130=>
 M.bind (M.chk (isK v130) (aC (isB v130 true) (oS (T.get tm 19) λa=>M.pure a) (M.pure undef))) λv131=>
 M.bind (M.chk (isK v130) (aC (isB v130 true) (oS (seqO [(some v131)]) λl=>A6 E .len [55] l) (M.pure undef))) λv132=>
 M.bind (M.chk (isK v130) (aC (isB v130 true) (oS (some v132) λa=>oS (some (.int .i64 0)) λb=>Cl.get (aBin E .eql 3 (.tmp 132) (.const (.int .i64 0))) a b) (M.pure undef))) λv133=>
 M.bind (M.on (some v130) λa=>M.on (some v133) λb=>M.on (some (.bool false)) λc=>Bp a b c) λv134=>
 mv (some v134) λv8=>
 setF 8 v8 tm λtm1=>
 M.pure tm1
theorem Zt_:RegEq 13 155 BB Px Cu_:=⟨by kernel_rfl,λ_ _ _ _ _ _ _ _ _=>by kernel_rfl⟩
def Ae_ (E:Env)(call round:Ad)(tm:T Value):M (T Value):=
 mv (T.get tm 19) λv136=>
 M.bind (M.on (some (.func (.func 37) #[] #[])) λf=>M.on (seqO [(some v136)]) λl=>AW call round f l) λv137=>
 mv (some v137) λv135=>
 M.bind (oS (some v135) λa=>kExt 0 a) λv138=>
 M.bind (oS (some v135) λa=>kExt 1 a) λv139=>
 mv (some v138) λv21=>
 setF 21 v21 tm λtm1=>
 mv (some v139) λv22=>
 setF 22 v22 tm1 λtm2=>
 M.pure tm2
theorem Rz_:RegEq 13 155 BB Oo Ae_:=⟨by kernel_rfl,λ_ _ _ _ _ _ _ _ _=>by kernel_rfl⟩
def Z5 (E:Env)(call round:Ad)(tm:T Value):M (T Value):=
 mv (T.get tm 2) λv69=>
 mv (T.get tm 10) λv70=>
 M.bind (oS (seqO [(some v70)]) λl=>A6 E .len [22] l) λv71=>
 M.bind (oS (some (.int .i64 8)) λa=>oS (some v71) λb=>Cl.get (aBin E .mul 3 (.const (.int .i64 8)) (.tmp 71)) a b) λv72=>
 M.bind (oS (some v72) λa=>oS (some (.int .i64 31)) λb=>Cl.get (aBin E .sub 3 (.tmp 72) (.const (.int .i64 31))) a b) λv73=>
 M.bind (M.on (some (.func (.func 33) #[] #[])) λf=>M.on (seqO [(some v69),(some v73)]) λl=>AW call round f l) λv74=>
 mv (some v74) λv2=>
 setF 2 v2 tm λtm1=>
 M.pure tm1
theorem Yg_:RegEq 13 155 BB NJ Z5:=⟨by kernel_rfl,λ_ _ _ _ _ _ _ _ _=>by kernel_rfl⟩
theorem Aab_: ∃k,SN= .code .ret::k:=⟨SN.tail,by kernel_rfl⟩
def HC_ (E:Env)(call round:Ad)(tm:T Value):M (T Value):=
 mv (T.get tm 9) λv140=>
 mv (some v140) λv141=>
 M.bind (M.chk (isK v141) (aC (isB v141 true) (oS (T.get tm 19) λa=>M.pure a) (M.pure undef))) λv142=>
 M.bind (M.chk (isK v141) (aC (isB v141 true) (M.on (some (.func (.func 43) #[] #[])) λf=>M.on (seqO [(some v142)]) λl=>AW call round f l) (M.pure undef))) λv143=>
 M.bind (M.chk (isK v141) (aC (isB v141 true) (oS (some v143) λa=>oS (some (.int .i64 0)) λb=>Cl.get (aBin E .eql 27 (.tmp 143) (.const (.int .i64 0))) a b) (M.pure undef))) λv144=>
 M.bind (M.on (some v141) λa=>M.on (some v144) λb=>M.on (some (.bool false)) λc=>Bp a b c) λv145=>
 mv (some v145) λv146=>
 M.bind (M.chk (isK v146) (aC (isB v146 true) (oS (T.get tm 22) λa=>M.pure a) (M.pure undef))) λv147=>
 M.bind (M.chk (isK v146) (aC (isB v146 true) (oS (some v147) λa=>oS (some (.int .i64 0)) λb=>Cl.get (aBin E .eql 27 (.tmp 147) (.const (.int .i64 0))) a b) (M.pure undef))) λv148=>
 M.bind (M.on (some v146) λa=>M.on (some v148) λb=>M.on (some (.bool false)) λc=>Bp a b c) λv149=>
 mv (some v149) λv150=>
 M.bind (M.chk (isK v150) (aC (isB v150 true) (oS (T.get tm 21) λa=>M.pure a) (M.pure undef))) λv151=>
 M.bind (M.chk (isK v150) (aC (isB v150 true) (oS (T.get tm 1) λa=>M.pure a) (M.pure undef))) λv152=>
 M.bind (M.chk (isK v150) (aC (isB v150 true) (M.on (some (.func (.func 19) #[] #[])) λf=>M.on (seqO [(some v151),(some v152)]) λl=>AW call round f l) (M.pure undef))) λv153=>
 M.bind (M.on (some v150) λa=>M.on (some v153) λb=>M.on (some (.bool false)) λc=>Bp a b c) λv154=>
 mv (some v154) λv8=>
 setF 8 v8 tm λtm1=>
 M.pure tm1
theorem Adx_:RegEq 13 155 BB Mj HC_:=⟨by kernel_rfl,λ_ _ _ _ _ _ _ _ _=>by kernel_rfl⟩
def Hz_ (E:Env)(call round:Ad)(tm:T Value):M (T Value):=
 mv (some (.int .i64 0)) λv16=>
 setF 16 v16 tm λtm1=>
 M.pure tm1
theorem AfQ_:RegEq 13 155 BB N5 Hz_:=⟨by kernel_rfl,λ_ _ _ _ _ _ _ _ _=>by kernel_rfl⟩
theorem Qw_: ∃k,R8= .code .ret::k:=⟨R8.tail,by kernel_rfl⟩
def UA (E:Env)(call round:Ad)(tm:T Value):M (T Value):=
 mv (T.get tm 16) λv75=>
 M.bind (oS (some v75) λa=>oS (some (.int .i64 32)) λb=>Cl.get (aBin E .lss 3 (.tmp 75) (.const (.int .i64 32))) a b) λv76=>
 setF 76 v76 tm λtm1=>
 M.pure tm1
theorem WT:RegEq 13 155 BB Hq UA:=⟨by kernel_rfl,λ_ _ _ _ _ _ _ _ _=>by kernel_rfl⟩
theorem AF_:A5 GX=some 76:=by kernel_rfl
def Zc (E:Env)(call round:Ad)(tm:T Value):M (T Value):=
 mv (T.get tm 3) λv79=>
 mv (T.get tm 16) λv80=>
 M.bind (oS (some v79) λa=>oS (some v80) λb=>Cl.get (aBin E .shr 51 (.tmp 79) (.tmp 80)) a b) λv81=>
 M.bind (oS (some v81) λa=>oS (some (.int .u32 2)) λb=>Cl.get (aBin E .rem 51 (.tmp 81) (.const (.int .u32 2))) a b) λv82=>
 M.bind (oS (some v82) λa=>oS (some (.int .u32 1)) λb=>Cl.get (aBin E .eql 51 (.tmp 82) (.const (.int .u32 1))) a b) λv83=>
 setF 83 v83 tm λtm1=>
 M.pure tm1
theorem Tu_:RegEq 13 155 BB NI Zc:=⟨by kernel_rfl,λ_ _ _ _ _ _ _ _ _=>by kernel_rfl⟩
def ZT (E:Env)(call round:Ad)(tm:T Value):M (T Value):=
 mv (T.get tm 10) λv104=>
 M.bind (M.on (some (.func (.func 39) #[] #[])) λf=>M.on (seqO [(some v104)]) λl=>AW call round f l) λv105=>
 mv (some v105) λv103=>
 M.bind (oS (some v103) λa=>kExt 0 a) λv106=>
 M.bind (oS (some v103) λa=>kExt 1 a) λv107=>
 mv (some v106) λv17=>
 mv (some v107) λv18=>
 setF 18 v18 tm λtm1=>
 M.pure tm1
theorem Sc_:RegEq 13 155 BB J2 ZT:=⟨by kernel_rfl,λ_ _ _ _ _ _ _ _ _=>by kernel_rfl⟩
theorem Eb_:A5 HG=some 83:=by kernel_rfl
def YM (E:Env)(call round:Ad)(tm:T Value):M (T Value):=
 mv (T.get tm 15) λv108=>
 M.bind (oS (some v108) λa=>oS (some (.int .i64 4)) λb=>Cl.get (aBin E .neq 27 (.tmp 108) (.const (.int .i64 4))) a b) λv109=>
 mv (some v109) λv110=>
 M.bind (M.chk (isK v110) (aC (isB v110 false) (oS (T.get tm 3) λa=>M.pure a) (M.pure undef))) λv111=>
 M.bind (M.chk (isK v110) (aC (isB v110 false) (oS (some v111) λa=>oS (some (.int .u32 0)) λb=>Cl.get (aBin E .neq 51 (.tmp 111) (.const (.int .u32 0))) a b) (M.pure undef))) λv112=>
 M.bind (M.chk (isK v110) (aC (isB v110 false) (oS (some v112) λa=>M.pure a) (M.pure undef))) λv113=>
 M.bind (M.chk (isK v113) (aC (isB v113 true) (oS (T.get tm 18) λa=>M.pure a) (M.pure undef))) λv114=>
 M.bind (M.chk (isK v113) (aC (isB v113 true) (oS (some v114) λa=>oS (some (.int .i64 4)) λb=>Cl.get (aBin E .neq 27 (.tmp 114) (.const (.int .i64 4))) a b) (M.pure undef))) λv115=>
 M.bind (M.chk (isK v110) (aC (isB v110 false) (M.on (some v113) λa=>M.on (some v115) λb=>M.on (some (.bool false)) λc=>Bp a b c) (M.pure undef))) λv116=>
 M.bind (M.on (some v110) λa=>M.on (some (.bool true)) λb=>M.on (some v116) λc=>Bp a b c) λv117=>
 setF 117 v117 tm λtm1=>
 M.pure tm1
theorem AfJ_:RegEq 13 155 BB KJ YM:=⟨by kernel_rfl,λ_ _ _ _ _ _ _ _ _=>by kernel_rfl⟩
def Yy (E:Env)(call round:Ad)(tm:T Value):M ((Rho×T Value)×List OpLog):=
 M.bind (apartO (oS (T.get tm 10) λa=>M.pure a)) λp0=>
 M.bind (apartO (oS (T.get tm 2) λa=>M.pure a)) λp1=>
 M.bind (apartO (oS (T.get tm 16) λa=>M.pure a)) λp2=>
 M.bind (apartO (oS (some p1.1) λa=>oS (some p2.1) λb=>Cl.get (aBin E .add 3 (.tmp 85) (.tmp 86)) a b)) λp3=>
 M.bind (apartO (oS (some p3.1) λa=>oS (some (.int .i64 8)) λb=>Cl.get (aBin E .quo 3 (.tmp 87) (.const (.int .i64 8))) a b)) λp4=>
 M.bind (apartO (oS (T.get tm 10) λa=>M.pure a)) λp5=>
 M.bind (apartO (oS (T.get tm 2) λa=>M.pure a)) λp6=>
 M.bind (apartO (oS (T.get tm 16) λa=>M.pure a)) λp7=>
 M.bind (apartO (oS (some p6.1) λa=>oS (some p7.1) λb=>Cl.get (aBin E .add 3 (.tmp 90) (.tmp 91)) a b)) λp8=>
 M.bind (apartO (oS (some p8.1) λa=>oS (some (.int .i64 8)) λb=>Cl.get (aBin E .quo 3 (.tmp 92) (.const (.int .i64 8))) a b)) λp9=>
 M.bind (apartO (oS (some p5.1) λa=>oS (some p9.1) λb=>Bt E 22 a b)) λp10=>
 M.bind (apartO (oS (some p10.1) λa=>AD E 5 a)) λp11=>
 M.bind (apartO (oS (T.get tm 2) λa=>M.pure a)) λp12=>
 M.bind (apartO (oS (T.get tm 16) λa=>M.pure a)) λp13=>
 M.bind (apartO (oS (some p12.1) λa=>oS (some p13.1) λb=>Cl.get (aBin E .add 3 (.tmp 96) (.tmp 97)) a b)) λp14=>
 M.bind (apartO (oS (some p14.1) λa=>oS (some (.int .i64 8)) λb=>Cl.get (aBin E .rem 3 (.tmp 98) (.const (.int .i64 8))) a b)) λp15=>
 M.bind (apartO (oS (some (.int .u8 1)) λa=>oS (some p15.1) λb=>Cl.get (aBin E .shl 5 (.const (.int .u8 1)) (.tmp 99)) a b)) λp16=>
 M.bind (apartO (oS (some p11.1) λa=>oS (some p16.1) λb=>Cl.get (aBin E .xor 5 (.tmp 95) (.tmp 100)) a b)) λp17=>
 M.bind (apartO (oS (some p0.1) λa=>oS (some p4.1) λb=>Bt E 22 a b)) λp18=>
 M.pure (([p18.1,p17.1,p16.1,p15.1,p14.1,p13.1,p12.1,p11.1,p10.1,p9.1,p8.1,p7.1,p6.1,p5.1,p4.1,p3.1,p2.1,p1.1,p0.1],tm),[p18.2,p17.2,p16.2,p15.2,p14.2,p13.2,p12.2,p11.2,p10.2,p9.2,p8.2,p7.2,p6.2,p5.2,p4.2,p3.2,p2.2,p1.2,p0.2])
theorem Ob_:DrawEq 13 155 BB JM [0,0,0,6,14,0,0,0,192,448,992,2016,0,0,12288,28672,61440,131040,262143,524287] Yy:=⟨by kernel_rfl,by kernel_rfl,λ_ _ _ _ _ _ _ _ _=>by kernel_rfl⟩
theorem Acq_ (E:Env)(call round:Ad)(x84 x85 x86 x87 x88 x89 x90 x91 x92 x93 x94 x95 x96 x97 x98 x99 x100 x101 x102:Value)(tm:T Value)(s:St):Bm call round (BM E BB 155 (hdC JM)) [x102,x101,x100,x99,x98,x97,x96,x95,x94,x93,x92,x91,x90,x89,x88,x87,x86,x85,x84] tm s=(M.bind (oS (some x102) λa=>oS (some x101) λb=>Bo E 5 a b) λ_=>M.pure tm) s:=by kernel_rfl
def IU_ (E:Env)(call round:Ad)(tm:T Value):M (T Value):=
 mv (T.get tm 16) λv77=>
 M.bind (oS (some v77) λa=>oS (some (.int .i64 1)) λb=>Cl.get (aBin E .add 3 (.tmp 77) (.const (.int .i64 1))) a b) λv78=>
 mv (some v78) λv16=>
 setF 16 v16 tm λtm1=>
 M.pure tm1
theorem WR_:RegEq 13 155 BB IT IU_:=⟨by kernel_rfl,λ_ _ _ _ _ _ _ _ _=>by kernel_rfl⟩
theorem RA_:A5 N1=some 117:=by kernel_rfl
theorem IW_:fldN envS 35 0=some (0,16,true):=by kernel_rfl
theorem Il_:fldN envS 35 1=some (16,1,false):=by kernel_rfl
theorem Ef_:fldN envS 35 2=some (17,1,false):=by kernel_rfl
theorem Ext.onG {G F' G':Nat->Prop}{s s1 s2:St}(h:Ext Any G s s1)(k:Ext F' G' s1 s2)(hb:s.lim<=s.next)(hG: ∀x,x<s.next->G' x->G x):Ext Any G s s2:=h.trans k hb (λ_ _ _=>trivial) hG
theorem J0 (st:Rd):(rH st).1.1.length=16:=NN st
theorem Fr_: ∀(k:Nat) (st:Rd),∀h∈(rHs k st).1,h.1.length=16
 |0,_,h,hh=>by cases hh
 |_+1,none,h,hh=>by cases hh
 |k+1,some r,h,hh=>by
  have hh':h∈(rH (some r)).1::(rHs k (rH (some r)).2).1:=hh
  rcases List.mem_cons.1 hh' with rfl|hh
  ·exact J0 _
  ·exact Fr_ k _ h hh
structure PkB (s0 s:St)(R P T:Nat)(v:Value)(l:List Nat)(st:Rd)(num size:Int)(hs:List HdI)(vL:Value)(bL:Nat):Prop where
 x:Ext Any (RdG R) s0 s
 rd:RdI s R v l st
 p0:Own s P 0 (.int .i64 num)
 p1:Own s P 1 (.int .i64 size)
 p2:Own s P 2 vL
 t:AC s T 0 [.int .i64 0, .int .i64 0, .slice none 0 0]
 ml:MkS s 18 hs.length (BN hs) vL bL
 hT:s0.next<=T
 hTP:T+3<=P
 hPb:P+3<=bL
 hv: ∀x,BsF v x->x<s0.next
 hR:R+4<s0.next
 h16: ∀h∈hs,h.1.length=16
theorem PkB.rdx {s0 s s1:St}{R P T:Nat}{v:Value}{l:List Nat}{st st':Rd}{num size:Int}{hs:List HdI}{vL:Value}{bL:Nat}(h:PkB s0 s R P T v l st num size hs vL bL)(hb0:s0.lim<=s0.next)(x1:Ext Any (RdG R) s s1)(r1:RdI s1 R v l st'):PkB s0 s1 R P T v l st' num size hs vL bL:=by
 have a:=h.hT
 have b:=h.hTP
 have c:=h.hPb
 have d:=h.hR
 have e: ∀y,s0.next<=y-> ¬RdG R y:=λy hy hg=>by rcases hg with hg|hg|hg<;>omega
 exact⟨h.x.onG x1 hb0 λ_ _ hg=>hg,r1,h.p0.ext x1 (e _ (by omega)),h.p1.ext x1 (e _ (by omega)),h.p2.ext x1 (e _ (by omega)),h.t.ext x1 λi _=>e _ (by omega),h.ml.ext x1 λy hy=>e y (by have:=hy.2.1;omega),h.hT,h.hTP,h.hPb,h.hv,h.hR,h.h16⟩
theorem PkB.ext0 {F:Nat->Prop}{s0 s s1:St}{R P T:Nat}{v:Value}{l:List Nat}{st:Rd}{num size:Int}{hs:List HdI}{vL:Value}{bL:Nat}(h:PkB s0 s R P T v l st num size hs vL bL)(hb0:s0.lim<=s0.next)(x1:Ext F Non s s1):PkB s0 s1 R P T v l st num size hs vL bL:=
 ⟨h.x.onG x1 hb0 λ_ _ hg=>hg.elim,h.rd.ext0 x1,h.p0.ext0 x1,h.p1.ext0 x1,h.p2.ext0 x1,h.t.ext0 x1,h.ml.ext0 x1,h.hT,h.hTP,h.hPb,h.hv,h.hR,h.h16⟩
theorem PkB.new {F G:Nat->Prop}{s0 s s1:St}{R P T:Nat}{v:Value}{l:List Nat}{st:Rd}{num size:Int}{hs:List HdI}{vL:Value}{bL:Nat}(h:PkB s0 s R P T v l st num size hs vL bL)(hb0:s0.lim<=s0.next)(x1:Ext F G s s1)(hG: ∀y,G y->s0.next<=y/\(P+3<=y)/\ ¬MkF 18 hs.length bL y):PkB s0 s1 R P T v l st num size hs vL bL:=by
 have a:=h.hT
 have b:=h.hTP
 have c:=h.hPb
 have d:=h.hR
 refine⟨h.x.onG x1 hb0 λy hy hg=>absurd (hG y hg).1 (by omega),h.rd.ext x1 λy hy hg=> ?_,h.p0.ext x1 λhg=> ?_,h.p1.ext x1 λhg=> ?_,h.p2.ext x1 λhg=> ?_,h.t.ext x1 λi hi hg=> ?_,h.ml.ext x1 λy hy hg=>(hG y hg).2.2 hy,h.hT,h.hTP,h.hPb,h.hv,h.hR,h.h16⟩
 ·have h1:=(hG y hg).1
  rcases hy with hy|hy
  ·omega
  ·have:=h.hv y hy
   omega
 ·have:=(hG _ hg).2.1;omega
 ·have:=(hG _ hg).2.1;omega
 ·have:=(hG _ hg).2.1;omega
 ·have:=(hG _ hg).2.1
  have hi':i<3:=hi
  omega
section
variable {R P Z:Nat}{v:Value}{l:List Nat}{Q:Value×FrameMode->St->Prop}{s0:St}{num size:Int}
theorem AjM_ {cnt:Nat}{HS:List HdI}{ST:Rd}(hb0:s0.lim<=s0.next)(hcx:s0.cx=cxN)(hz:l.length<=1000000000)(hby:Byt l)(hcnt:cnt<=20000)
  (q: ∀s1 vL,Ext Any (RdG R) s0 s1->RdI s1 R v l ST->HiR s1 vL HS->(∀x,HiF vL x->s0.next<=x)->Q (.agg #[.int .i64 num, .int .i64 size,vL], .run) s1):
  ∀(k i n:Nat) (st:Rd) (hs:List HdI) (vL:Value) (bL:Nat) (tm:T Value) (s:St) (td:List Item),i+k=cnt->40*k+1000<=n->hs.length<=i->skim 64 td=G8->PkB s0 s R P Z v l st num size hs vL bL->
  hs++(rHs k st).1=HS->(rHs k st).2=ST->T.get tm 0=some (.pointer (some ⟨R,0,none⟩))->T.get tm 2=some (.pointer (some ⟨Z,0,none⟩))->T.get tm 3=some (.pointer (some ⟨P,0,none⟩))->T.get tm 12=some (.int .i64 (cnt:Nat))->T.get tm 13=some (.int .i64 (i:Nat))->
  W (runF envS n ⟨85,GT_,CJ,tm,td, .run, .normal,none⟩) s Q:=by
 have fin: ∀(n:Nat) (vL:Value) (bL:Nat) (tm:T Value) (s:St) (td:List Item),20<=n->skim 64 td=IF->PkB s0 s R P Z v l ST num size HS vL bL->T.get tm 2=some (.pointer (some ⟨Z,0,none⟩))->T.get tm 3=some (.pointer (some ⟨P,0,none⟩))->
   W (runF envS n ⟨85,GT_,CJ,tm,td, .run, .normal,none⟩) s Q:=by
  intro n vL bL tm s td hn hT' h g2 g3
  have a:=h.hT
  have b:=h.hTP
  have c:=h.hPb
  have d:=h.hR
  have rowP:Row s P 0 [.int .i64 num, .int .i64 size,vL]:=λj u hu=>by
   match j,hu with
   |0,hu=>cases hu;exact h.p0.at'
   |1,hu=>cases hu;exact h.p1.at'
   |2,hu=>cases hu;exact h.p2.at'
  obtain⟨wp,wn,wc,ew⟩: ∃p n c,vL= .slice p n c:=by
   obtain⟨p,c,e⟩:=h.ml.sl
   exact⟨_,_,_,e⟩
  have h1:oneCell vL=true:=by rw[ew];rfl
  refine Ls_.w hT' (by omega) ?_
  simp only[Zn,Ac,W_oS,Aa,g3]
  refine aJ (o:=0) C9 rowP rfl λs1 m1 n1 x1=> ?_
  have k1:=h.ext0 hb0 x1
  try simp only[W_oS,g2]
  refine W.store (b:=Z) (o:=0) C9 (v:= .agg #[.int .i64 num, .int .i64 size,vL]) rfl (by show([.int .i64 num, .int .i64 size,vL]:List Value).all oneCell=true;simp[oneCell]at h1 ⊢;exact h1) (λj hj=>AC.owned k1.t j (by simpa using hj)) λs2 n2 x2 o2=> ?_
  have y2:Ext Any (RdG R) s0 s2:=k1.x.onG x2 hb0 λy hy hg=>by
   have:=hg.1
   omega
  have r2:RdI s2 R v l ST:=k1.rd.ext x2 λy hy hg=>by
   have h1:=hg.1
   rcases hy with hy|hy
   ·omega
   ·have:=h.hv y hy
    omega
  have mk2:MkS s2 18 HS.length (BN HS) vL bL:=k1.ml.ext x2 λy hy hg=>by
   have h1:y<Z+0+3:=hg.2
   have h2:=hy.2.1
   omega
  refine W.endC Lj_ (.inl QS_) (by omega) ZK Tg_ (y2.cx.trans hcx) (by simpa [aA]using g2) ?_
  refine aJ (o:=0) C9 (AC.row o2) rfl λs3 m3 n3 x3=> ?_
  refine q s3 vL (y2.onG x3 hb0 λ_ _ hg=>hg.elim) (r2.ext0 x3) ?_ λx hx=> ?_
  ·rcases mk2.ext0 x3 with⟨rfl,h0,_⟩|⟨hm,_⟩
   ·exact .inl ⟨rfl,List.eq_nil_of_length_eq_zero h0⟩
   ·exact .inr ⟨bL,0,_,hm.val,hm.own.row⟩
  ·rcases h.ml with⟨e,_,_⟩|⟨hm,_⟩
   ·rw[e]at hx
    exact hx.elim
   ·rw[hm.val]at hx
    have h2:bL+0<=x:=hx.1
    omega
 intro k
 induction k with
 |zero=>
  intro i n st hs vL bL tm s td hi hn hil hT' h hHS hST g0 g2 g3 g12 g13
  refine ZE.w hT' (by omega) ?_
  simp only[UX,Ac,W_oS,Aa,Ab,Bg,g12,g13]
  refine W.cond (v:=false) Xp Jn_ (by simp[aA];omega) (by omega) (λh=>by cases h) λ_=> ?_
  have e1:hs=HS:=by rw[<-hHS];exact(List.append_nil hs).symm
  have e2:st=ST:=hST
  subst e1 e2
  exact fin _ vL bL _ s _ (by omega) VC_ h (by simp[aA,g2]) (by simp[aA,g3])
 |succ k ih=>
  intro i n st hs vL bL tm s td hi hn hil hT' h hHS hST g0 g2 g3 g12 g13
  have hb:=h.x.bnd hb0
  refine ZE.w hT' (by omega) ?_
  simp only[UX,Ac,W_oS,Aa,Ab,Bg,g12,g13]
  refine W.cond (v:=true) Xp Jn_ (by simp[aA];omega) (by omega) (λ_=> ?_) λh=>by cases h
  refine NF_.w KU_ (by omega) ?_
  simp only[Cg_,Ac,W_oS,W_on,Aa,W_mv,Ab,aA,Ag,Af,Ae,Ah,reduceCtorEq, ↓reduceIte,g0]
  refine VF hb h.rd (by omega) λe p s1 x1 he=> ?_
  have h1:=h.ext0 hb0 x1
  simp only[Ut (cs:= #[.int .i64 e, .int .i64 p]) (v:= .int .i64 e) JV (.inl ⟨rfl,rfl⟩),Co]
  cases st with
  |none=>
   have he0:e≠0:=λh0=>(he.1 h0) rfl
   refine W.cond (v:=true) BJ_ ZH (by simp[aA,he0]) (by omega) (λ_=> ?_) λh=>by cases h
   have e1:hs=HS:=by rw[<-hHS];exact(List.append_nil hs).symm
   have e2:none=ST:=hST
   subst e1 e2
   exact fin _ vL bL _ s1 _ (by omega) Lr_ h1 (by simp[aA,g2]) (by simp[aA,g3])
  |some r=>
   have he0:e=0:=he.2 (by simp)
   refine W.cond (v:=false) BJ_ ZH (by simp[aA,he0]) (by omega) (λh=>by cases h) λ_=> ?_
   have hHS':hs++((rH (some r)).1::(rHs k (rH (some r)).2).1)=HS:=hHS
   have hST':(rHs k (rH (some r)).2).2=ST:=hST
   have hb1:=h1.x.bnd hb0
   refine Mz_.w Ahm_ (by omega) ?_
   simp only[Xf,Ac,Aa,Ab]
   refine W.alloc JI_ λs2 n2 x2 o2=> ?_
   have n2':s2.next=s1.next+19:=n2
   have h2:=h1.ext0 hb0 x2
   have hH1:s0.next<=s1.next:=h1.x.nxt
   have hPn:P+3<=s1.next:=by
    have:=h1.p2.1
    omega
   have hMn: ∀y,MkF 18 hs.length bL y->y<s1.next:=h1.ml.lt
   refine UU_.w Ajx_ (by omega) ?_
   simp only[AZ_,Ac,W_oS,W_on,Aa,W_mv,aA,Ag,Af,Ae,Ah,reduceCtorEq, ↓reduceIte,g0]
   refine SP_ (h2.x.bnd hb0) h2.rd hz (by omega) λs3 x3 r3=> ?_
   have h3:=h2.rdx hb0 x3 r3
   have eH: ∀y,s1.next<=y-> ¬RdG R y:=λy hy hg=>by
    have:=h.hR
    rcases hg with hg|hg|hg<;>omega
   have o3:AC s3 s1.next 0 (List.replicate 16 (.int .u8 0)++[.int .i64 0, .int .i64 0]):=o2.ext x3 λj _=>eH _ (by omega)
   have l16:(u8l (rID (some r)).1).length=16:=by rw[Bu,NN]
   simp only[A8 IW_ (by decide)]
   refine W.store (b:=s1.next) (o:=0+0) J1 (v:= .agg (u8l (rID (some r)).1).toArray) l16 (DI _) (λj hj=>by
    obtain⟨u,hu⟩:=AC.owned o3 j (by simp;omega)
    exact⟨u,hu⟩) λs4 n4 x4 o4=> ?_
   rw[Dx]at o4
   have inH: ∀(o m:Nat) (y:Nat),In s1.next o m y->s0.next<=y/\P+3<=y/\ ¬MkF 18 hs.length bL y:=λo m y hy=>by
    have h1:=hy.1
    exact⟨by omega,by omega,λhm=>by have:=hMn y hm;omega⟩
   have h4:=h3.new hb0 x4 (inH _ _)
   have o4a:AC s4 s1.next 0 (u8l (rID (some r)).1):=o4
   have o4b:Own s4 s1.next 16 (.int .i64 0):=(o3 16 _ rfl).ext x4 λhg=>by
    have h1:=hg.2
    omega
   have o4c:Own s4 s1.next 17 (.int .i64 0):=(o3 17 _ rfl).ext x4 λhg=>by
    have h1:=hg.2
    omega
   refine Aee_.w UE_ (by omega) ?_
   simp only[X0,Ac,W_oS,W_on,Aa,W_mv,aA,Ag,Af,Ae,Ah,reduceCtorEq, ↓reduceIte,g0]
   refine Le (lo:=0) (hi:=2147483647) (h4.x.bnd hb0) h4.rd hz hby (by omega) λs5 x5 r5=> ?_
   have h5:=h4.rdx hb0 x5 r5
   simp only[A8 Il_ (by decide)]
   refine aI (b:=s1.next) (o:=0+16) Be rfl (o4b.ext x5 (eH _ (by omega))) λs6 n6 x6 o6=> ?_
   have h6:=h5.new hb0 x6 (inH _ _)
   have o6a:AC s6 s1.next 0 (u8l (rID (some r)).1):=λj u hu=>((o4a j u hu).ext x5 (eH _ (by omega))).ext x6 λhg=>by
    have h1:=hg.1
    have h2:=(List.getElem?_eq_some_iff.1 hu).1
    omega
   have o6c:Own s6 s1.next 17 (.int .i64 0):=(o4c.ext x5 (eH _ (by omega))).ext x6 λhg=>by
    have h1:=hg.2
    omega
   refine VV_.w Xd_ (by omega) ?_
   simp only[HR_,Ac,W_oS,W_on,Aa,W_mv,aA,Ag,Af,Ae,Ah,reduceCtorEq, ↓reduceIte,g0]
   refine Le (lo:=1) (hi:=1024) (h6.x.bnd hb0) h6.rd hz hby (by omega) λs7 x7 r7=> ?_
   have h7:=h6.rdx hb0 x7 r7
   simp only[A8 Ef_ (by decide)]
   refine aI (b:=s1.next) (o:=0+17) Be rfl (o6c.ext x7 (eH _ (by omega))) λs8 n8 x8 o8=> ?_
   have h8:=h7.new hb0 x8 (inH _ _)
   have o8a:AC s8 s1.next 0 (u8l (rID (some r)).1):=λj u hu=>((o6a j u hu).ext x7 (eH _ (by omega))).ext x8 λhg=>by
    have h1:=hg.1
    have h2:=(List.getElem?_eq_some_iff.1 hu).1
    omega
   have o8b:Own s8 s1.next 16 (.int .i64 ((rInt 0 2147483647 (rID (some r)).2).1:Nat)):=(o6.ext x7 (eH _ (by omega))).ext x8 λhg=>by
    have h1:=hg.1
    omega
   have o8c:Own s8 s1.next 17 (.int .i64 ((rInt 1 1024 (rInt 0 2147483647 (rID (some r)).2).2).1:Nat)):=o8
   have rowH:Row s8 s1.next 0 (A9 (rH (some r)).1):=λj u hu=>by
    have hu':(u8l (rID (some r)).1++[.int .i64 ((rInt 0 2147483647 (rID (some r)).2).1:Nat), .int .i64 ((rInt 1 1024 (rInt 0 2147483647 (rID (some r)).2).2).1:Nat)])[j]?=some u:=hu
    rcases Nat.lt_or_ge j 16 with hj|hj
    ·rw[List.getElem?_append_left (by omega)]at hu'
     exact(o8a j u hu').at'
    ·rw[List.getElem?_append_right (by omega),l16]at hu'
     obtain⟨d,rfl⟩: ∃d,j=16+d:=⟨j-16,by omega⟩
     rw[Nat.add_sub_cancel_left]at hu'
     match d,hu' with
     |0,hu'=>cases hu';exact o8b.at'
     |1,hu'=>cases hu';exact o8c.at'
   refine RN_.w Tn_ (by omega) ?_
   simp only[Ek_,Ac,W_oS,Aa,aA,Ag,Af,Aw,Av,Ae,Nat.reduceEqDiff, ↓reduceIte,g3,A8 Eg (by decide)]
   refine aD Eo h8.p2.at' ?_
   have h9:=h8.ext0 hb0 (Ext.rdN (F:=Any) (G:=Non) s8 (P+(0+2)) λ_=>trivial)
   refine aJ (b:=s1.next) (o:=0) Fu (λj u hu=>(rowH j u hu).same rfl rfl) (C6 (J0 _)) λs10 m10 n10 x10=> ?_
   have h10:=h9.ext0 hb0 x10
   refine aS (h10.x.bnd hb0) (r:=A9 (rH (some r)).1) AbU_ (by decide) (VX_ (NN (some r)) _ _) (Ct (by decide)) λs11 n11 x11 r11=> ?_
   have h11:=h10.ext0 hb0 x11
   rw[Ee]
   refine W.appU (s:=s11) (h11.x.bnd hb0) AgN_ h11.ml (FY (n:=1) (c:=1) (AC.row r11) (by rw[C6 (J0 _)])).g (by decide) (by decide) (by decide) (by omega) (by rw[C6 (J0 _)]) (Qn _) λs12 v12 b12 hb12 mk12 x12=> ?_
   have hn12:s11.next<=s12.next:=x12.nxt
   have hs11:s1.next<=s11.next:=Nat.le_trans (Nat.le_trans x2.nxt (Nat.le_trans x3.nxt (Nat.le_trans x4.nxt (Nat.le_trans x5.nxt (Nat.le_trans x6.nxt (Nat.le_trans x7.nxt (Nat.le_trans x8.nxt (Nat.le_trans (Nat.le_of_eq n10.symm) x11.nxt)))))))) (Nat.le_refl _)
   have mkP: ∀y,MkF 18 hs.length bL y->P+3<=y/\s0.next<=y:=λy hy=>by
    have h1:=hy.2.1
    have h2:=h.hPb
    have h3:=h.hTP
    have h4:=h.hT
    exact⟨by omega,by omega⟩
   have p212:Own s12 P 2 vL:=h11.p2.ext x12 λhg=>by have:=(mkP _ hg).1;omega
   have v12one:oneCell v12=true:=by
    obtain⟨p,c,e⟩:=mk12.sl
    rw[e]
    rfl
   refine aI (b:=P) (o:=0+2) Eo v12one p212 λs13 n13 x13 o13=> ?_
   have x113:Ext Any (λy=>MkF 18 hs.length bL y\/y=P+2) s11 s13:=(x12.weak (h11.x.bnd hb0) (λ_ _ _=>trivial) λ_ _ hg=> .inl hg).trans x13 (h11.x.bnd hb0) (λ_ _ _=>trivial) λy _ hy=> .inr (by have h1:=hy.1;have h2:=hy.2;omega)
   have lens:(hs++[(rH (some r)).1]).length=hs.length+1:=by simp
   have heldA:BN (hs++[(rH (some r)).1])=BN hs++A9 (rH (some r)).1:=by
    have: ∀(a:List HdI) (b:HdI),BN (a++[b])=BN a++A9 b:=λa b=>by
     induction a with
     |nil=>show A9 b++[]=[]++A9 b;rw[List.append_nil,List.nil_append]
     |cons c a ih=>show A9 c++BN (a++[b])=(A9 c++BN a)++A9 b;rw[ih,List.append_assoc]
    exact this _ _
   have h13:PkB s0 s13 R P Z v l (rH (some r)).2 num size (hs++[(rH (some r)).1]) v12 b12:=by
    have a:=h.hT
    have b:=h.hTP
    have c:=h.hPb
    have d:=h.hR
    refine⟨h11.x.onG x113 hb0 λy hy hg=> ?_, ?_,h11.p0.ext x113 λhg=> ?_,h11.p1.ext x113 λhg=> ?_,o13,h11.t.ext x113 λj hj hg=> ?_, ?_,a,b,by omega,h.hv,d,λz hz=> ?_⟩
    ·rcases hg with hg|hg
     ·have:=(mkP _ hg).2
      omega
     ·omega
    ·refine h11.rd.ext x113 λy hy hg=> ?_
     have hys:y<s0.next:=by
      rcases hy with hy|hy
      ·omega
      ·exact h.hv y hy
     rcases hg with hg|hg
     ·have:=(mkP _ hg).2
      omega
     ·omega
    ·rcases hg with hg|hg
     ·have:=(mkP _ hg).1
      omega
     ·omega
    ·rcases hg with hg|hg
     ·have:=(mkP _ hg).1
      omega
     ·omega
    ·have hj':j<3:=hj
     rcases hg with hg|hg
     ·have:=(mkP _ hg).1
      omega
     ·omega
    ·rw[lens,heldA]
     exact mk12.ext x13 λy hy hg=>by
      have h1:=hy.2.1
      have h2:=hg.2
      omega
    ·rcases List.mem_append.1 hz with hz|hz
     ·exact h.h16 z hz
     ·have:z=(rH (some r)).1:=by simpa using hz
      rw[this]
      exact J0 _
   refine Akk_.w Ali_ (by omega) ?_
   have ei:wrap64 ((i:Nat)+1:Int)=((i+1:Nat):Int):=by
    rw[Bq (by omega) (by omega)];simp
   simp only[Fq_,Ac,W_oS,Aa,W_mv,Ab,aA,Nat.reduceEqDiff, ↓reduceIte,BG,g13,ei]
   exact ih (i+1) _ (rH (some r)).2 _ v12 b12 _ s13 _ (by omega) (by omega) (by rw[lens];omega) Zy_ h13 (by rw[<-hHS',List.append_assoc];rfl) hST' (by simp[aA,g0]) (by simp[aA,g2]) (by simp[aA,g3]) (by simp[aA,g12]) (by simp[aA])
end
theorem F5 (lo hi:Nat)(st:Rd):(rInt lo hi st).1<=hi:=by
 cases st with
 |none=>exact Nat.zero_le _
 |some r=>
  unfold rInt
  simp only
  split
  ·exact Nat.zero_le _
  ·split
   ·exact Nat.zero_le _
   ·show _<=hi
    omega
theorem PkB.put {s0 s s':St}{R P Z bL k:Nat}{v:Value}{l:List Nat}{st:Rd}{num size x:Int}(B:PkB s0 s R P Z v l st num size [] (.slice none 0 0) bL)(hb0:s0.lim<=s0.next)(hk:k<2)(x':Ext (In P (0+k) 1) (In P (0+k) 1) s s')(o:Own s' P (0+k) (.int .i64 x)):PkB s0 s' R P Z v l st (if k=0 then x else num) (if k=1 then x else size) [] (.slice none 0 0) bL:=by
 have a:=B.hT
 have b:=B.hTP
 have c:=B.hPb
 have d:=B.hR
 have ne: ∀y,y<P\/y≠P+k-> ¬In P (0+k) 1 y:=λy hy hg=>by
  have h1:=hg.1
  have h2:=hg.2
  omega
 refine⟨B.x.onG x' hb0 λy hy hg=>absurd hg (ne y (.inl (by omega))),B.rd.ext x' λy hy=>ne y (.inl ?_), ?_, ?_,B.p2.ext x' (ne _ (.inr (by omega))),B.t.ext x' λj hj=>ne _ (.inl (by have:j<3:=hj;omega)), .inl ⟨rfl,rfl,rfl⟩,a,b,c,B.hv,d,B.h16⟩
 ·rcases hy with hy|hy
  ·omega
  ·have:=B.hv y hy
   omega
 ·by_cases hk0:k=0
  ·subst hk0
   exact o
  ·rw[if_neg hk0]
   exact B.p0.ext x' (ne _ (.inr (by omega)))
 ·by_cases hk1:k=1
  ·subst hk1
   exact o
  ·rw[if_neg hk1]
   exact B.p1.ext x' (ne _ (.inr (by omega)))
section
variable {R n:Nat}{v:Value}{l:List Nat}{s:St}{Q:Value->St->Prop}{st:Rd}
theorem YI_ (hb:s.lim<=s.next)(h:RdI s R v l st)(hz:l.length<=1000000000)(hby:Byt l)(hn:802000<=n)
  (q: ∀s1 (p:PkI),Ext Any (RdG R) s s1->RdI s1 R v l (rPk st).2->p.key=(rPk st).1->HiR s1 p.v p.hs->(∀x,HiF p.v x->s.next<=x)->Q (.agg (pkC p).toArray) s1):
  W (Ay envS (runF envS n) 85 [.pointer (some ⟨R,0,none⟩)]) s Q:=by
 have hb0:(s.cxN cxN).lim<=(s.cxN cxN).next:=hb
 have h':RdI (s.cxN cxN) R v l st:=h.same rfl rfl
 refine Tm_ λtm g0=> ?_
 refine Mi_.w rfl (by omega) ?_
 simp only[Z4,Ac,Aa,Ab]
 refine W.alloc G9 λs1 n1 x1 o1=> ?_
 have n1':s1.next=s.next+4:=n1
 have y1:Ext Any Non (s.cxN cxN) s1:=x1.any hb0
 refine VF_.w AdC_ (by omega) ?_
 simp only[W5,Ac,Aa,Ab]
 refine W.alloc G9 λs2 n2 x2 o2=> ?_
 have n2':s2.next=s1.next+4:=n2
 have y2:=y1.then0 x2 hb0
 have o1':AC s2 s.next 0 [.int .i64 0, .int .i64 0, .slice none 0 0]:=λj u hu=>(o1 j u hu).ext0 x2
 have o2':AC s2 s1.next 0 [.int .i64 0, .int .i64 0, .slice none 0 0]:=o2
 have B0:PkB (s.cxN cxN) s2 R s1.next s.next v l st 0 0 [] (.slice none 0 0) s2.next:=
  ⟨y2.weak hb0 (λ_ _ h=>h) λ_ _ h=>h.elim,h'.ext0 y2,o2' 0 _ rfl,o2' 1 _ rfl,o2' 2 _ rfl,o1', .inl ⟨rfl,rfl,rfl⟩,Nat.le_refl _,by omega,by omega,λx hx=>h.lt x hx,h.rt,λz hz=>by cases hz⟩
 refine Aeb_.w Ace_ (by omega) ?_
 simp only[Gr_,Ac,W_oS,W_on,Aa,W_mv,aA,Ag,Af,Ae,Ah,reduceCtorEq, ↓reduceIte,g0]
 refine Le (lo:=1) (hi:=999999) (B0.x.bnd hb0) B0.rd hz hby (by omega) λs3 x3 r3=> ?_
 have B3:=B0.rdx hb0 x3 r3
 simp only[A8 Fr (by decide)]
 refine aI (b:=s1.next) (o:=0+0) Be rfl B3.p0 λs4 n4 x4 o4=> ?_
 have B4:=B3.put hb0 (k:=0) (by omega) x4 o4
 simp only[reduceIte,Nat.reduceEqDiff]at B4
 refine Aca_.w Add_ (by omega) ?_
 simp only[BD_,Ac,W_oS,W_on,Aa,W_mv,aA,Ag,Af,Ae,Ah,reduceCtorEq, ↓reduceIte,g0]
 refine Le (lo:=0) (hi:=65536) (B4.x.bnd hb0) B4.rd hz hby (by omega) λs5 x5 r5=> ?_
 have B5:=B4.rdx hb0 x5 r5
 simp only[A8 FL (by decide)]
 refine aI (b:=s1.next) (o:=0+1) Be rfl B5.p1 λs6 n6 x6 o6=> ?_
 have B6:=B5.put hb0 (k:=1) (by omega) x6 o6
 simp only[reduceIte,Nat.reduceEqDiff]at B6
 refine UG_.w SH_ (by omega) ?_
 simp only[Za,Ac,W_on,Aa,W_mv,Ab,aA,Ag,Af,Ae,Ah,reduceCtorEq, ↓reduceIte,g0]
 refine YG (hi:=20000) (B6.x.bnd hb0) B6.rd hz hby (by omega) λs7 x7 r7=> ?_
 have B7:=B6.rdx hb0 x7 r7
 refine AjM_ (s0:=s.cxN cxN) (HS:=(rHs (rInt 0 20000 (rInt 0 65536 (rInt 1 999999 st).2).2).1 (rInt 0 20000 (rInt 0 65536 (rInt 1 999999 st).2).2).2).1) (ST:=(rHs (rInt 0 20000 (rInt 0 65536 (rInt 1 999999 st).2).2).1 (rInt 0 20000 (rInt 0 65536 (rInt 1 999999 st).2).2).2).2) (cnt:=(rInt 0 20000 (rInt 0 65536 (rInt 1 999999 st).2).2).1) hb0 rfl hz hby (F5 _ _ _) (λs8 vL x8 r8 hi8 hf8=> ?_) _ 0 _ _ [] _ _ _ s7 _ (Nat.zero_add _) (by have:=F5 0 20000 (rInt 0 65536 (rInt 1 999999 st).2).2;omega) (by simp) OJ_ B7 rfl rfl (by simp[aA,g0]) (by simp[aA]) (by simp[aA]) (by simp[aA]) (by simp[aA])
 exact q _ ⟨((rInt 1 999999 st).1:Nat),((rInt 0 65536 (rInt 1 999999 st).2).1:Nat),vL,_⟩ x8.cx' (r8.same rfl rfl) rfl (hi8.same rfl rfl) hf8
end
structure PsO (s0 s:St)(os:List PkI)(vo:Value)(bo:Nat):Prop where
 mo:MkS s 3 os.length (pkCs os) vo bo
 no:s0.next<=bo
 hs: ∀o∈os,HiR s o.v o.hs/\(∀h∈o.hs,h.1.length=16)/\(∀x,HiF o.v x->s0.next<=x/\ ¬MkF 3 os.length bo x)
theorem PsO.ext {F G:Nat->Prop}{s0 s s':St}{os:List PkI}{vo:Value}{bo:Nat}(h:PsO s0 s os vo bo)(x:Ext F G s s')(hG: ∀y,s0.next<=y-> ¬G y):PsO s0 s' os vo bo:=
 ⟨h.mo.ext x λy hy=>hG y (by have:=hy.2.1;have:=h.no;omega),h.no,λo ho=>⟨(h.hs o ho).1.ext (h.hs o ho).2.1 x λy hy=>hG y ((h.hs o ho).2.2 y hy).1,(h.hs o ho).2⟩⟩
theorem PsO.ext0 {F:Nat->Prop}{s0 s s':St}{os:List PkI}{vo:Value}{bo:Nat}(h:PsO s0 s os vo bo)(x:Ext F Non s s'):PsO s0 s' os vo bo:=h.ext x λ_ _=>id
theorem RS_ {G:Nat->Prop}{s0 s:St}{os:List PkI}{vo:Value}{bo:Nat}{p:PkI}{Q:Value->St->Prop}(hb0:s0.lim<=s0.next)(hx:Ext Any G s0 s)(h:PsO s0 s os vo bo)(hp:HiR s p.v p.hs)(h16: ∀h∈p.hs,h.1.length=16)(hlo: ∀x,HiF p.v x->s0.next<=x/\ ¬MkF 3 os.length bo x)(hle:os.length<=100000)
  (q: ∀s2 v2 b2,Ext Any G s0 s2->Ext Any (MkF 3 os.length bo) s s2->PsO s0 s2 (os++[p]) v2 b2->Q v2 s2):
  W (C5 envS 55 1 [(0, .agg (pkC p).toArray)]) s λv s1=>W (A6 envS .append [55,55] [vo,v]) s1 Q:=by
 have hb:=hx.bnd hb0
 refine aS hb (r:=pkC p) Sf_ (by decide) (AdN_ p) (Ct (by decide)) λs1 n1 x1 r1=> ?_
 have hb1:=x1.bnd hb
 have n1':s1.next=s.next+4:=n1
 rw[Ee]
 have hn0:s0.next<=s.next:=hx.nxt
 refine W.appU (s:=s1) hb1 KL_ (h.mo.ext0 x1) (FY (n:=1) (c:=1) (AC.row r1) rfl).g (by decide) (by decide) (by decide) (by omega) rfl (AiQ_ hp.one) λs2 v2 b2 hb2 mk2 x2=> ?_
 have x12:Ext Any (MkF 3 os.length bo) s s2:=(x1.weak hb (λ_ _ h=>h.elim) λ_ _ h=>h.elim).trans x2 hb (λ_ _ _=>trivial) λ_ _ h=>h
 have x02:Ext Any G s0 s2:=hx.trans x12 hb0 (λ_ _ _=>trivial) λy hy hq=>by
  have h1:=hq.2.1
  have h2:=h.no
  omega
 have hlt: ∀x,MkF 3 os.length bo x->x<s.next:=h.mo.lt
 have hl:(os++[p]).length=os.length+1:=by simp
 refine q s2 v2 b2 x02 x12 ⟨?_,by omega, ?_⟩
 ·rw[hl,WR]
  show MkS s2 3 (os.length+1) (pkCs os++(pkC p++[])) v2 b2
  rw[List.append_nil]
  exact mk2
 ·intro o ho
  rw[hl]
  rcases List.mem_append.1 ho with ho|ho
  ·obtain⟨g1,g2,g3⟩:=h.hs o ho
   have hlo':=g1.lt g2
   exact⟨g1.ext g2 x12 λx hx hq=>(g3 x hx).2 hq,g2,λx hx=>⟨(g3 x hx).1,λhq=>by have h3:=hq.2.1;have h4:=hlo' x hx;omega⟩⟩
  ·have:o=p:=by simpa using ho
   subst this
   have hlo':=hp.lt h16
   exact⟨hp.ext h16 x12 λx hx hq=>(hlo x hx).2 hq,h16,λx hx=>⟨(hlo x hx).1,λhq=>by have h3:=hq.2.1;have h4:=hlo' x hx;omega⟩⟩
theorem PsO.rows {s0 s:St}{os:List PkI}{vo:Value}{bo:Nat}(h:PsO s0 s os vo bo):PkR s vo os/\ ∀x,PkF vo os x->s0.next<=x:=by
 refine⟨⟨?_,λp hp=>(h.hs p hp).1,λp hp=>(h.hs p hp).2.1⟩,λx hx=> ?_⟩
 ·rcases h.mo with⟨rfl,h0,_⟩|⟨hm,_⟩
  ·exact .inl ⟨rfl,List.eq_nil_of_length_eq_zero h0⟩
  ·exact .inr ⟨bo,0,_,hm.val,hm.own.row⟩
 ·rcases hx with hx|⟨p,hp,hx⟩
  ·rcases h.mo with⟨e,_,_⟩|⟨hm,_⟩
   ·rw[e]at hx
    exact hx.elim
   ·rw[hm.val]at hx
    have h1:bo+0<=x:=hx.1
    have:=h.no
    omega
  ·exact((h.hs p hp).2.2 x hx).1
end Go.Proofs.Ytofanlcjeohcjaa.Am
end
