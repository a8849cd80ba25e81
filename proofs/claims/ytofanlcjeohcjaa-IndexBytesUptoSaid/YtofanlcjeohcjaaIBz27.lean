import Derived.Test.YtofanlcjeohcjaaIBz26
noncomputable section
namespace Go.Proofs.Ytofanlcjeohcjaa.Am
open Go.RowKit
def IE:Nat:=Ao Try.f21
def Iq_:Code:=Try.f21.body.getD .skip
theorem Jy:envS.fn.get 21=some Try.f21:=X
theorem Abf_:G1 envS 21 11 IE Iq_:=λh=>
 aK Jy (h _ X)
theorem MA:Try.f21.results.toList=[.tmp 2]:=X
def Fy_:List Item:=skim 64 [.code Iq_]
def Rg_:=nx Fy_
def Re:=nx Rg_
def Jn_:=bt Re
def EZ_:=bf Re
def MT_:=nx Jn_
def CY_:=nx EZ_
def UQ:Rg:=λE u r t=>
 sV 2 (.int .i64 0) t
theorem Aup_:RegEq 21 11 IE Fy_ UQ:={}
def T0:Rg:=λE u r t=>
 mG t 0 λv3=>
 bN E .lss 3 1 (some v3) λv4=>
 mv (some v4) λv5=>
 sK v5 false (pG t 0) λv6=>
 sK v5 false (oS (some v6) λa=>oS (some (.int .i64 1024)) λb=>Cl.get (aBin E .gtr 3 (.tmp 6) (.const (.int .i64 1024))) a b) λv7=>
 ae v5 (.bool true) v7 λv8=>
 ac 8 v8 t
theorem AaP_:RegEq 21 11 IE Rg_ T0:={}
theorem QC:Aj Re=some 8:=X
def MR:Rg:=λE u r t=>
 sV 2 (.int .i64 0) t
theorem Ee_:RegEq 21 11 IE Jn_ MR:={}
def Tm_:Rg:=λE u r t=>
 mG t 0 λv9=>
 bN E .add 9 26 (some v9) λv10=>
 sV 2 v10 t
theorem ZD_:RegEq 21 11 IE EZ_ Tm_:={}
theorem BB_: ∃k,MT_= .code .ret::k:=⟨MT_.tail,X⟩
theorem Asg_: ∃k,CY_= .code .ret::k:=⟨CY_.tail,X⟩
def Kw:Nat:=Ao Try.f67
def Ub:Code:=Try.f67.body.getD .skip
theorem CV_:envS.fn.get 67=some Try.f67:=X
theorem Acu_:G1 envS 67 22 Kw Ub:=λh=>
 aK CV_ (h _ X)
theorem Abj_:Try.f67.results.toList=[.tmp 2]:=X
def Eh_:List Item:=skim 64 [.code Ub]
def SD_:=nx Eh_
def Sm_:=nx SD_
def FO_:=nx Sm_
def Kr_:Rg:=λE u r t=>
 sV 2 (.slice none 0 0) t
theorem Aja_:RegEq 67 22 Kw Eh_ Kr_:={}
def FL_:Rg:=λE u r t=>
 mG t 0 λv4=>
 cN u r 108 [(some v4)] λv5=>
 sV 3 v5 t
theorem Afo_:RegEq 67 22 Kw SD_ FL_:={}
def Qm_:Rg:=λE u r t=>
 M.bind (oS (seqP []) λps=>BS E 22 0 ps) λv6=>
 mG t 0 λv7=>
 lN E .append [22,22] [(some v6),(some v7)] λv8=>
 mG t 3 λv9=>
 vB E 51 5 (some v9) λv10=>
 mG t 3 λv11=>
 bC E .shr 51 11 (.int .u64 8) (some v11) λv12=>
 vB E 51 5 (some v12) λv13=>
 mG t 3 λv14=>
 bC E .shr 51 14 (.int .u64 16) (some v14) λv15=>
 vB E 51 5 (some v15) λv16=>
 mG t 3 λv17=>
 bC E .shr 51 17 (.int .u64 24) (some v17) λv18=>
 vB E 51 5 (some v18) λv19=>
 M.bind (oS (seqP [(0,(some v10)),(1,(some v13)),(2,(some v16)),(3,(some v19))]) λps=>BS E 22 4 ps) λv20=>
 lN E .append [22,22] [(some v8),(some v20)] λv21=>
 sV 2 v21 t
theorem Awz_:RegEq 67 22 Kw Sm_ Qm_:={}
theorem Acz_: ∃k,FO_= .code .ret::k:=⟨FO_.tail,X⟩
def Cu:Nat:=Ao Try.f108
abbrev Ln:Nat:=35
def Eq_:Code:=Try.f108.body.getD .skip
theorem OY_:envS.fn.get 108=some Try.f108:=X
theorem Yl_:G1 envS 108 35 Cu Eq_:=λh=>
 aK OY_ (h _ X)
theorem Auu_:Try.f108.results.toList=[.tmp 2]:=X
def SE_:List Item:=skim 64 [.code Eq_]
def KJ_:=nx SE_
def BQ_:=nx KJ_
def J8:=nx BQ_
def Qx:=nx J8
def Xz:=bt Qx
def QB:=bf Qx
def K0:=nx Xz
def UI_:=nx QB
def Py:=nx K0
def U1:=bt Py
def PK:=bf Py
def RG_:=nx U1
theorem Yv_:skim 64 PK.tail=J8:=X
def Vl_:=nx RG_
def Rr:=nx Vl_
def Va:=bt Rr
def OH:=bf Rr
theorem ApG_:skim 64 Va.tail=OH:=X
theorem EP_:skim 64 OH.tail=K0:=X
def Wy:Rg:=λE u r t=>
 sV 2 (.int .u32 0) t
theorem ArN_:RegEq 108 35 Cu SE_ Wy:={}
def TQ_:Rg:=λE u r t=>
 sV 3 (.int .u32 4294967295) t
theorem Acv_:RegEq 108 35 Cu KJ_ TQ_:={}
def WU:Rg:=λE u r t=>
 sV 4 (.int .i64 0) t
theorem WQ_:RegEq 108 35 Cu BQ_ WU:={}
def Nz:Rg:=λE u r t=>
 mG t 4 λv7=>
 mG t 0 λv8=>
 lL E 22 v8 λv9=>
 bT E .lss 3 7 9 v7 v9 λv10=>
 ac 10 v10 t
theorem Op_:RegEq 108 35 Cu J8 Nz:={}
theorem Vt_:Aj Qx=some 10:=X
def KW_:Rg:=λE u r t=>
 sV 5 (.int .i64 0) t
theorem ZJ_:RegEq 108 35 Cu Xz KW_:={}
def Bk_:Rg:=λE u r t=>
 mG t 3 λv33=>
 M.bind (oS (some v33) λa=>kUn E.P .xor a) λv34=>
 sV 2 v34 t
theorem Art_:RegEq 108 35 Cu QB Bk_:={}
def OA:Rg:=λE u r t=>
 mG t 5 λv13=>
 bN E .lss 13 8 (some v13) λv14=>
 ac 14 v14 t
theorem Hm_:RegEq 108 35 Cu K0 OA:={}
theorem AoT_: ∃k,UI_= .code .ret::k:=⟨UI_.tail,X⟩
theorem OE_:Aj Py=some 14:=X
def QY_:Rg:=λE u r t=>
 mG t 3 λv17=>
 bC E .rem 51 17 (.int .u32 2) (some v17) λv18=>
 mG t 0 λv19=>
 mG t 4 λv20=>
 iD E 22 (some v19) (some v20) λv21=>
 lD E 5 (some v21) λv22=>
 mG t 5 λv23=>
 bT E .shr 5 22 23 v22 v23 λv24=>
 vB E 5 51 (some v24) λv25=>
 bC E .rem 51 25 (.int .u32 2) (some v25) λv26=>
 bT E .neq 51 18 26 v18 v26 λv27=>
 sV 6 v27 t
theorem AiX_:RegEq 108 35 Cu U1 QY_:={}
def HH_:Rg:=λE u r t=>
 mG t 4 λv11=>
 bN E .add 11 1 (some v11) λv12=>
 sV 4 v12 t
theorem Awj_:RegEq 108 35 Cu PK HH_:={}
def Hn_:Rg:=λE u r t=>
 mG t 3 λv28=>
 bC E .shr 51 28 (.int .u64 1) (some v28) λv29=>
 sV 3 v29 t
theorem AfC_:RegEq 108 35 Cu RG_ Hn_:={}
def Sk_:Rg:=λE u r t=>
 mG t 6 λv30=>
 ac 30 v30 t
theorem Aob_:RegEq 108 35 Cu Vl_ Sk_:={}
theorem UO:Aj Rr=some 30:=X
def TY_:Rg:=λE u r t=>
 mG t 3 λv31=>
 bC E .xor 51 31 (.int .u32 3988292384) (some v31) λv32=>
 sV 3 v32 t
theorem Aby_:RegEq 108 35 Cu Va TY_:={}
def MV:Rg:=λE u r t=>
 mG t 5 λv15=>
 bN E .add 15 1 (some v15) λv16=>
 sV 5 v16 t
theorem Kl_:RegEq 108 35 Cu OH MV:={}
def EN:Nat:=Ao Try.f87
def Wb:Code:=Try.f87.body.getD .skip
theorem KM:envS.fn.get 87=some Try.f87:=X
theorem HI_:G1 envS 87 22 EN Wb:=λh=>
 aK KM (h _ X)
theorem P7:Try.f87.results.toList=[.tmp 2, .tmp 3]:=X
def YN:List Item:=skim 64 [.code Wb]
def MH_:=nx YN
def QF:=nx MH_
def Ya:=bt QF
def Uk_:=bf QF
def JK_:=nx Ya
def OY:=nx Uk_
def OI:=nx OY
def Sq_:=bt OI
def Oa_:=bf OI
def Pt_:=nx Sq_
def JD_:=nx Oa_
def On:Rg:=λE u r t=>
 mv (some (.slice none 0 0)) λv2=>
 setF 2 v2 t λt1=>
 sV 3 (.int .i64 0) t1
theorem Ni_:RegEq 87 22 EN YN On:={}
def Rj:Rg:=λE u r t=>
 mG t 0 λv5=>
 lL E 22 v5 λv6=>
 bN E .lss 6 4 (some v6) λv7=>
 ac 7 v7 t
theorem MR_:RegEq 87 22 EN MH_ Rj:={}
theorem Sb_:Aj QF=some 7:=X
def CJ_:Rg:=λE u r t=>
 mv (some (.slice none 0 0)) λv2=>
 setF 2 v2 t λt1=>
 sV 3 (.int .i64 4) t1
theorem Anp_:RegEq 87 22 EN Ya CJ_:={}
def Pe_:Rg:=λE u r t=>
 M.bind (oS (seqP []) λps=>BS E 22 0 ps) λv8=>
 mG t 0 λv9=>
 mG t 0 λv10=>
 lL E 22 v10 λv11=>
 bN E .sub 11 4 (some v11) λv12=>
 M.bind (M.on (some v9) λa=>M.on (some none) λb=>M.on (onO (some v12) λv=>some (some v)) λc=>Be E 22 a b c) λv13=>
 lN E .append [22,22] [(some v8),(some v13)] λv14=>
 sV 4 v14 t
theorem Adx_:RegEq 87 22 EN Uk_ Pe_:={}
theorem AxE_: ∃k,JK_= .code .ret::k:=⟨JK_.tail,X⟩
def Sj_:RdW:=λE call round tm=>
 PD (T.get tm 4) λp0=>
 CN call round 67 [(some p0.1)] λp1=>
 VB E 22 9 (some p1.1) λp2=>
 PD (T.get tm 0) λp3=>
 VB E 22 9 (some p3.1) λp4=>
 fJ [p4,p3,p2,p1,p0] tm
theorem Alv_:DrawEq 87 22 EN OY [0,1,3,0,8,31] Sj_:={}
theorem AdB_ (E:Env)(call round:Ai)(x15 x16 x17 x18 x19:Value)(tm:T Value)(s:St):AK call round (A5 E EN 22 (hdC OY)) [x19,x18,x17,x16,x15] tm s=(M.bind (oS (some x17) λa=>oS (some x19) λb=>Cl.get (aBin E .neq 9 (.tmp 17) (.tmp 19)) a b) λv20=>setT 20 v20 tm λtm1=>M.pure tm1) s:=X
theorem MF_:Aj OI=some 20:=X
def Oz_:Rg:=λE u r t=>
 mv (some (.slice none 0 0)) λv2=>
 setF 2 v2 t λt1=>
 sV 3 (.int .i64 4) t1
theorem Apu_:RegEq 87 22 EN Sq_ Oz_:={}
def Cv_:Rg:=λE u r t=>
 mG t 4 λv21=>
 mv (some v21) λv2=>
 setF 2 v2 t λt1=>
 sV 3 (.int .i64 0) t1
theorem AsO_:RegEq 87 22 EN Oa_ Cv_:={}
theorem AfE_: ∃k,Pt_= .code .ret::k:=⟨Pt_.tail,X⟩
theorem Xw_: ∃k,JD_= .code .ret::k:=⟨JD_.tail,X⟩
theorem EO_: ∀(k:Nat) {n:Nat},n<4294967296->crcN k n<4294967296
 |0,_,h=>h
 |k+1,_,h=>EO_ k (Abp_ h)
theorem Any_ (k n:Nat):crcN (k+1) n=crc1 (crcN k n):=ER_ k 1 n
theorem Asc_ (x d:Nat):(if((x^^^d)%2=d%2)then(x^^^d)>>>1 else(x^^^d)>>>1^^^3988292384)=crc1 x^^^d>>>1:=by
 have hp:(x^^^d)%2=(x%2+d%2)%2:=by
  rw[<-Nat.pow_one 2,Nat.xor_mod_two_pow]
  rcases Nat.mod_two_eq_zero_or_one x with h|h<;>rcases Nat.mod_two_eq_zero_or_one d with h'|h'<;>simp[h,h']
 have hs:(x^^^d)>>>1=x>>>1^^^d>>>1:=Nat.shiftRight_xor_distrib
 have h1:x>>>1=x/2:=Nat.shiftRight_eq_div_pow x 1
 unfold crc1
 rw[hp,hs,h1]
 by_cases hx:x%2=1
 ·rw[if_neg J,if_pos hx,Nat.xor_assoc,Nat.xor_assoc,Nat.xor_comm (d>>>1)]
 ·rw[if_pos J,if_neg hx]
theorem AdO_ {n c:Nat}(hc:c<256):crcN 8 (n^^^c)^^^c>>>8=FA n c:=by
 have h:c>>>8=0:=by rw[Nat.shiftRight_eq_div_pow];omega
 rw[h,Nat.xor_zero,AaL_]
theorem IW_:hasT envS 5=true:=X
theorem Xc_:intK envS 51=some .u32:=X
section
variable {s:St}{E:Env}{t:Nat}{xo yo:Operand}
theorem Aqr_ {k kk:IntKind}{m:Nat}(hn:1<=btOf k)(Q:Value->St->Prop):W (Cl.get (aBin E .shr t xo yo) (.int k (m:Nat)) (.int kk 1)) s Q=Q (.int k (m>>>1:Nat)) s:=E4 (n:=1) hn Q
theorem AaO_ {m:Nat}(h:m^^^3988292384<4294967296)(Q:Value->St->Prop):W (Cl.get (aBin E .xor t xo yo) (.int .u32 (m:Nat)) (.int .u32 3988292384)) s Q=Q (.int .u32 (m^^^3988292384:Nat)) s:=AgB_ (n:=3988292384) h Q
end
theorem Va_ {x:Nat}(h:x<4294967296)(k:Nat):x>>>k<4294967296:=Nat.lt_of_le_of_lt (Nat.shiftRight_le x k) h
theorem Ape_ {b o cc len i c R:Nat}{F:Nat->Prop}{Q:Value×FrameMode->St->Prop}{s0:St}(hb0:s0.lim<=s0.next)(hat:At s0 b (o+i*1) (.int .u8 (c:Nat)))(hF:F (b+(o+i*1)))(hil:i<len)(hc:c<256)(hR:R<4294967296): ∀(k j n:Nat) (tm:T Value) (s:St) (td:List Item),j+k=8->12*k+20<=n->skim 64 td=K0->Ext F Non s0 s->s.mem=s0.mem->s.next=s0.next->
  T.get tm 0=some (.slice (some ⟨b,o,none⟩) len cc)->T.get tm 3=some (.int .u32 (crcN j (R^^^c)^^^c>>>j:Nat))->T.get tm 4=some (.int .i64 (i:Nat))->T.get tm 5=some (.int .i64 (j:Nat))->
  (∀n' tm' s1 td',n<=n'+12*k+10->skim 64 td'=PK->Ext F Non s0 s1->s1.mem=s0.mem->s1.next=s0.next->T.get tm' 0=some (.slice (some ⟨b,o,none⟩) len cc)->T.get tm' 3=some (.int .u32 (FA R c:Nat))->T.get tm' 4=some (.int .i64 (i:Nat))->W (runF envS n' ⟨108,Ln,Cu,tm',td', .run, .normal,none⟩) s1 Q)->
  W (runF envS n ⟨108,Ln,Cu,tm,td, .run, .normal,none⟩) s Q:=by
 intro k
 induction k with
 |zero=>
  intro j n tm s td hj hn hT hx hm hnx h0 h3 h4 h5 q
  obtain rfl:j=8:=J
  rw[AdO_ hc]at h3
  refine Hm_.u ?_ hT
  simp only[OA,RR,SS,h5]
  simp only[Ab,show decide (((8:Nat):Int)<8)=false from rfl]
  refine aE OE_ ?_
  exact q _ _ _ _ J rfl hx hm hnx (an h0) (an h3) (an h4)
 |succ k ih=>
  intro j n tm s td hj hn hT hx hm hnx h0 h3 h4 h5 q
  have hRc:R^^^c<4294967296:=Sha.xor_lt hR J
  have hxl:crcN j (R^^^c)<4294967296:=EO_ j hRc
  have hdl:c>>>j<4294967296:=Va_ J j
  have hst:=Asc_ (crcN j (R^^^c)) (c>>>j)
  rw[<-Any_,<-Nat.shiftRight_add]at hst
  have hyl:crcN j (R^^^c)^^^c>>>j<4294967296:=Sha.xor_lt hxl hdl
  generalize hy:crcN j (R^^^c)^^^c>>>j=y at *
  refine Hm_.u ?_ hT
  simp only[OA,RR,SS,h5]
  simp only[Ab,show decide (((j:Nat):Int)<8)=true from decide_eq_true J]
  refine aH OE_ ?_
  refine AiX_.u ?_
  simp only[QY_,RR,SS,Nat.reduceEqDiff,reduceCtorEq, ↓reduceIte,h0,h3,h4,h5,MB_,AO AH hil]
  refine aA Dd (hat.same hm hnx) ?_
  simp only[E4 (k:= .u8) (show j<=btOf .u8 by show j<=8;omega),DA IW_ Xc_,wrap_u32,Nat.mod_eq_of_lt hdl,MB_,AmO_]
  have hx1:Ext F Non s0 (s.rdN (b+(o+i*1))):=hx.trans (Ext.rdN (F:=F) s _ λ_=>hF) hb0 (λ_ _ h=>h) λ_ _ h=>h
  refine AfC_.u ?_
  simp only[Hn_,RR,SS,Nat.reduceEqDiff, ↓reduceIte,h3,Aqr_ (k:= .u32) (show 1<=btOf .u32 by decide)]
  refine Aob_.u ?_
  simp only[Sk_,RR,SS,Nat.reduceEqDiff, ↓reduceIte]
  have ej:wrap64 ((j:Nat)+1:Int)=((j+1:Nat):Int):=by
   rw[AN J J];simp
  by_cases he:y%2=(c>>>j)%2
  ·rw[if_pos he]at hst
   refine aE UO ?_ rfl (an he)
   refine Kl_.u ?_
   simp only[MV,RR,SS,Nat.reduceEqDiff, ↓reduceIte,Ad,h5,ej]
   exact ih (j+1) _ _ _ _ J J EP_ hx1 hm hnx (an h0) (an hst) (an h4) Y λn' tm' s1 td' e=>q n' tm' s1 td' J
  ·rw[if_neg he]at hst
   refine aH UO ?_ rfl (an he)
   refine Aby_.u ?_
   have hz:y>>>1^^^3988292384<4294967296:=Sha.xor_lt (Va_ hyl 1) al
   simp only[TY_,RR,SS,Nat.reduceEqDiff, ↓reduceIte,AaO_ hz]
   refine Kl_.u ?_ ApG_
   simp only[MV,RR,SS,Nat.reduceEqDiff, ↓reduceIte,Ad,h5,ej]
   exact ih (j+1) _ _ _ _ J J EP_ hx1 hm hnx (an h0) (an hst) (an h4) Y λn' tm' s1 td' e=>q n' tm' s1 td' J
theorem Adp_ {b o cc:Nat}{l:List Nat}{F:Nat->Prop}{Q:Value×FrameMode->St->Prop}{s0:St}(hb0:s0.lim<=s0.next)(hrow:Row s0 b o (u8l l))(hF: ∀x,In b o l.length x->F x)(hl:Byt l)(hz:l.length<=1000000): ∀(k i n:Nat) (tm:T Value) (s:St) (td:List Item),i+k=l.length->120*k+20<=n->skim 64 td=J8->Ext F Non s0 s->s.mem=s0.mem->s.next=s0.next->
  T.get tm 0=some (.slice (some ⟨b,o,none⟩) l.length cc)->T.get tm 3=some (.int .u32 (crcs 4294967295 (l.take i):Nat))->T.get tm 4=some (.int .i64 (i:Nat))->
  (∀n' tm' s1 td',n<=n'+120*k+10->skim 64 td'=QB->Ext F Non s0 s1->s1.mem=s0.mem->s1.next=s0.next->T.get tm' 3=some (.int .u32 (crcs 4294967295 l:Nat))->W (runF envS n' ⟨108,Ln,Cu,tm',td', .run, .normal,none⟩) s1 Q)->
  W (runF envS n ⟨108,Ln,Cu,tm,td, .run, .normal,none⟩) s Q:=by
 intro k
 induction k with
 |zero=>
  intro i n tm s td hi hn hT hx hm hnx h0 h3 h4 q
  refine Op_.u ?_ hT
  simp only[Nz,RR,SS,Ab,h0,h4,BC AH]
  refine aE Vt_ ?_
  rw[show i=l.length by omega,List.take_length]at h3
  exact q _ _ _ _ J rfl hx hm hnx (an h3)
 |succ k ih=>
  intro i n tm s td hi hn hT hx hm hnx h0 h3 h4 q
  have hil:i<l.length:=J
  refine Op_.u ?_ hT
  simp only[Nz,RR,SS,Ab,h0,h4,BC AH]
  refine aH Vt_ ?_
  refine ZJ_.u ?_
  simp only[KW_,RR,SS]
  have hc:l[i]<256:=hl _ (List.getElem_mem hil)
  have hR:crcs 4294967295 (l.take i)<4294967296:=LV _ _ al λc hc=>hl c (List.mem_of_mem_take hc)
  have hat:At s0 b (o+i*1) (.int .u8 (l[i]:Nat)):=by
   rw[Nat.mul_one]
   exact hrow i _ (by unfold u8l;rw[List.getElem?_map,List.getElem?_eq_getElem hil];rfl)
  refine Ape_ (c:=l[i]) (R:=crcs 4294967295 (l.take i)) (cc:=cc) hb0 hat (hF _ ⟨J,J⟩) hil hc hR 8 0 _ _ _ _ J J rfl hx hm hnx (an h0) ?_ (an h4) Y λn1 tm1 s1 td1 hn1 hT1 hx1 hm1 hnx1 g0 g3 g4=> ?_
  ·have e:crcN 0 (crcs 4294967295 (l.take i)^^^l[i])^^^l[i]>>>0=crcs 4294967295 (l.take i):=by
    show(crcs 4294967295 (l.take i)^^^l[i])^^^l[i]=_
    rw[Nat.xor_assoc,Nat.xor_self,Nat.xor_zero]
   rw[e]
   simp[T.get_set,h3]
  have ei:=eiW (i:=i) J
  refine Awj_.u ?_ hT1
  simp only[HH_,RR,SS,Ad,g4,ei]
  rw[<-Lz_ 4294967295 l i hil]at g3
  exact ih (i+1) _ _ _ _ J J Yv_ hx1 hm1 hnx1 (an g0) (an g3) Y λn' tm' s2 td' e=>q n' tm' s2 td' J
theorem AtW_ {n:Nat}{s:St}{v:Value}{l:List Nat}{Q:Value->St->Prop}(hbd:s.lim<=s.next)(hn:120*l.length+60<=n)(h:Bn s v l)(hl:Byt l)(hz:l.length<=1000000)
  (q: ∀s1,s1.mem=s.mem->s1.next=s.next->Ext (BsF v) Non s s1->Q (.int .u32 (CM 0 l:Nat)) s1):W (Ac envS (runF envS n) 108 [v]) s Q:=by
 refine Yl_ λtm hk0=> ?_
 obtain⟨b,o,cc,rfl,h1,h2,h3⟩:=h
 refine ArN_.u ?_
 simp only[Wy,RR,SS]
 refine Acv_.u ?_
 simp only[TQ_,RR,SS]
 refine WQ_.u ?_
 simp only[WU,RR,SS]
 refine Adp_ (s0:=s.cxN cxN) (cc:=cc) (F:=BsF (.slice (some ⟨b,o,none⟩) l.length cc)) hbd h3 (λx h=>h) hl hz l.length 0 _ _ _ _ J J rfl (Ext.refl _) rfl rfl (an hk0) (by simp[T.get_set,crcs]) Y λn1 tm1 s1 td1 hn1 hT1 hx1 hm1 hnx1 g3=> ?_
 have hR:crcs 4294967295 l<4294967296:=LV _ _ al hl
 refine Art_.u ?_ hT1
 simp only[Bk_,RR,SS,g3,Aon_ hR]
 have e:4294967295^^^crcs 4294967295 l=CM 0 l:=by unfold CM;rw[Nat.xor_zero]
 refine aB (rs:=[2]) (vs:=[.int .u32 (CM 0 l:Nat)]) rfl (.inl AoT_) J OY_ Auu_ hx1.cx (an e) ?_
 exact q _ hm1 hnx1 hx1.cx'
def EmB (s:St)(l:List Nat)(v:Value)(b:Nat):Prop:=EmS s 1 l.length (u8l l) v b
theorem EmB.same {s s':St}{l:List Nat}{v:Value}{b:Nat}(h:EmB s l v b)(hm:s'.mem=s.mem)(hn:s'.next=s.next):EmB s' l v b:=EmS.same h hm hn
theorem EmB.ext {F G:Nat->Prop}{s s':St}{l:List Nat}{v:Value}{b:Nat}(h:EmB s l v b)(e:Ext F G s s')(hG: ∀x,MkF 1 l.length b x-> ¬G x):EmB s' l v b:=by
 rcases h with h|⟨h,h0⟩
 ·exact .inl h
 ·exact .inr ⟨h.ext e λx hx=>hG x ⟨h0,hx⟩,h0⟩
theorem EmB.ext0 {F:Nat->Prop}{s s':St}{l:List Nat}{v:Value}{b:Nat}(h:EmB s l v b)(e:Ext F Non s s'):EmB s' l v b:=h.ext e λ_ _=>id
theorem EmB.bn {s:St}{l:List Nat}{v:Value}{b:Nat}(h:EmB s l v b)(hz:l.length<=1000000):Bn s v l:=by
 rcases h with⟨rfl,h0,h1⟩|⟨h,_⟩
 ·obtain rfl:l=[]:=List.eq_nil_of_length_eq_zero h0
  exact⟨b,0,0,rfl,am,ER (by unfold capU;decide),λi v e=>by simp[u8l]at e⟩
 ·have hl:l.length<capU:=A0 J
  exact⟨b,0,_,h.val,by rw[Hv hl];exact Nat.le_refl _,Gs hl al,h.own.row⟩
theorem EmB.at {s:St}{l:List Nat}{v:Value}{b:Nat}(h:EmB s l v b): ∃c,v= .slice (some ⟨b,0,none⟩) l.length c:=by
 obtain⟨c,e,_⟩:=EmS.row h
 exact⟨c,e⟩
theorem EmB.nil {s:St}{b:Nat}:EmB s [] (.slice (some ⟨b,0,none⟩) 0 0) b:= .inl ⟨rfl,rfl,rfl⟩
theorem W.appBy {s:St}{l m:List Nat}{v x:Value}{b:Nat}{Q:Value->St->Prop}(hbd:s.lim<=s.next)(h:EmB s l v b)(hx:Bs s x m)(hz:l.length+m.length<=1000000)
  (q: ∀s2 v2 b2,(b2=b\/s.next<=b2)->EmB s2 (l++m) v2 b2->Ext (λy=>BsF x y\/MkF 1 l.length b y) (MkF 1 l.length b) s s2->Q v2 s2):W (Bg envS .append [22,22] [v,x]) s Q:=by
 rw[CD]
 refine W.appE hbd Dr h hx.src.g al al J (by rw[AQ,Nat.mul_one]) (CG _) λs2 v2 b2 hb2 h2 x2=>q s2 v2 b2 hb2 ?_ x2
 have e:u8l (l++m)=u8l l++u8l m:=List.map_append
 unfold EmB
 rw[e,List.length_append]
 exact h2
theorem S4 {n:Nat}{s:St}{v:Value}{l:List Nat}{Q:Value->St->Prop}(hbd:s.lim<=s.next)(hn:120*l.length+200<=n)(h:Bn s v l)(hl:Byt l)(hz:l.length<=900000)
  (q: ∀s1 w b,s.next<=b->Ext (BsF v) Non s s1->EmB s1 (gput l) w b->Q w s1):W (Ac envS (runF envS n) 67 [v]) s Q:=by
 refine Acu_ λtm h0=> ?_
 have hc:Bn (s.cxN cxN) v l:=h.same rfl rfl
 refine Aja_.u ?_
 simp only[Kr_,RR,SS]
 refine Afo_.u ?_
 simp only[FL_,RR,SS,reduceCtorEq, ↓reduceIte,h0]
 refine AtW_ (s:=s.cxN cxN) hbd J hc hl J λs1 m1 n1 x1=> ?_
 refine Awz_.u ?_
 generalize hS:CM 0 l=S
 have hb1:s1.lim<=s1.next:=x1.bnd hbd
 simp only[Qm_,RR,SS,reduceCtorEq, ↓reduceIte,h0]
 refine aM hb1 (r:=[]) DI al rfl (A0 al) λs2 n2 x2 r2=> ?_
 have hb2:s2.lim<=s2.next:=x2.bnd hb1
 have hx2:Ext (BsF v) Non (s.cxN cxN) s2:=x1.step x2 hbd (λ_ _ h=>h.elim) λ_ h=>h.elim
 refine W.appBy hb2 EmB.nil (hc.bs.ext0 hx2) (by show 0+_<=_;omega) λs3 w3 b3 hb3 h3 x3=> ?_
 have hnm: ∀y,¬MkF 1 ([]:List Nat).length s1.next y:=λy hy=>absurd hy.1 am
 have x3':Ext (BsF v) Non s2 s3:=x3.weak hb2 (λy _ hy=>hy.elim id λhy=>(hnm y hy).elim) λy _ hy=>hnm y hy
 have hx3:Ext (BsF v) Non (s.cxN cxN) s3:=hx2.step x3' hbd (λ_ _ h=>h) λ_ h=>h.elim
 have hbd3:s3.lim<=s3.next:=x3.bnd hb2
 have hn1:s.next<=s1.next:=x1.nxt
 have hs3:s.next<=b3:=by
  have:s1.next<=s2.next:=x2.nxt
  rcases hb3 with rfl|hb3<;>omega
 rw[List.nil_append]at h3
 simp only[DA QE_ Hl,wrap_u8,TW (k:= .u32) al,Wk (k:= .u32) al,Fg_ (k:= .u32) al]
 refine aM hbd3 (r:=u8l (le4 S)) DI al rfl (A0 al) λs4 n4 x4 r4=> ?_
 have hb4:s4.lim<=s4.next:=x4.bnd hbd3
 have hB4:Bs s4 (.slice (some ⟨s3.next,0,none⟩) 4 4) (le4 S):=Aa.bn r4 (A0 (by simp[le4]))
 have hx4:=hx3.step x4 hbd (λ_ _ h=>h.elim) λ_ h=>h.elim
 refine W.appBy hb4 (h3.ext0 x4) hB4 (by simp[le4];omega) λs5 w5 b5 hb5 h5 x5=> ?_
 have hx5:Ext (BsF v) Non (s.cxN cxN) s5:=hx4.step x5 hbd (λy hy h=>by
  have h6:y<s.lim:=hy
  have h8:s3.next<=s4.next:=x4.nxt
  have h9:s.next<=s3.next:=hx3.nxt
  rcases h with h|h
  ·have h7:s3.next+0<=y:=h.1
   omega
  ·have h7:b3+0<=y:=h.2.1
   omega) λy h=>by
  have h7:b3+0<=y:=h.2.1
  show s.next<=y
  omega
 refine aB (rs:=[2]) (vs:=[w5]) rfl (.inl Acz_) J CV_ Abj_ hx5.cx Y ?_
 refine q _ _ b5 ?_ hx5.cx' ?_
 ·have h9:s.next<=s4.next:=hx4.nxt
  rcases hb5 with rfl|hb5<;>omega
 ·have:=h5.same (s':=s5.cxN s.cx) rfl rfl
  unfold gput
  rw[hS]
  exact this
theorem Vu_ {n:Nat}{s:St}{Q:Value->St->Prop}(a:Int)(hn:20<=n)(q:Q (.int .i64 (AV a)) s):W (Ac envS (runF envS n) 21 [.int .i64 a]) s Q:=by
 refine Abf_ λtm h0=> ?_
 refine Aup_.u ?_
 simp only[UQ,RR,SS]
 refine AaP_.u ?_
 simp only[T0,RR,SS,reduceCtorEq, ↓reduceIte,Ab,h0]
 by_cases h1:a<1
 ·rw[decide_eq_true h1]
  simp only[AJ,CA,Cx, ↓reduceIte]
  refine aH QC ?_
  refine Ee_.u ?_
  simp only[MR,RR,SS]
  refine aB (rs:=[2]) (vs:=[.int .i64 0]) rfl (.inl BB_) J Jy MA rfl Y ?_
  have e:AV a=0:=if_pos (.inl h1)
  rw[e]at q
  exact q
 ·rw[decide_eq_false h1]
  simp only[SS,reduceCtorEq, ↓reduceIte,Ae]
  by_cases h2:1024<a
  ·refine aH QC ?_ rfl (an h2)
   refine Ee_.u ?_
   simp only[MR,RR,SS]
   refine aB (rs:=[2]) (vs:=[.int .i64 0]) rfl (.inl BB_) J Jy MA rfl Y ?_
   have e:AV a=0:=if_pos (.inr h2)
   rw[e]at q
   exact q
  ·refine aE QC ?_ rfl (an h2)
   refine ZD_.u ?_
   have ea:wrap64 (a+26)=a+26:=AN J J
   simp only[Tm_,RR,SS,reduceCtorEq, ↓reduceIte,Ad,h0,ea]
   refine aB (rs:=[2]) (vs:=[.int .i64 (a+26)]) rfl (.inl Asg_) J Jy MA rfl Y ?_
   have e:AV a=a+26:=if_neg λh=>h.elim h1 h2
   rw[e]at q
   exact q
section
variable {s:St}{E:Env}{t:Nat}{xo yo:Operand}
theorem Avg_ (m n:Nat)(hn:1<=n)(hm:m<=9223372036854775807):Cl.get (aBin E .quo t xo yo) (.int .i64 (m:Nat)) (.int .i64 (n:Nat)) s= .some (.int .i64 (m/n:Nat)) s:=by
 show int3 quoK (AP E .quo t xo yo) (.int .i64 (.ofNat m)) (.int .i64 (.ofNat n)) s=_
 show Option.rec (motive:=λ_=>R Value) _ (λv=> .some v s) (quoK .i64 .i64 m n)=_
 have:quoK .i64 .i64 m n=some (.int .i64 (m/n:Nat)):=by
  unfold quoK BO
  rw[Nat.beq_refl,Nat.ble_eq_true_of_le hn]
  exact Hx (Nat.le_trans (Nat.div_le_self m n) hm)
 rw[this]
theorem Gn_ {m n:Nat}(hn:1<=n)(hm:m<=9223372036854775807)(Q:Value->St->Prop):W (Cl.get (aBin E .quo t xo yo) (.int .i64 (m:Nat)) (.int .i64 (n:Nat))) s Q=Q (.int .i64 (m/n:Nat)) s:=AD (Avg_ m n hn hm)
