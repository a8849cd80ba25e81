import Derived.Test.YtofanlcjeohcjaaIBz19
noncomputable section
namespace Go.Proofs.Ytofanlcjeohcjaa.Am
open Go.RowKit
def DG:Nat:=Ao Try.f16
abbrev CT_:Nat:=31
def UZ_:Code:=Try.f16.body.getD .skip
theorem Pr_:envS.fn.get 16=some Try.f16:=X
theorem Afj_:G1 envS 16 31 DG UZ_:=λh=>
 aK Pr_ (h _ X)
theorem AsP_:Try.f16.results.toList=[.tmp 2]:=X
def Il_:List Item:=skim 64 [.code UZ_]
def FD_:=nx Il_
def Di_:=nx FD_
def TV:=nx Di_
def KO:=nx TV
def Pm:=nx KO
def TN_:=bt Pm
def Ni:=bf Pm
def Ak_:=nx TN_
def Vn_:=nx Ni
theorem AgE_:skim 64 Ak_.tail=KO:=X
def IJ_:Rg:=λE u r t=>
 sV 2 (.slice none 0 0) t
theorem AnK_:RegEq 16 31 DG Il_ IJ_:={}
def En_:Rg:=λE u r t=>
 mG t 0 λv5=>
 lL E 22 v5 λv6=>
 bN E .add 6 3 (some v6) λv7=>
 M.bind (oS (some v7) λa=>oS (some v7) λb=>EY E 22 a b) λv8=>
 sV 3 v8 t
theorem Aix_:RegEq 16 31 DG FD_ En_:={}
def Cp_:Rg:=λE u r t=>
 mG t 3 λv9=>
 mG t 0 λv10=>
 lN E .copy [22,22] [(some v9),(some v10)] λv11=>
 M.pure t
theorem AkS_:RegEq 16 31 DG Di_ Cp_:={}
def XV:Rg:=λE u r t=>
 mG t 0 λv12=>
 lL E 22 v12 λv13=>
 sV 4 v13 t
theorem Aai_:RegEq 16 31 DG TV XV:={}
def Np:Rg:=λE u r t=>
 mG t 4 λv14=>
 mG t 3 λv15=>
 lL E 22 v15 λv16=>
 bT E .lss 3 14 16 v14 v16 λv17=>
 ac 17 v17 t
theorem Ce_:RegEq 16 31 DG KO Np:={}
theorem YT:Aj Pm=some 17:=X
def Au_:Rg:=λE u r t=>
 mG t 3 λv20=>
 mG t 4 λv21=>
 mG t 4 λv22=>
 bN E .rem 22 90 (some v22) λv23=>
 bM E .add 3 (.int .i64 160) 23 (some v23) λv24=>
 vB E 3 5 (some v24) λv25=>
 iD E 22 (some v20) (some v21) λv26=>
 sT E 5 (some v26) (some v25) λ_=>
 M.pure t
theorem WE_:RegEq 16 31 DG TN_ Au_:={}
def YU:Rg:=λE u r t=>
 mG t 3 λv27=>
 mG t 0 λv28=>
 lL E 22 v28 λv29=>
 M.bind (M.on (some v27) λa=>M.on (some none) λb=>M.on (onO (some v29) λv=>some (some v)) λc=>Be E 22 a b c) λv30=>
 sV 2 v30 t
theorem AtM_:RegEq 16 31 DG Ni YU:={}
def Nf_:Rg:=λE u r t=>
 mG t 4 λv18=>
 bN E .add 18 1 (some v18) λv19=>
 sV 4 v19 t
theorem Amw_:RegEq 16 31 DG Ak_ Nf_:={}
theorem Amh_: ∃k,Vn_= .code .ret::k:=⟨Vn_.tail,X⟩
def Qk:Nat:=Ao Try.f19
def Jj_:Code:=Try.f19.body.getD .skip
theorem Tg:envS.fn.get 19=some Try.f19:=X
theorem Aag_:G2 envS 19 10 Qk Jj_:=λh=>
 aK Tg (h _ X X)
theorem Agx_:Try.f19.results.toList=[.tmp 4]:=X
def Ov_:List Item:=skim 64 [.code Jj_]
def Yh:=nx Ov_
def NI_:=nx Yh
def Tt_:Rg:=λE u r t=>
 sV 4 (.bool false) t
theorem Adn_:RegEq 19 10 Qk Ov_ Tt_:={}
def RI_:Rg:=λE u r t=>
 mG t 0 λv5=>
 vB E 22 9 (some v5) λv6=>
 mG t 1 λv7=>
 vB E 22 9 (some v7) λv8=>
 bT E .eql 9 6 8 v6 v8 λv9=>
 sV 4 v9 t
theorem AkX_:RegEq 19 10 Qk Yh RI_:={}
theorem AhF_: ∃k,NI_= .code .ret::k:=⟨NI_.tail,X⟩
def I5:Nat:=Ao Try.f23
def Vk_:Code:=Try.f23.body.getD .skip
theorem Tj:envS.fn.get 23=some Try.f23:=X
theorem AeF_:G2 envS 23 23 I5 Vk_:=λh=>
 aK Tj (h _ X X)
theorem Yk_:Try.f23.results.toList=[.tmp 4]:=X
def Jq_:List Item:=skim 64 [.code Vk_]
def PH:=nx Jq_
def T3:=nx PH
def Ef_:Rg:=λE u r t=>
 sV 4 (.bool false) t
theorem Anb_:RegEq 23 23 I5 Jq_ Ef_:={}
def UM_:RdW:=λE call round tm=>
 PD (T.get tm 0) λp0=>
 LN E .len [22] [(some p0.1)] λp1=>
 PD (T.get tm 1) λp2=>
 LN E .len [22] [(some p2.1)] λp3=>
 BI E .eql 3 (.tmp 6) (.tmp 8) (some p1.1) (some p3.1) λp4=>
 PD (some p4.1) λp5=>
 SK p5.1 true (oS (T.get tm 0) λa=>M.pure a) λp6=>
 SK p5.1 true (oS (T.get tm 0) λa=>M.pure a) λp7=>
 SK p5.1 true (oS (seqO [(some p7.1)]) λl=>Bg E .cap [22] l) λp8=>
 SK p5.1 true (M.on (some p6.1) λa=>M.on (some none) λb=>M.on (onO (some p8.1) λv=>some (some v)) λc=>Be E 22 a b c) λp9=>
 SK p5.1 true (oS (T.get tm 1) λa=>M.pure a) λp10=>
 SK p5.1 true (M.on (some (.func (.func 16) #[] #[])) λf=>M.on (seqO [(some p10.1)]) λl=>Ba call round f l) λp11=>
 SK p5.1 true (oS (T.get tm 1) λa=>M.pure a) λp12=>
 SK p5.1 true (oS (seqO [(some p12.1)]) λl=>Bg E .len [22] l) λp13=>
 SK p5.1 true (oS (some p13.1) λa=>oS (some (.int .i64 3)) λb=>Cl.get (aBin E .add 3 (.tmp 18) (.const (.int .i64 3))) a b) λp14=>
 SK p5.1 true (M.on (some p11.1) λa=>M.on (some none) λb=>M.on (onO (some p14.1) λv=>some (some v)) λc=>Be E 22 a b c) λp15=>
 SK p5.1 true (M.on (some (.func (.func 19) #[] #[])) λf=>M.on (seqO [(some p9.1),(some p15.1)]) λl=>Ba call round f l) λp16=>
 M.bind (apartO (M.on (some p5.1) λa=>M.on (some p16.1) λb=>M.on (some (.bool false)) λc=>Ay a b c)) λp17=>
 fJ [p17,p16,p15,p14,p13,p12,p11,p10,p9,p8,p7,p6,p5,p4,p3,p2,p1,p0] tm
theorem ApJ_:DrawEq 23 23 I5 PH [0,1,0,4,15,31,63,63,191,511,63,1087,63,4159,12351,31807,65535,131071,262143] UM_:={}
theorem AvU_ (E:Env)(call round:Ai)(x5 x6 x7 x8 x9 x10 x11 x12 x13 x14 x15 x16 x17 x18 x19 x20 x21 x22:Value)(tm:T Value)(s:St):AK call round (A5 E I5 23 (hdC PH)) [x22,x21,x20,x19,x18,x17,x16,x15,x14,x13,x12,x11,x10,x9,x8,x7,x6,x5] tm s=(M.bind (oS (some x22) λa=>M.pure a) λv4=>setT 4 v4 tm λtm1=>M.pure tm1) s:=X
theorem Aic_: ∃k,T3= .code .ret::k:=⟨T3.tail,X⟩
def Eb:Nat:=Ao Try.f26
abbrev Zw_:Nat:=26
def IZ_:Code:=Try.f26.body.getD .skip
theorem Py_:envS.fn.get 26=some Try.f26:=X
theorem YZ_:G2 envS 26 26 Eb IZ_:=λh=>
 aK Py_ (h _ X X)
theorem Xo_:Try.f26.results.toList=[.tmp 4]:=X
def TS:List Item:=skim 64 [.code IZ_]
def Tv:=nx TS
def Oj_:=nx Tv
def Oc_:=bf Oj_
def Jr:=nx Oc_
def QX:=nx Jr
def Sk:=bt QX
def Aw_:=bf QX
def Sx_:=nx Sk
def Vg_:=nx Aw_
def Me_:=bf Sx_
theorem Axj_:skim 64 Me_.tail=Jr:=X
def Ay_:Rg:=λE u r t=>
 sV 4 (.bool false) t
theorem Aun_:RegEq 26 26 Eb TS Ay_:={}
def Qr_:Rg:=λE u r t=>
 mG t 0 λv6=>
 lL E 36 v6 λv7=>
 mG t 1 λv8=>
 lL E 36 v8 λv9=>
 bT E .neq 3 7 9 v7 v9 λv10=>
 ac 10 v10 t
theorem Akf_:RegEq 26 26 Eb Tv Qr_:={}
theorem AqC_:Aj Oj_=some 10:=X
def HK_:Rg:=λE u r t=>
 sV 5 (.int .i64 0) t
theorem AuI_:RegEq 26 26 Eb Oc_ HK_:={}
def N4:Rg:=λE u r t=>
 mG t 5 λv11=>
 mG t 0 λv12=>
 lL E 36 v12 λv13=>
 bT E .lss 3 11 13 v11 v13 λv14=>
 ac 14 v14 t
theorem Uc:RegEq 26 26 Eb Jr N4:={}
theorem MU_:Aj QX=some 14:=X
def Rt_:RdW:=λE call round tm=>
 PD (T.get tm 0) λp0=>
 PD (T.get tm 5) λp1=>
 ID E 36 (some p0.1) (some p1.1) λp2=>
 LD E 35 (some p2.1) λp3=>
 PD (T.get tm 1) λp4=>
 PD (T.get tm 5) λp5=>
 ID E 36 (some p4.1) (some p5.1) λp6=>
 LD E 35 (some p6.1) λp7=>
 fJ [p7,p6,p5,p4,p3,p2,p1,p0] tm
theorem Ahw_:DrawEq 26 26 Eb Sk [0,0,3,7,0,0,48,112,255] Rt_:={}
theorem AuC_ (E:Env)(call round:Ai)(x17 x18 x19 x20 x21 x22 x23 x24:Value)(tm:T Value)(s:St):AK call round (A5 E Eb 26 (hdC Sk)) [x24,x23,x22,x21,x20,x19,x18,x17] tm s=(M.bind (oS (some x20) λa=>oS (some x24) λb=>Cl.get (aBin E .neq 35 (.tmp 20) (.tmp 24)) a b) λv25=>setT 25 v25 tm λtm1=>M.pure tm1) s:=X
def Dp_:Rg:=λE u r t=>
 sV 4 (.bool true) t
theorem Acb_:RegEq 26 26 Eb Aw_ Dp_:={}
theorem AoV_:Aj Sx_=some 25:=X
theorem AoB_: ∃k,Vg_= .code .ret::k:=⟨Vg_.tail,X⟩
def NK_:Rg:=λE u r t=>
 mG t 5 λv15=>
 bN E .add 15 1 (some v15) λv16=>
 sV 5 v16 t
theorem AkI_:RegEq 26 26 Eb Me_ NK_:={}
theorem CV:slN envS 36=some 18:=X
theorem Bs.len' {E:Env}{s s':St}{t sz:Nat}{v:Value}{l:List Nat}(h:Bs s v l)(ht:slN E t=some sz)(Q:Value->St->Prop):W (Bg E .len [t] [v]) s' Q=Q (.int .i64 (l.length:Nat)) s':=by
 obtain⟨p,c,rfl⟩:=h.sl
 exact BC ht Q
abbrev HdI:Type:=List Nat×Int×Int
def Av (h:HdI):List Value:=u8l h.1++[.int .i64 h.2.1, .int .i64 h.2.2]
theorem BN {h:HdI}(h16:h.1.length=16):(Av h).length=18:=by
 unfold Av
 rw[List.length_append,AQ,h16]
 rfl
theorem EU (h:HdI):(Av h).all oneCell=true:=by
 unfold Av
 rw[List.all_append,CG]
 rfl
def A9:List HdI->List Value
 |[]=>[]
 |h::l=>Av h++A9 l
theorem Gh: ∀{l:List HdI},(∀h∈l,h.1.length=16)->(A9 l).length=l.length*18
 |[],_=>rfl
 |h::l,hl=>by
  unfold A9
  rw[List.length_append,BN (hl h am),Gh λx hx=>hl x (by simp[hx]),List.length_cons]
  omega
theorem Jz_: ∀l:List HdI,(A9 l).all oneCell=true
 |[]=>rfl
 |h::l=>by
  show(Av h++A9 l).all oneCell=true
  rw[List.all_append,EU,Jz_ l]
  rfl
theorem DE {h:HdI}(h16:h.1.length=16):(Av h)[16]?=some (.int .i64 h.2.1)/\(Av h)[17]?=some (.int .i64 h.2.2):=by
 unfold Av
 have:(u8l h.1).length=16:=by rw[AQ];exact h16
 constructor
 ·rw[List.getElem?_append_right J,this];rfl
 ·rw[List.getElem?_append_right J,this];rfl
section
variable {P:Program}{E:Env}{s:St}{t:Nat}
theorem WF_ {h:HdI}(h16:h.1.length=16):(Av h).toArray.extract 0 (0+16)=(u8l h.1).toArray:=by
 apply Array.ext'
 rw[Array.toList_extract]
 simp only[List.extract,Nat.zero_add,List.drop_zero,Nat.sub_zero]
 unfold Av
 rw[List.take_left' (by rw[AQ];exact h16)]
theorem AiF_ {h:HdI}(h16:h.1.length=16):(Av h).toArray[16]?=some (.int .i64 h.2.1)/\(Av h).toArray[17]?=some (.int .i64 h.2.2):=by
 rw[List.getElem?_toArray,List.getElem?_toArray]
 exact DE h16
theorem Atd_ (d:Nat){h:HdI}(h16:h.1.length=16)(hT:Gb P t=true):semP P (Op.equalIn (d+3) t (.agg (Av h).toArray) (.agg (Av h).toArray))=some true:=by
 unfold Gb at hT
 split at hT
 ·rename_i fs hu
  split at hT
  ·rename_i f0 f1 f2 hfs
   simp only[Bool.and_eq_true,bne_iff_ne,ne_eq,Bool.not_eq_true']at hT
   obtain⟨⟨⟨⟨⟨⟨⟨⟨n0,n1⟩,n2⟩,o0⟩,o1⟩,o2⟩,st⟩,_⟩,rest⟩:=hT
   split at rest
   ·rename_i e i0 u0 i0' u1 u2
    rw[Bool.and_eq_true]at rest
    obtain⟨z0,rest⟩:=rest
    split at rest
    ·rename_i ie ue hie
     have o0:=Nat.eq_of_beq_eq_true o0
     have o1:=Nat.eq_of_beq_eq_true o1
     have o2:=Nat.eq_of_beq_eq_true o2
     have z0:=Nat.eq_of_beq_eq_true z0
     have z1:=Nat.eq_of_beq_eq_true rest
     obtain⟨hc1,hc2⟩:=AiF_ h16
     have hp:semP P program=some P:=rfl
     rw[show d+3=(d+2)+1 from rfl]
     unfold Op.equalIn
     simp only[Cq,GH hu,Option.bind_some,hp,st,Bool.false_eq_true,if_false]
     rw[<-Array.forIn_toList,hfs]
     simp only[List.forIn_cons,List.forIn_nil,n0,n1,n2,not_false_eq_true,if_true,Cq,o0,o1,o2,ne_eq]
     rw[Aov_ u0 i0' z0,WF_ h16]
     simp only[Option.bind_some]
     rw[show d+2=d+2 from rfl,Asr_ d h.1 h.1 u0 hie z1 ue h16 h16]
     simp only[Option.bind_some,decide_true,Bool.not_true,Bool.false_eq_true,if_false,Ef,Cq]
     rw[Jv u1 hc1]
     simp only[Option.bind_some]
     rw[show d+2=(d+1)+1 from rfl,V2 u1]
     simp only[Option.bind_some,Bool.not_true,Bool.false_eq_true,if_false,Ef,Cq]
     rw[Jv u2 hc2]
     simp only[Option.bind_some]
     rw[V2 u2]
     simp only[Option.bind_some,Bool.not_true,Bool.false_eq_true,if_false,Ef]
    ·cases rest
   ·cases rest
  ·cases hT
 ·cases hT
theorem AaY_ (h:HdI):plain (.agg (Av h).toArray)=true:=by
 show(Av h).toArray.toList.all (Bc 3)=true
 rw[List.all_eq_true]
 intro v hv
 have hv':v∈Av h:=hv
 unfold Av at hv'
 rcases List.mem_append.1 hv' with hv|hv
 ·obtain⟨n,_,rfl⟩:=List.mem_map.1 hv
  rfl
 ·simp only[List.mem_cons,List.not_mem_nil,or_false]at hv
  rcases hv with rfl|rfl<;>rfl
theorem AcE_ {h:HdI}{xo yo:Operand}(h16:h.1.length=16)(hT:Gb E.P t=true):Cl.get (aBin E .neq t xo yo) (.agg (Av h).toArray) (.agg (Av h).toArray) s= .some (.bool false) s:=by
 show AP E .neq t xo yo (.agg (Av h).toArray) (.agg (Av h).toArray) s=_
 unfold AP
 rw[AaY_]
 show M.on (semP E.P (do eqGuard .neq t xo yo (.agg (Av h).toArray) (.agg (Av h).toArray);binOp .neq t (.agg (Av h).toArray) (.agg (Av h).toArray))) pV s=_
 rw[Cq,Auk_ (AuA_ hT)]
 show M.on (semP E.P (do pure (.bool (!(<-Op.equalIn (9997+3) t (.agg (Av h).toArray) (.agg (Av h).toArray)))))) pV s=_
 rw[Cq,Atd_ 9997 h16 hT]
 rfl
theorem Apd_ {h:HdI}{xo yo:Operand}(h16:h.1.length=16)(hT:Gb E.P t=true)(Q:Value->St->Prop):W (Cl.get (aBin E .neq t xo yo) (.agg (Av h).toArray) (.agg (Av h).toArray)) s Q=Q (.bool false) s:=AD (AcE_ h16 hT)
end
def HiR (s:St)(v:Value)(hs:List HdI):Prop:=(v= .slice none 0 0/\hs=[])\/ ∃b o c,v= .slice (some ⟨b,o,none⟩) hs.length c/\Row s b o (A9 hs)
def HiF (v:Value)(x:Nat):Prop:=match v with| .slice (some a) n _=>In a.block a.off (n*18) x|_=>False
theorem HiR.same {s s':St}{v:Value}{hs:List HdI}(h:HiR s v hs)(hm:s'.mem=s.mem)(hn:s'.next=s.next):HiR s' v hs:=by
 rcases h with h|⟨b,o,c,h0,h3⟩
 ·exact .inl h
 ·exact .inr ⟨b,o,c,h0,λi v e=>(h3 i v e).same hm hn⟩
theorem HiR.len {s s':St}{v:Value}{hs:List HdI}(h:HiR s v hs)(Q:Value->St->Prop):W (Bg envS .len [36] [v]) s' Q=Q (.int .i64 (hs.length:Nat)) s':=by
 rcases h with⟨rfl,rfl⟩|⟨b,o,c,rfl,_⟩
 ·exact BC CV Q
 ·exact BC CV Q
theorem Agw_ (l:List HdI)(m:List HdI):A9 (l++m)=A9 l++A9 m:=by
 induction l with
 |nil=>rfl
 |cons h l ih=>show Av h++A9 (l++m)=(Av h++A9 l)++A9 m;rw[ih,List.append_assoc]
theorem AaJ_ {hs:List HdI}(h16: ∀h∈hs,h.1.length=16){i:Nat}(hi:i<hs.length){j:Nat}(hj:j<18):(A9 hs)[i*18+j]?=(Av hs[i])[j]?:=by
 have e:hs=hs.take i++hs[i]::hs.drop (i+1):=by rw[List.getElem_cons_drop,List.take_append_drop]
 have hl:(A9 (hs.take i)).length=i*18:=by
  rw[Gh λh hh=>h16 h (List.mem_of_mem_take hh),List.length_take]
  congr 1;omega
 have h18:(Av hs[i]).length=18:=BN (h16 _ (List.getElem_mem hi))
 conv=>lhs;rw[e,Agw_]
 rw[List.getElem?_append_right J,hl,show i*18+j-i*18=j by omega]
 show(Av hs[i]++A9 (hs.drop (i+1)))[j]?=_
 rw[List.getElem?_append_left J]
theorem HiR.at {s:St}{v:Value}{hs:List HdI}(h:HiR s v hs)(h16: ∀h∈hs,h.1.length=16){i:Nat}(hi:i<hs.length): ∃b o c,v= .slice (some ⟨b,o,none⟩) hs.length c/\Row s b (o+i*18) (Av hs[i])/\(∀x,In b (o+i*18) 18 x->HiF v x):=by
 rcases h with⟨rfl,rfl⟩|⟨b,o,c,rfl,h3⟩
 ·simp at hi
 ·refine⟨b,o,c,rfl,λj u e=> ?_,λx hx=>⟨by have:=hx.1;show b+o<=x;omega,by
   have h2:x<b+(o+i*18)+18:=hx.2
   show x<b+o+hs.length*18
   have:(i+1)*18<=hs.length*18:=Nat.mul_le_mul_right 18 hi
   omega⟩⟩
  have hj:j<18:=by
   have:=(List.getElem?_eq_some_iff.1 e).1
   rwa [BN (h16 _ (List.getElem_mem hi))]at this
  have:=h3 (i*18+j) u (by rw[AaJ_ h16 hi hj];exact e)
  rwa [show o+(i*18+j)=o+i*18+j by omega]at this
theorem Arm_ {va vb:Value}{hs:List HdI}{F:Nat->Prop}(hFa: ∀x,HiF va x->F x)(hFb: ∀x,HiF vb x->F x){Q:Value×FrameMode->St->Prop}{s0:St}(hb0:s0.lim<=s0.next)(ha:HiR s0 va hs)(hb:HiR s0 vb hs)(h16: ∀h∈hs,h.1.length=16)(hz:hs.length<=4611686018427387904)(hcx:s0.cx= .cx none (some []))(q: ∀s1,Ext F Non s0 s1->s1.mem=s0.mem->s1.next=s0.next->Q (.bool true, .run) s1):
  ∀(k i n:Nat) (tm:T Value) (s:St) (td:List Item),i+k=hs.length->7*k+20<=n->skim 64 td=Jr->Ext F Non s0 s->s.mem=s0.mem->s.next=s0.next->
  T.get tm 0=some va->T.get tm 1=some vb->T.get tm 5=some (.int .i64 (i:Nat))->
  W (runF envS n ⟨26,Zw_,Eb,tm,td, .run, .normal,none⟩) s Q:=by
 intro k
 induction k with
 |zero=>
  intro i n tm s td hi hn hT hx hm hnx h0 h1 h5
  refine Uc.u ?_ hT
  simp only[N4,RR,SS,h0,h5]
  rw[ha.len]
  simp only[Ab]
  refine aE MU_ ?_
  refine Acb_.u ?_
  simp only[Dp_,RR,SS]
  refine aB (rs:=[4]) (vs:=[.bool true]) rfl (.inl AoB_) J Py_ Xo_ (hx.cx.trans hcx) Y ?_
  exact q s hx hm hnx
 |succ k ih=>
  intro i n tm s td hi hn hT hx hm hnx h0 h1 h5
  have hil:i<hs.length:=J
  have hI:(Av hs[i]).length=18:=BN (h16 _ (List.getElem_mem hil))
  obtain⟨ba,oa,ca,rfl,ga,fa⟩:=ha.at h16 hil
  obtain⟨bb,ob,cb,rfl,gb,fb⟩:=hb.at h16 hil
  refine Uc.u ?_ hT
  simp only[N4,RR,SS,h0,h5]
  rw[BC CV]
  simp only[Ab]
  refine aH MU_ ?_
  refine Ahw_.u ?_
  simp only[Rt_,RR,T.get_set,Nat.reduceEqDiff, ↓reduceIte,h0,h1,h5,AA,Aw]
  rw[W_dq λs Q=>AO (s:=s) CV hil Q]
  refine aZ CH (λj u e=>(ga j u e).same hm hnx) hI λm1 rd1 e1 hr1=> ?_
  subst e1
  simp only[Aw]
  rw[W_dq λs Q=>AO (s:=s) CV hil Q]
  refine aZ CH (λj u e=>(gb j u e).same hm hnx) hI λm2 rd2 e2 hr2=> ?_
  subst e2
  rw[AJ]
  refine⟨CX am am, ?_⟩
  refine W.cast (AuC_ _ _ _ _ _ _ _ _ _ _ _ _ _) ?_
  simp only[SS]
  rw[Apd_ (h16 _ (List.getElem_mem hil)) Zj_]
  generalize hs':(⟨(dSt s.mem s.next).mem,(dSt s.mem s.next).next,s.lim,_,_,s.cx⟩:St)=s'
  have hx':Ext F Non s0 s':=by
   rw[<-hs']
   refine hx.trans (Ext.draw (F:=F) (Nat.le_refl _) (λ_ _=>rfl) am (by
    simp only[List.mem_cons,List.not_mem_nil,or_false]
    rintro m (rfl|rfl|rfl|rfl|rfl|rfl|rfl|rfl) x hx _<;>first|(exact hFa _ (fa _ (hr1 _ hx)))|(exact hFb _ (fb _ (hr2 _ hx)))|(cases hx))) hb0 (λ_ _ h=>h) λ_ _ h=>h
  have hm':s'.mem=s0.mem:=by rw[<-hs'];exact hm
  have hn':s'.next=s0.next:=by rw[<-hs'];exact hnx
  refine aE AoV_ ?_
  refine AkI_.u ?_
  have ei:=eiW (i:=i) J
  simp only[NK_,RR,SS,Nat.reduceEqDiff, ↓reduceIte,Ad,h5,ei]
  exact ih (i+1) _ _ _ _ J J Axj_ hx' hm' hn' (an h0) (an h1) Y
theorem AtB_ {va vb:Value}{hs:List HdI}{n:Nat}{s:St}{Q:Value->St->Prop}(hbd:s.lim<=s.next)(ha:HiR s va hs)(hb:HiR s vb hs)(h16: ∀h∈hs,h.1.length=16)(hz:hs.length<=4611686018427387904)(hn:7*hs.length+40<=n)
  (q: ∀s1,Ext (λx=>HiF va x\/HiF vb x) Non s s1->s1.mem=s.mem->s1.next=s.next->Q (.bool true) s1):W (Ac envS (runF envS n) 26 [va,vb]) s Q:=by
 refine YZ_ λtm h0 h1=> ?_
 have ha':HiR (s.cxN cxN) va hs:=ha.same rfl rfl
 have hb':HiR (s.cxN cxN) vb hs:=hb.same rfl rfl
 refine Aun_.u ?_
 simp only[Ay_,RR,SS]
 refine Akf_.u ?_
 simp only[Qr_,RR,SS,Nat.reduceEqDiff,reduceCtorEq, ↓reduceIte,h0,h1]
 rw[ha'.len,hb'.len]
 simp only[Ag]
 refine aE AqC_ ?_
 refine AuI_.u ?_
 simp only[HK_,RR,SS]
 exact Arm_ (s0:=s.cxN cxN) (F:=λx=>HiF va x\/HiF vb x) (λ_ h=> .inl h) (λ_ h=> .inr h) hbd ha' hb' h16 hz rfl (λs1 x1 m1 n1=>q _ x1.cx' m1 n1) hs.length 0 _ _ _ _ J J rfl (Ext.refl _) rfl rfl (an h0) (an h1) Y
theorem HiR.ext {F G:Nat->Prop}{s s':St}{v:Value}{hs:List HdI}(h:HiR s v hs)(h16: ∀h∈hs,h.1.length=16)(e:Ext F G s s')(hG: ∀x,HiF v x-> ¬G x):HiR s' v hs:=by
 rcases h with h|⟨b,o,c,h0,h3⟩
 ·exact .inl h
 ·refine .inr ⟨b,o,c,h0,h3.ext e λi hi=>hG _ ?_⟩
  rw[Gh h16]at hi
  rw[h0]
  exact⟨by show b+o<=b+(o+i);omega,by show b+(o+i)<b+o+hs.length*18;omega⟩
theorem HiR.ext0 {F:Nat->Prop}{s s':St}{v:Value}{hs:List HdI}(h:HiR s v hs)(e:Ext F Non s s'):HiR s' v hs:=by
 rcases h with h|⟨b,o,c,h0,h3⟩
 ·exact .inl h
 ·exact .inr ⟨b,o,c,h0,h3.ext0 e⟩
theorem HiR.lt {s:St}{v:Value}{hs:List HdI}(h:HiR s v hs)(h16: ∀h∈hs,h.1.length=16): ∀x,HiF v x->x<s.next:=by
 intro x hx
 rcases h with⟨rfl,_⟩|⟨b,o,c,rfl,h3⟩
 ·exact hx.elim
 ·have h1:b+o<=x:=hx.1
  have h2:x<b+o+hs.length*18:=hx.2
  have hl:x-(b+o)<(A9 hs).length:=by rw[Gh h16];omega
  have:=(h3 (x-(b+o)) _ (List.getElem?_eq_getElem hl)).1
  omega
theorem HiR.one {s:St}{v:Value}{hs:List HdI}(h:HiR s v hs):oneCell v=true:=by
 rcases h with⟨rfl,_⟩|⟨b,o,c,rfl,_⟩<;>rfl
theorem A8:slN envS 55=some 3:=X
theorem Ca:tyS envS 85=some (3,true):=X
theorem FJ:DZ envS 85=some [.int .i64 0, .int .i64 0, .slice none 0 0]:=X
theorem Dm:fldN envS 85 0=some (0,1,false):=X
theorem DB:fldN envS 85 1=some (1,1,false):=X
theorem BG:fldN envS 85 2=some (2,1,false):=X
theorem FR_:elT envS 55=some (3,40,[.int .i64 0, .int .i64 0, .slice none 0 0]):=X
theorem Vw:appT envS 55 55=some (3,40,false,[.int .i64 0, .int .i64 0, .slice none 0 0]):=X
structure PkI where
 num:Int
 size:Int
 v:Value
 hs:List HdI
def pkC (p:PkI):List Value:=[.int .i64 p.num, .int .i64 p.size,p.v]
def pkCs:List PkI->List Value
 |[]=>[]
 |p::l=>pkC p++pkCs l
theorem Ge: ∀l:List PkI,(pkCs l).length=l.length*3
 |[]=>rfl
 |p::l=>by
  show(pkC p++pkCs l).length=_
  rw[List.length_append,Ge l,List.length_cons]
  show 3+_=_
  omega
theorem SR_ (l m:List PkI):pkCs (l++m)=pkCs l++pkCs m:=by
 induction l with
 |nil=>rfl
 |cons h l ih=>show pkC h++pkCs (l++m)=(pkC h++pkCs l)++pkCs m;rw[ih,List.append_assoc]
theorem FG {ps:List PkI}{i:Nat}(hi:i<ps.length){j:Nat}(hj:j<3):(pkCs ps)[i*3+j]?=(pkC ps[i])[j]?:=by
 have e:ps=ps.take i++ps[i]::ps.drop (i+1):=by rw[List.getElem_cons_drop,List.take_append_drop]
 have hl:(pkCs (ps.take i)).length=i*3:=by
  rw[Ge,List.length_take]
  congr 1;omega
 conv=>lhs;rw[e,SR_]
 rw[List.getElem?_append_right J,hl,show i*3+j-i*3=j by omega]
 show(pkC ps[i]++pkCs (ps.drop (i+1)))[j]?=_
 rw[List.getElem?_append_left (show j<3 from hj)]
structure PkR (s:St)(v:Value)(ps:List PkI):Prop where
 row:(v= .slice none 0 0/\ps=[])\/ ∃b o c,v= .slice (some ⟨b,o,none⟩) ps.length c/\Row s b o (pkCs ps)
 hs: ∀p∈ps,HiR s p.v p.hs
 h16: ∀p∈ps,∀h∈p.hs,h.1.length=16
def PkF (v:Value)(ps:List PkI)(x:Nat):Prop:=(match v with| .slice (some a) n _=>In a.block a.off (n*3) x|_=>False)\/ ∃p∈ps,HiF p.v x
theorem PkR.same {s s':St}{v:Value}{ps:List PkI}(h:PkR s v ps)(hm:s'.mem=s.mem)(hn:s'.next=s.next):PkR s' v ps:=by
 refine⟨?_,λp hp=>(h.hs p hp).same hm hn,h.h16⟩
 rcases h.row with h|⟨b,o,c,h0,h3⟩
 ·exact .inl h
 ·exact .inr ⟨b,o,c,h0,λi v e=>(h3 i v e).same hm hn⟩
theorem PkR.ext {F G:Nat->Prop}{s s':St}{v:Value}{ps:List PkI}(h:PkR s v ps)(e:Ext F G s s')(hG: ∀x,PkF v ps x-> ¬G x):PkR s' v ps:=by
 refine⟨?_,λp hp=>(h.hs p hp).ext (h.h16 p hp) e λx hx=>hG x (.inr ⟨p,hp,hx⟩),h.h16⟩
 rcases h.row with h|⟨b,o,c,h0,h3⟩
 ·exact .inl h
 ·refine .inr ⟨b,o,c,h0,h3.ext e λi hi=>hG _ (.inl ?_)⟩
  rw[Ge]at hi
  rw[h0]
  exact⟨by show b+o<=_;omega,by show b+(o+i)<b+o+ps.length*3;omega⟩
theorem PkR.ext0 {F:Nat->Prop}{s s':St}{v:Value}{ps:List PkI}(h:PkR s v ps)(e:Ext F Non s s'):PkR s' v ps:=h.ext e λ_ _=>id
theorem PkR.len {s s':St}{v:Value}{ps:List PkI}(h:PkR s v ps)(Q:Value->St->Prop):W (Bg envS .len [55] [v]) s' Q=Q (.int .i64 (ps.length:Nat)) s':=by
 rcases h.row with⟨rfl,rfl⟩|⟨b,o,c,rfl,_⟩
 ·exact BC A8 Q
 ·exact BC A8 Q
theorem PkR.at {s:St}{v:Value}{ps:List PkI}(h:PkR s v ps){i:Nat}(hi:i<ps.length): ∃b o c,v= .slice (some ⟨b,o,none⟩) ps.length c/\Row s b (o+i*3) (pkC ps[i])/\HiR s ps[i].v ps[i].hs/\(∀h∈ps[i].hs,h.1.length=16)/\(∀x,In b (o+i*3) 3 x->PkF v ps x)/\(∀x,HiF ps[i].v x->PkF v ps x):=by
 have hm:=List.getElem_mem hi
 rcases h.row with⟨rfl,rfl⟩|⟨b,o,c,rfl,h3⟩
 ·simp at hi
 ·refine⟨b,o,c,rfl,λj u e=> ?_,h.hs _ hm,h.h16 _ hm,λx hx=> .inl ⟨by have:=hx.1;show b+o<=x;omega,by
   have h2:x<b+(o+i*3)+3:=hx.2
   show x<b+o+ps.length*3
   have:(i+1)*3<=ps.length*3:=Nat.mul_le_mul_right 3 hi
   omega⟩,λx hx=> .inr ⟨_,hm,hx⟩⟩
  have hj:j<3:=(List.getElem?_eq_some_iff.1 e).1
  have:=h3 (i*3+j) u (by rw[FG hi hj];exact e)
  rwa [show o+(i*3+j)=o+i*3+j by omega]at this
theorem I4 {s:St}{p:PkI}(h:HiR s p.v p.hs):(pkC p).all oneCell=true:=by
 have:=h.one
 unfold pkC
 simp[oneCell]at this ⊢
 exact this
def Bv:Nat:=Ao Try.f43
abbrev Is:Nat:=65
def Ye:Code:=Try.f43.body.getD .skip
theorem H0:envS.fn.get 43=some Try.f43:=X
theorem AwC_:G1 envS 43 65 Bv Ye:=λh=>
 aK H0 (h _ X)
theorem Jj:Try.f43.results.toList=[.tmp 2]:=X
def MC_:List Item:=skim 64 [.code Ye]
def Iy_:=nx MC_
def QU_:=nx Iy_
def Ke:=nx QU_
def Qr:=nx Ke
def VT:=bt Qr
def Om_:=bf Qr
def JV_:=nx VT
def Jk:=nx Om_
def GH_:=nx JV_
def FA_:=bt Jk
def Wh_:=bf Jk
theorem Agp_:skim 64 GH_.tail=Ke:=X
def Ea_:=nx FA_
def Lg:=nx Wh_
def Qv:=nx Lg
def OX_:=bt Qv
def DC_:=bf Qv
def X9:=nx OX_
def Ja:=nx DC_
def Qf:=nx X9
def Na:=nx Ja
def Nl_:=bt Qf
def Tj_:=bf Qf
def Sz_:=bt Na
def AA_:=bf Na
def VE:=nx Nl_
theorem Abx_:skim 64 Tj_.tail=Lg:=X
def Nh:=nx Sz_
def Uw:=nx AA_
def Lm:=nx Nh
def Zx:=bt Lm
def Ve_:=bf Lm
def TN:=nx Zx
theorem AnB_:skim 64 Ve_.tail=Ja:=X
def Os_:Rg:=λE u r t=>
 sV 2 (.int .i64 0) t
theorem Ata_:RegEq 43 65 Bv MC_ Os_:={}
def CM_:Rg:=λE u r t=>
 sV 3 (.int .i64 0) t
theorem AkJ_:RegEq 43 65 Bv Iy_ CM_:={}
def Fo_:Rg:=λE u r t=>
 mG t 0 λv10=>
 setF 10 v10 t λt1=>
 lL E 55 v10 λv11=>
 setF 11 v11 t1 λt2=>
 sV 12 (.int .i64 0) t2
theorem Are_:RegEq 43 65 Bv QU_ Fo_:={}
def PE:Rg:=λE u r t=>
 bI E .lss 3 (.tmp 12) (.tmp 11) (T.get t 12) (T.get t 11) λv13=>
 ac 13 v13 t
theorem OL_:RegEq 43 65 Bv Ke PE:={}
theorem Tp_:Aj Qr=some 13:=X
def YY:Rg:=λE u r t=>
 iD E 55 (T.get t 10) (T.get t 12) λv14=>
 lD E 85 (some v14) λv15=>
 M.bind (A6 E 85) λv5=>
 setF 5 v5 t λt1=>
 sT E 85 (some v5) (some v15) λ_=>
 M.pure t1
theorem Aqx_:RegEq 43 65 Bv VT YY:={}
def Sg_:Rg:=λE u r t=>
 mG t 0 λv22=>
 lL E 55 v22 λv23=>
 bN E .gtr 23 500 (some v23) λv24=>
 mv (some v24) λv25=>
 sK v25 false (pG t 3) λv26=>
 sK v25 false (oS (some v26) λa=>oS (some (.int .i64 20000)) λb=>Cl.get (aBin E .gtr 3 (.tmp 26) (.const (.int .i64 20000))) a b) λv27=>
 ae v25 (.bool true) v27 λv28=>
 ac 28 v28 t
theorem Aoj_:RegEq 43 65 Bv Om_ Sg_:={}
def Uf_:Rg:=λE u r t=>
 mG t 3 λv16=>
 fD E 85 2 (T.get t 5) λv17=>
 lD E 36 (some v17) λv18=>
 lL E 36 v18 λv19=>
 bT E .add 3 16 19 v16 v19 λv20=>
 sV 3 v20 t
theorem Axv_:RegEq 43 65 Bv JV_ Uf_:={}
theorem QG_:Aj Jk=some 28:=X
def Ty:Rg:=λE u r t=>
 bN E .add 12 1 (T.get t 12) λv21=>
 sV 12 v21 t
theorem Xe_:RegEq 43 65 Bv GH_ Ty:={}
def Rx_:Rg:=λE u r t=>
 sV 2 (.int .i64 3) t
theorem AsA_:RegEq 43 65 Bv FA_ Rx_:={}
def UU:Rg:=λE u r t=>
 mG t 0 λv29=>
 setF 29 v29 t λt1=>
 lL E 55 v29 λv30=>
 setF 30 v30 t1 λt2=>
 sV 31 (.int .i64 0) t2
theorem Ace_:RegEq 43 65 Bv Wh_ UU:={}
theorem Amg_: ∃k,Ea_= .code .ret::k:=⟨Ea_.tail,X⟩
def OP:Rg:=λE u r t=>
 bI E .lss 3 (.tmp 31) (.tmp 30) (T.get t 31) (T.get t 30) λv32=>
 ac 32 v32 t
theorem Hr_:RegEq 43 65 Bv Lg OP:={}
theorem UW:Aj Qv=some 32:=X
def Wi:Rg:=λE u r t=>
 iD E 55 (T.get t 29) (T.get t 31) λv33=>
 lD E 85 (some v33) λv34=>
 M.bind (A6 E 85) λv7=>
 setF 7 v7 t λt1=>
 sT E 85 (some v7) (some v34) λ_=>
 M.pure t1
theorem Aoe_:RegEq 43 65 Bv OX_ Wi:={}
def PA_:Rg:=λE u r t=>
 mG t 0 λv39=>
 setF 39 v39 t λt1=>
 lL E 55 v39 λv40=>
 setF 40 v40 t1 λt2=>
 sV 41 (.int .i64 0) t2
theorem ArQ_:RegEq 43 65 Bv DC_ PA_:={}
def Hk_:Rg:=λE u r t=>
 lD E 85 (T.get t 7) λv35=>
 cN u r 94 [(some v35)] λv36=>
 M.bind (oS (some v36) λa=>kUn E.P .not a) λv37=>
 ac 37 v37 t
theorem ApK_:RegEq 43 65 Bv X9 Hk_:={}
def Pw:Rg:=λE u r t=>
 bI E .lss 3 (.tmp 41) (.tmp 40) (T.get t 41) (T.get t 40) λv42=>
 ac 42 v42 t
theorem AW_:RegEq 43 65 Bv Ja Pw:={}
theorem Vd:Aj Qf=some 37:=X
theorem NZ_:Aj Na=some 42:=X
def HQ_:Rg:=λE u r t=>
 sV 2 (.int .i64 5) t
theorem AeW_:RegEq 43 65 Bv Nl_ HQ_:={}
def UW_:Rg:=λE u r t=>
 bN E .add 31 1 (T.get t 31) λv38=>
 sV 31 v38 t
theorem AxM_:RegEq 43 65 Bv Tj_ UW_:={}
def XN:Rg:=λE u r t=>
 mG t 41 λv43=>
 iD E 55 (T.get t 39) (T.get t 41) λv44=>
 lD E 85 (some v44) λv45=>
 M.bind (A6 E 85) λv9=>
 setF 9 v9 t λt1=>
 mv (some v43) λv8=>
 setF 8 v8 t1 λt2=>
 sT E 85 (some v9) (some v45) λ_=>
 M.pure t2
theorem AtV_:RegEq 43 65 Bv Sz_ XN:={}
def Kw_:Rg:=λE u r t=>
 sV 2 (.int .i64 0) t
theorem Awv_:RegEq 43 65 Bv AA_ Kw_:={}
theorem AqX_: ∃k,VE= .code .ret::k:=⟨VE.tail,X⟩
def Qk_:RdW:=λE call round tm=>
 PD (T.get tm 8) λp0=>
 BI E .gtr 3 (.tmp 46) (.const (.int .i64 0)) (some p0.1) (some (.int .i64 0)) λp1=>
 PD (some p1.1) λp2=>
 SK p2.1 true (oS (T.get tm 9) λa=>kFld E 85 a 0) λp3=>
 SK p2.1 true (oS (some p3.1) λa=>AE E 3 a) λp4=>
 SK p2.1 true (oS (T.get tm 0) λa=>M.pure a) λp5=>
 SK p2.1 true (oS (T.get tm 8) λa=>M.pure a) λp6=>
 SK p2.1 true (oS (some p6.1) λa=>oS (some (.int .i64 1)) λb=>Cl.get (aBin E .sub 3 (.tmp 52) (.const (.int .i64 1))) a b) λp7=>
 SK p2.1 true (oS (some p5.1) λa=>oS (some p7.1) λb=>BJ E 55 a b) λp8=>
 SK p2.1 true (oS (some p8.1) λa=>kFld E 85 a 0) λp9=>
 SK p2.1 true (oS (some p9.1) λa=>AE E 3 a) λp10=>
 SK p2.1 true (oS (some p4.1) λa=>oS (some p10.1) λb=>Cl.get (aBin E .leq 3 (.tmp 50) (.tmp 56)) a b) λp11=>
 M.bind (apartO (M.on (some p2.1) λa=>M.on (some p11.1) λb=>M.on (some (.bool false)) λc=>Ay a b c)) λp12=>
 PD (some p12.1) λp13=>
 SK p13.1 false (oS (T.get tm 9) λa=>AE E 85 a) λp14=>
 SK p13.1 false (M.on (some (.func (.func 95) #[] #[])) λf=>M.on (seqO [(some p14.1)]) λl=>Ba call round f l) λp15=>
 SK p13.1 false (oS (some p15.1) λa=>kUn E.P .not a) λp16=>
 fJ [p16,p15,p14,p13,p12,p11,p10,p9,p8,p7,p6,p5,p4,p3,p2,p1,p0] tm
theorem AeU_:DrawEq 43 65 Bv Nh [0,1,3,7,15,7,7,71,231,487,999,2047,4095,8191,16383,32767,65535,131071] Qk_:={}
theorem OK (E:Env)(call round:Ai)(x46 x47 x48 x49 x50 x51 x52 x53 x54 x55 x56 x57 x58 x59 x60 x61 x62:Value)(tm:T Value)(s:St):AK call round (A5 E Bv 65 (hdC Nh)) [x62,x61,x60,x59,x58,x57,x56,x55,x54,x53,x52,x51,x50,x49,x48,x47,x46] tm s=(M.bind (M.on (some x59) λa=>M.on (some (.bool true)) λb=>M.on (some x62) λc=>Ay a b c) λv63=>setT 63 v63 tm λtm1=>M.pure tm1) s:=X
theorem WM_: ∃k,Uw= .code .ret::k:=⟨Uw.tail,X⟩
theorem Nj_:Aj Lm=some 63:=X
def Cq_:Rg:=λE u r t=>
 sV 2 (.int .i64 2) t
theorem XF_:RegEq 43 65 Bv Zx Cq_:={}
def YB:Rg:=λE u r t=>
 bN E .add 41 1 (T.get t 41) λv64=>
 sV 41 v64 t
theorem Adg_:RegEq 43 65 Bv Ve_ YB:={}
theorem Asi_: ∃k,TN= .code .ret::k:=⟨TN.tail,X⟩
def H9:Nat:=Ao Try.f94
abbrev AlD_:Nat:=29
def Bt_:Code:=Try.f94.body.getD .skip
theorem BE_:envS.fn.get 94=some Try.f94:=X
theorem YD_:G1 envS 94 29 H9 Bt_:=λh=>
 aK BE_ (h _ X)
theorem AsH_:Try.f94.results.toList=[.tmp 2]:=X
def MV_:List Item:=skim 64 [.code Bt_]
def Ka_:=nx MV_
def N9:=nx Ka_
def GM_:=nx N9
def TX_:Rg:=λE u r t=>
 M.bind (oS (T.get t 0) λa=>kBox a) λv1=>
 setF 1 v1 t λt1=>
 sV 2 (.bool false) t1
theorem AmQ_:RegEq 94 29 H9 MV_ TX_:={}
def DK_:Rg:=λE u r t=>
 fD E 85 2 (T.get t 1) λv4=>
 lD E 36 (some v4) λv5=>
 cN u r 126 [(some v5),(some (.func (.func 127) #[] #[]))] λv6=>
 sV 3 v6 t
theorem Abr_:RegEq 94 29 H9 Ka_ DK_:={}
def LG_:Rg:=λE u r t=>
 fD E 85 0 (T.get t 1) λv7=>
 lD E 3 (some v7) λv8=>
 bN E .geq 8 1 (some v8) λv9=>
 mv (some v9) λv10=>
 sK v10 true (oS (T.get t 1) λa=>kFld E 85 a 0) λv11=>
 sK v10 true (oS (some v11) λa=>AE E 3 a) λv12=>
 sK v10 true (oS (some v12) λa=>oS (some (.int .i64 999999)) λb=>Cl.get (aBin E .leq 3 (.tmp 12) (.const (.int .i64 999999))) a b) λv13=>
 ae v10 v13 (.bool false) λv14=>
 mv (some v14) λv15=>
 sK v15 true (oS (T.get t 1) λa=>kFld E 85 a 1) λv16=>
 sK v15 true (oS (some v16) λa=>AE E 3 a) λv17=>
 sK v15 true (oS (some v17) λa=>oS (some (.int .i64 0)) λb=>Cl.get (aBin E .geq 3 (.tmp 17) (.const (.int .i64 0))) a b) λv18=>
 ae v15 v18 (.bool false) λv19=>
 mv (some v19) λv20=>
 sK v20 true (oS (T.get t 1) λa=>kFld E 85 a 1) λv21=>
 sK v20 true (oS (some v21) λa=>AE E 3 a) λv22=>
 sK v20 true (oS (some v22) λa=>oS (some (.int .i64 65536)) λb=>Cl.get (aBin E .leq 3 (.tmp 22) (.const (.int .i64 65536))) a b) λv23=>
 ae v20 v23 (.bool false) λv24=>
 mv (some v24) λv25=>
 sK v25 true (pG t 3) λv26=>
 sK v25 true (oS (some v26) λa=>kUn E.P .not a) λv27=>
 ae v25 v27 (.bool false) λv28=>
 sV 2 v28 t
theorem Aof_:RegEq 94 29 H9 N9 LG_:={}
theorem AfS_: ∃k,GM_= .code .ret::k:=⟨GM_.tail,X⟩
def R8:Nat:=Ao Try.f127
def TV_:Code:=Try.f127.body.getD .skip
theorem Nf:envS.fn.get 127=some Try.f127:=X
theorem WS_:G1 envS 127 12 R8 TV_:=λh=>
 aK Nf (h _ X)
theorem X5:Try.f127.results.toList=[.tmp 2]:=X
def Tu:List Item:=skim 64 [.code TV_]
def S8:=nx Tu
def Pj_:=nx S8
def Am_:Rg:=λE u r t=>
 M.bind (oS (T.get t 0) λa=>kBox a) λv1=>
 setF 1 v1 t λt1=>
 sV 2 (.bool false) t1
theorem AuN_:RegEq 127 12 R8 Tu Am_:={}
def Ok_:Rg:=λE u r t=>
 fD E 35 1 (T.get t 1) λv3=>
 lD E 3 (some v3) λv4=>
 bN E .lss 4 0 (some v4) λv5=>
 mv (some v5) λv6=>
 sK v6 false (oS (T.get t 1) λa=>kFld E 35 a 2) λv7=>
 sK v6 false (oS (some v7) λa=>AE E 3 a) λv8=>
 sK v6 false (M.on (some (.func (.func 20) #[] #[])) λf=>M.on (seqO [(some v8)]) λl=>Ba u r f l) λv9=>
 sK v6 false (oS (some v9) λa=>oS (some (.int .i64 0)) λb=>Cl.get (aBin E .eql 3 (.tmp 9) (.const (.int .i64 0))) a b) λv10=>
 ae v6 (.bool true) v10 λv11=>
 sV 2 v11 t
theorem AoE_:RegEq 127 12 R8 S8 Ok_:={}
theorem Bw_: ∃k,Pj_= .code .ret::k:=⟨Pj_.tail,X⟩
def NJ:Nat:=Ao Try.f126
def TO_:Code:=Try.f126.body.getD .skip
theorem XG:envS.fn.get 126=some Try.f126:=X
theorem AdF_:G2 envS 126 9 NJ TO_:=λh=>
 aK XG (h _ X X)
theorem AxH_:Try.f126.results.toList=[.tmp 4]:=X
def OV_:List Item:=skim 64 [.code TO_]
def EF_:=nx OV_
def Yz:=nx EF_
def U8:Rg:=λE u r t=>
 sV 4 (.bool false) t
theorem YB_:RegEq 126 9 NJ OV_ U8:={}
def ZO:Rg:=λE u r t=>
 mG t 0 λv5=>
 mG t 1 λv6=>
 cN u r 144 [(some v5),(some v6)] λv7=>
 bN E .geq 7 0 (some v7) λv8=>
 sV 4 v8 t
theorem Ask_:RegEq 126 9 NJ EF_ ZO:={}
theorem AgG_: ∃k,Yz= .code .ret::k:=⟨Yz.tail,X⟩
def Eg:Nat:=Ao Try.f144
abbrev Aog_:Nat:=19
def Tu_:Code:=Try.f144.body.getD .skip
theorem Sa:envS.fn.get 144=some Try.f144:=X
theorem ArV_:G2 envS 144 19 Eg Tu_:=λh=>
 aK Sa (h _ X X)
theorem FE_:Try.f144.results.toList=[.tmp 4]:=X
def HE_:List Item:=skim 64 [.code Tu_]
def Hb_:=nx HE_
def KQ:=nx Hb_
def MH:=nx KQ
def U4:=bt MH
def Ki_:=bf MH
def Vo:=nx U4
def DP_:=nx Ki_
def PB:=nx Vo
def Jm_:=bt PB
def Vp:=bf PB
def SZ:=nx Jm_
theorem XS_:skim 64 Vp.tail=KQ:=X
def CX_:Rg:=λE u r t=>
 sV 4 (.int .i64 0) t
theorem Ahy_:RegEq 144 19 Eg HE_ CX_:={}
def Kd_:Rg:=λE u r t=>
 mG t 0 λv6=>
 lL E 36 v6 λv7=>
 setF 7 v7 t λt1=>
 sV 8 (.int .i64 0) t1
theorem YM_:RegEq 144 19 Eg Hb_ Kd_:={}
def Qy:Rg:=λE u r t=>
 bI E .lss 3 (.tmp 8) (.tmp 7) (T.get t 8) (T.get t 7) λv9=>
 ac 9 v9 t
theorem UZ:RegEq 144 19 Eg KQ Qy:={}
theorem Po_:Aj MH=some 9:=X
def Uj_:Rg:=λE u r t=>
 mG t 8 λv10=>
 sV 5 v10 t
theorem Axg_:RegEq 144 19 Eg U4 Uj_:={}
def EV_:Rg:=λE u r t=>
 sV 4 (.int .i64 (-1)) t
theorem XX_:RegEq 144 19 Eg Ki_ EV_:={}
def V3:Rg:=λE u r t=>
 mG t 1 λv11=>
 mG t 0 λv12=>
 mG t 5 λv13=>
 iD E 36 (some v12) (some v13) λv14=>
 lD E 35 (some v14) λv15=>
 M.bind (M.on (some v11) λf=>M.on (seqO [(some v15)]) λl=>Ba u r f l) λv16=>
 ac 16 v16 t
theorem Ws_:RegEq 144 19 Eg Vo V3:={}
theorem Auc_: ∃k,DP_= .code .ret::k:=⟨DP_.tail,X⟩
theorem Bb_:Aj PB=some 16:=X
def EY_:Rg:=λE u r t=>
 mG t 5 λv17=>
 sV 4 v17 t
theorem AjV_:RegEq 144 19 Eg Jm_ EY_:={}
def SM_:Rg:=λE u r t=>
 bN E .add 8 1 (T.get t 8) λv18=>
 sV 8 v18 t
theorem Avl_:RegEq 144 19 Eg Vp SM_:={}
theorem Ali_: ∃k,SZ= .code .ret::k:=⟨SZ.tail,X⟩
def CY:Nat:=Ao Try.f95
abbrev ES_:Nat:=35
def IT_:Code:=Try.f95.body.getD .skip
theorem QU:envS.fn.get 95=some Try.f95:=X
theorem Ack_:G1 envS 95 35 CY IT_:=λh=>
 aK QU (h _ X)
theorem Rq_:Try.f95.results.toList=[.tmp 2]:=X
def VU_:List Item:=skim 64 [.code IT_]
def Qd_:=nx VU_
def JC_:=nx Qd_
def IU:=nx JC_
def Mq:=nx IU
def MK_:=bt Mq
def Us_:=bf Mq
def Rc:=nx MK_
def Up_:=nx Us_
def LR:=nx Rc
def RD_:=bt LR
def OD:=bf LR
def OO_:=nx RD_
def EB_:=nx OD
theorem AjK_:skim 64 EB_.tail=IU:=X
def Tz:Rg:=λE u r t=>
 M.bind (oS (T.get t 0) λa=>kBox a) λv1=>
 setF 1 v1 t λt1=>
 sV 2 (.bool false) t1
theorem Aie_:RegEq 95 35 CY VU_ Tz:={}
def Lq_:Rg:=λE u r t=>
 sV 3 (.int .i64 0) t
theorem AiU_:RegEq 95 35 CY Qd_ Lq_:={}
def VS_:Rg:=λE u r t=>
 fD E 85 2 (T.get t 1) λv6=>
 lD E 36 (some v6) λv7=>
 setF 7 v7 t λt1=>
 lL E 36 v7 λv8=>
 setF 8 v8 t1 λt2=>
 sV 9 (.int .i64 0) t2
theorem AiR_:RegEq 95 35 CY JC_ VS_:={}
def Mr:Rg:=λE u r t=>
 bI E .lss 3 (.tmp 9) (.tmp 8) (T.get t 9) (T.get t 8) λv10=>
 ac 10 v10 t
theorem ZH:RegEq 95 35 CY IU Mr:={}
theorem VJ:Aj Mq=some 10:=X
def RE_:Rg:=λE u r t=>
 iD E 36 (T.get t 7) (T.get t 9) λv11=>
 lD E 35 (some v11) λv12=>
 M.bind (A6 E 35) λv5=>
 setF 5 v5 t λt1=>
 sT E 35 (some v5) (some v12) λ_=>
 M.pure t1
theorem AiB_:RegEq 95 35 CY MK_ RE_:={}
def FK_:Rg:=λE u r t=>
 sV 2 (.bool true) t
theorem Atg_:RegEq 95 35 CY Us_ FK_:={}
def Sp_:RdW:=λE call round tm=>
 FD E 35 1 (T.get tm 5) λp0=>
 LD E 3 (some p0.1) λp1=>
 PD (T.get tm 3) λp2=>
 BI E .lss 3 (.tmp 14) (.tmp 15) (some p1.1) (some p2.1) λp3=>
 PD (some p3.1) λp4=>
 SK p4.1 false (oS (T.get tm 5) λa=>kFld E 35 a 1) λp5=>
 SK p4.1 false (oS (some p5.1) λa=>AE E 3 a) λp6=>
 SK p4.1 false (oS (T.get tm 1) λa=>kFld E 85 a 1) λp7=>
 SK p4.1 false (oS (some p7.1) λa=>AE E 3 a) λp8=>
 SK p4.1 false (oS (T.get tm 5) λa=>kFld E 35 a 2) λp9=>
 SK p4.1 false (oS (some p9.1) λa=>AE E 3 a) λp10=>
 SK p4.1 false (M.on (some (.func (.func 20) #[] #[])) λf=>M.on (seqO [(some p10.1)]) λl=>Ba call round f l) λp11=>
 SK p4.1 false (oS (some p8.1) λa=>oS (some p11.1) λb=>Cl.get (aBin E .sub 3 (.tmp 21) (.tmp 24)) a b) λp12=>
 SK p4.1 false (oS (some p6.1) λa=>oS (some p12.1) λb=>Cl.get (aBin E .gtr 3 (.tmp 19) (.tmp 25)) a b) λp13=>
 fJ [p13,p12,p11,p10,p9,p8,p7,p6,p5,p4,p3,p2,p1,p0] tm
theorem Xh_:DrawEq 95 35 CY Rc [0,1,0,7,15,31,63,31,159,31,543,1567,3999,8191,16383] Sp_:={}
theorem FJ_ (E:Env)(call round:Ai)(x13 x14 x15 x16 x17 x18 x19 x20 x21 x22 x23 x24 x25 x26:Value)(tm:T Value)(s:St):AK call round (A5 E CY 35 (hdC Rc)) [x26,x25,x24,x23,x22,x21,x20,x19,x18,x17,x16,x15,x14,x13] tm s=(M.bind (M.on (some x17) λa=>M.on (some (.bool true)) λb=>M.on (some x26) λc=>Ay a b c) λv27=>setT 27 v27 tm λtm1=>M.pure tm1) s:=X
theorem AkK_: ∃k,Up_= .code .ret::k:=⟨Up_.tail,X⟩
theorem Fh_:Aj LR=some 27:=X
def Iv_:Rg:=λE u r t=>
 sV 2 (.bool false) t
theorem Yh_:RegEq 95 35 CY RD_ Iv_:={}
def XU:RdW:=λE call round tm=>
 FD E 35 1 (T.get tm 5) λp0=>
 LD E 3 (some p0.1) λp1=>
 FD E 35 2 (T.get tm 5) λp2=>
 LD E 3 (some p2.1) λp3=>
 CN call round 20 [(some p3.1)] λp4=>
 BI E .add 3 (.tmp 29) (.tmp 32) (some p1.1) (some p4.1) λp5=>
 fJ [p5,p4,p3,p2,p1,p0] tm
theorem Aub_:DrawEq 95 35 CY OD [0,1,0,4,12,31,63] XU:={}
theorem Alf_ (E:Env)(call round:Ai)(x28 x29 x30 x31 x32 x33:Value)(tm:T Value)(s:St):AK call round (A5 E CY 35 (hdC OD)) [x33,x32,x31,x30,x29,x28] tm s=(M.bind (oS (some x33) λa=>M.pure a) λv3=>setT 3 v3 tm λtm1=>M.pure tm1) s:=X
theorem AbU_: ∃k,OO_= .code .ret::k:=⟨OO_.tail,X⟩
def MY_:Rg:=λE u r t=>
 bN E .add 9 1 (T.get t 9) λv34=>
 sV 9 v34 t
theorem AeL_:RegEq 95 35 CY EB_ MY_:={}
