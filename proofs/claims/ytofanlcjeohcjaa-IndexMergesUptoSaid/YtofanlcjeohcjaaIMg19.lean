import Derived.Test.YtofanlcjeohcjaaIMg18
noncomputable section
namespace Go.Proofs.Ytofanlcjeohcjaa.Am
open Go.RowKit
def Dx:Nat:=Ar Try.f16
abbrev So:Nat:=31
def Sv:Code:=Try.f16.body.getD .skip
theorem Vf:envS.fn.get 16=some Try.f16:=by kernel_rfl
theorem QB_:G1 envS 16 31 Dx Sv:=λh=>
 aM Vf (h _ (by kernel_rfl))
theorem NI_:Try.f16.results.toList=[.tmp 2]:=by kernel_rfl
def BG_:List Item:=skim 64 [.code Sv]
def Ud:=nx BG_
def EV_:=nx Ud
def Ji_:=nx EV_
def KY:=nx Ji_
def Nk:=nx KY
def Mo_:=bt Nk
def Qs:=bf Nk
def Xp:=nx Mo_
def EK_:=nx Qs
theorem Wd_:skim 64 Xp.tail=KY:=by kernel_rfl
def Ya:Rg:=λE call round tm=>
 mv (some (.slice none 0 0)) λv2=>
 setF 2 v2 tm λtm1=>
 M.pure tm1
theorem Vg_:RegEq 16 31 Dx BG_ Ya:={}
def VK:Rg:=λE call round tm=>
 mv (T.get tm 0) λv5=>
 lN E .len [22] [(some v5)] λv6=>
 bI E .add 3 (.tmp 6) (.const (.int .i64 3)) (some v6) (some (.int .i64 3)) λv7=>
 M.bind (oS (some v7) λa=>oS (some v7) λb=>Ee E 22 a b) λv8=>
 mv (some v8) λv3=>
 setF 3 v3 tm λtm1=>
 M.pure tm1
theorem Agg_:RegEq 16 31 Dx Ud VK:={}
def V8:Rg:=λE call round tm=>
 mv (T.get tm 3) λv9=>
 mv (T.get tm 0) λv10=>
 lN E .copy [22,22] [(some v9),(some v10)] λv11=>
 M.pure tm
theorem Uq_:RegEq 16 31 Dx EV_ V8:={}
def HB_:Rg:=λE call round tm=>
 mv (T.get tm 0) λv12=>
 lN E .len [22] [(some v12)] λv13=>
 mv (some v13) λv4=>
 setF 4 v4 tm λtm1=>
 M.pure tm1
theorem Abg_:RegEq 16 31 Dx Ji_ HB_:={}
def Pe:Rg:=λE call round tm=>
 mv (T.get tm 4) λv14=>
 mv (T.get tm 3) λv15=>
 lN E .len [22] [(some v15)] λv16=>
 bI E .lss 3 (.tmp 14) (.tmp 16) (some v14) (some v16) λv17=>
 setF 17 v17 tm λtm1=>
 M.pure tm1
theorem Vn:RegEq 16 31 Dx KY Pe:={}
theorem S2:Ah Nk=some 17:=by kernel_rfl
def KW_:Rg:=λE call round tm=>
 mv (T.get tm 3) λv20=>
 mv (T.get tm 4) λv21=>
 mv (T.get tm 4) λv22=>
 bI E .rem 3 (.tmp 22) (.const (.int .i64 90)) (some v22) (some (.int .i64 90)) λv23=>
 bI E .add 3 (.const (.int .i64 160)) (.tmp 23) (some (.int .i64 160)) (some v23) λv24=>
 vB E 3 5 (some v24) λv25=>
 iD E 22 (some v20) (some v21) λv26=>
 M.bind (oS (some v26) λa=>oS (some v25) λb=>Ao E 5 a b) λ_=>
 M.pure tm
theorem AlO_:RegEq 16 31 Dx Mo_ KW_:={}
def Lx_:Rg:=λE call round tm=>
 mv (T.get tm 3) λv27=>
 mv (T.get tm 0) λv28=>
 lN E .len [22] [(some v28)] λv29=>
 M.bind (M.on (some v27) λa=>M.on (some none) λb=>M.on (onO (some v29) λv=>some (some v)) λc=>AW E 22 a b c) λv30=>
 mv (some v30) λv2=>
 setF 2 v2 tm λtm1=>
 M.pure tm1
theorem Agb_:RegEq 16 31 Dx Qs Lx_:={}
def DZ_:Rg:=λE call round tm=>
 mv (T.get tm 4) λv18=>
 bI E .add 3 (.tmp 18) (.const (.int .i64 1)) (some v18) (some (.int .i64 1)) λv19=>
 mv (some v19) λv4=>
 setF 4 v4 tm λtm1=>
 M.pure tm1
theorem AcF_:RegEq 16 31 Dx Xp DZ_:={}
theorem AeH_: ∃k,EK_= .code .ret::k:=⟨EK_.tail,by kernel_rfl⟩
def Pz:Nat:=Ar Try.f19
def Te:Code:=Try.f19.body.getD .skip
theorem UM:envS.fn.get 19=some Try.f19:=by kernel_rfl
theorem RO_:G2 envS 19 10 Pz Te:=λh=>
 aM UM (h _ (by kernel_rfl) (by kernel_rfl))
theorem Xx_:Try.f19.results.toList=[.tmp 4]:=by kernel_rfl
def Hr_:List Item:=skim 64 [.code Te]
def SV:=nx Hr_
def Xe:=nx SV
def Ik_:Rg:=λE call round tm=>
 mv (some (.bool false)) λv4=>
 setF 4 v4 tm λtm1=>
 M.pure tm1
theorem AbY_:RegEq 19 10 Pz Hr_ Ik_:={}
def EI_:Rg:=λE call round tm=>
 mv (T.get tm 0) λv5=>
 vB E 22 9 (some v5) λv6=>
 mv (T.get tm 1) λv7=>
 vB E 22 9 (some v7) λv8=>
 bI E .eql 9 (.tmp 6) (.tmp 8) (some v6) (some v8) λv9=>
 mv (some v9) λv4=>
 setF 4 v4 tm λtm1=>
 M.pure tm1
theorem Acy_:RegEq 19 10 Pz SV EI_:={}
theorem AhE_: ∃k,Xe= .code .ret::k:=⟨Xe.tail,by kernel_rfl⟩
def Ju:Nat:=Ar Try.f23
def Sy:Code:=Try.f23.body.getD .skip
theorem CI_:envS.fn.get 23=some Try.f23:=by kernel_rfl
theorem XK_:G2 envS 23 23 Ju Sy:=λh=>
 aM CI_ (h _ (by kernel_rfl) (by kernel_rfl))
theorem OM_:Try.f23.results.toList=[.tmp 4]:=by kernel_rfl
def S8:List Item:=skim 64 [.code Sy]
def OH:=nx S8
def Ff_:=nx OH
def Xq:Rg:=λE call round tm=>
 mv (some (.bool false)) λv4=>
 setF 4 v4 tm λtm1=>
 M.pure tm1
theorem Wm_:RegEq 23 23 Ju S8 Xq:={}
def Na_:Rd:=λE call round tm=>
 PD (T.get tm 0) λp0=>
 LN E .len [22] [(some p0.1)] λp1=>
 PD (T.get tm 1) λp2=>
 LN E .len [22] [(some p2.1)] λp3=>
 BI E .eql 3 (.tmp 6) (.tmp 8) (some p1.1) (some p3.1) λp4=>
 PD (some p4.1) λp5=>
 SK p5.1 true (oS (T.get tm 0) λa=>M.pure a) λp6=>
 SK p5.1 true (oS (T.get tm 0) λa=>M.pure a) λp7=>
 SK p5.1 true (oS (seqO [(some p7.1)]) λl=>AS E .cap [22] l) λp8=>
 SK p5.1 true (M.on (some p6.1) λa=>M.on (some none) λb=>M.on (onO (some p8.1) λv=>some (some v)) λc=>AW E 22 a b c) λp9=>
 SK p5.1 true (oS (T.get tm 1) λa=>M.pure a) λp10=>
 SK p5.1 true (M.on (some (.func (.func 16) #[] #[])) λf=>M.on (seqO [(some p10.1)]) λl=>Bk call round f l) λp11=>
 SK p5.1 true (oS (T.get tm 1) λa=>M.pure a) λp12=>
 SK p5.1 true (oS (seqO [(some p12.1)]) λl=>AS E .len [22] l) λp13=>
 SK p5.1 true (oS (some p13.1) λa=>oS (some (.int .i64 3)) λb=>Cl.get (aBin E .add 3 (.tmp 18) (.const (.int .i64 3))) a b) λp14=>
 SK p5.1 true (M.on (some p11.1) λa=>M.on (some none) λb=>M.on (onO (some p14.1) λv=>some (some v)) λc=>AW E 22 a b c) λp15=>
 SK p5.1 true (M.on (some (.func (.func 19) #[] #[])) λf=>M.on (seqO [(some p9.1),(some p15.1)]) λl=>Bk call round f l) λp16=>
 M.bind (apartO (M.on (some p5.1) λa=>M.on (some p16.1) λb=>M.on (some (.bool false)) λc=>A3 a b c)) λp17=>
 fJ [p17,p16,p15,p14,p13,p12,p11,p10,p9,p8,p7,p6,p5,p4,p3,p2,p1,p0] tm
theorem Aew_:DrawEq 23 23 Ju OH [0,1,0,4,15,31,63,63,191,511,63,1087,63,4159,12351,31807,65535,131071,262143] Na_:={}
theorem Agq_ (E:Env)(call round:Ac)(x5 x6 x7 x8 x9 x10 x11 x12 x13 x14 x15 x16 x17 x18 x19 x20 x21 x22:Value)(tm:T Value)(s:St):AH call round (A7 E Ju 23 (hdC OH)) [x22,x21,x20,x19,x18,x17,x16,x15,x14,x13,x12,x11,x10,x9,x8,x7,x6,x5] tm s=(M.bind (oS (some x22) λa=>M.pure a) λv4=>setT 4 v4 tm λtm1=>M.pure tm1) s:=by kernel_rfl
theorem Si_: ∃k,Ff_= .code .ret::k:=⟨Ff_.tail,by kernel_rfl⟩
def DO:Nat:=Ar Try.f26
abbrev SD_:Nat:=26
def DS_:Code:=Try.f26.body.getD .skip
theorem W4:envS.fn.get 26=some Try.f26:=by kernel_rfl
theorem AiV_:G2 envS 26 26 DO DS_:=λh=>
 aM W4 (h _ (by kernel_rfl) (by kernel_rfl))
theorem Aee_:Try.f26.results.toList=[.tmp 4]:=by kernel_rfl
def Ii_:List Item:=skim 64 [.code DS_]
def IF_:=nx Ii_
def Nr_:=nx IF_
def Fd_:=bf Nr_
def Jc:=nx Fd_
def NM:=nx Jc
def M2:=bt NM
def Gq_:=bf NM
def ZS:=nx M2
def HJ_:=nx Gq_
def HW_:=bf ZS
theorem AfP_:skim 64 HW_.tail=Jc:=by kernel_rfl
def Zx:Rg:=λE call round tm=>
 mv (some (.bool false)) λv4=>
 setF 4 v4 tm λtm1=>
 M.pure tm1
theorem AjM_:RegEq 26 26 DO Ii_ Zx:={}
def AJ_:Rg:=λE call round tm=>
 mv (T.get tm 0) λv6=>
 lN E .len [36] [(some v6)] λv7=>
 mv (T.get tm 1) λv8=>
 lN E .len [36] [(some v8)] λv9=>
 bI E .neq 3 (.tmp 7) (.tmp 9) (some v7) (some v9) λv10=>
 setF 10 v10 tm λtm1=>
 M.pure tm1
theorem RJ_:RegEq 26 26 DO IF_ AJ_:={}
theorem Agc_:Ah Nr_=some 10:=by kernel_rfl
def YJ:Rg:=λE call round tm=>
 mv (some (.int .i64 0)) λv5=>
 setF 5 v5 tm λtm1=>
 M.pure tm1
theorem AjH_:RegEq 26 26 DO Fd_ YJ:={}
def Ry:Rg:=λE call round tm=>
 mv (T.get tm 5) λv11=>
 mv (T.get tm 0) λv12=>
 lN E .len [36] [(some v12)] λv13=>
 bI E .lss 3 (.tmp 11) (.tmp 13) (some v11) (some v13) λv14=>
 setF 14 v14 tm λtm1=>
 M.pure tm1
theorem Sw:RegEq 26 26 DO Jc Ry:={}
theorem Ma_:Ah NM=some 14:=by kernel_rfl
def GB_:Rd:=λE call round tm=>
 PD (T.get tm 0) λp0=>
 PD (T.get tm 5) λp1=>
 ID E 36 (some p0.1) (some p1.1) λp2=>
 LD E 35 (some p2.1) λp3=>
 PD (T.get tm 1) λp4=>
 PD (T.get tm 5) λp5=>
 ID E 36 (some p4.1) (some p5.1) λp6=>
 LD E 35 (some p6.1) λp7=>
 fJ [p7,p6,p5,p4,p3,p2,p1,p0] tm
theorem AdV_:DrawEq 26 26 DO M2 [0,0,3,7,0,0,48,112,255] GB_:={}
theorem AdX_ (E:Env)(call round:Ac)(x17 x18 x19 x20 x21 x22 x23 x24:Value)(tm:T Value)(s:St):AH call round (A7 E DO 26 (hdC M2)) [x24,x23,x22,x21,x20,x19,x18,x17] tm s=(M.bind (oS (some x20) λa=>oS (some x24) λb=>Cl.get (aBin E .neq 35 (.tmp 20) (.tmp 24)) a b) λv25=>setT 25 v25 tm λtm1=>M.pure tm1) s:=by kernel_rfl
def XP:Rg:=λE call round tm=>
 mv (some (.bool true)) λv4=>
 setF 4 v4 tm λtm1=>
 M.pure tm1
theorem Adf_:RegEq 26 26 DO Gq_ XP:={}
theorem AiU_:Ah ZS=some 25:=by kernel_rfl
theorem YE_: ∃k,HJ_= .code .ret::k:=⟨HJ_.tail,by kernel_rfl⟩
def Cb_:Rg:=λE call round tm=>
 mv (T.get tm 5) λv15=>
 bI E .add 3 (.tmp 15) (.const (.int .i64 1)) (some v15) (some (.int .i64 1)) λv16=>
 mv (some v16) λv5=>
 setF 5 v5 tm λtm1=>
 M.pure tm1
theorem AeX_:RegEq 26 26 DO HW_ Cb_:={}
theorem Dg:slN envS 36=some 18:=by kernel_rfl
def HsR (s:St)(v:Value)(hs:List Hd):Prop:=(v= .slice none 0 0/\hs=[])\/ ∃b o c,v= .slice (some ⟨b,o,none⟩) hs.length c/\Row s b o (AV hs)
def HsF (v:Value)(x:Nat):Prop:=match v with| .slice (some a) n _=>In a.block a.off (n*18) x|_=>False
theorem HsR.same {s s':St}{v:Value}{hs:List Hd}(h:HsR s v hs)(hm:s'.mem=s.mem)(hn:s'.next=s.next):HsR s' v hs:=by
 rcases h with h|⟨b,o,c,h0,h3⟩
 ·exact .inl h
 ·exact .inr ⟨b,o,c,h0,λi v e=>(h3 i v e).same hm hn⟩
theorem HsR.len {s s':St}{v:Value}{hs:List Hd}(h:HsR s v hs)(Q:Value->St->Prop):W (AS envS .len [36] [v]) s' Q=Q (.int .i64 (hs.length:Nat)) s':=by
 rcases h with⟨rfl,rfl⟩|⟨b,o,c,rfl,_⟩
 ·exact AP Dg Q
 ·exact AP Dg Q
theorem CE_ (l:List Hd)(m:List Hd):AV (l++m)=AV l++AV m:=by
 induction l with
 |nil=>rfl
 |cons h l ih=>show A2 h++AV (l++m)=(A2 h++AV l)++AV m;rw[ih,List.append_assoc]
theorem BK_ {hs:List Hd}(h16: ∀h∈hs,h.1.length=16){i:Nat}(hi:i<hs.length){j:Nat}(hj:j<18):(AV hs)[i*18+j]?=(A2 hs[i])[j]?:=by
 have e:hs=hs.take i++hs[i]::hs.drop (i+1):=by rw[List.getElem_cons_drop,List.take_append_drop]
 have hl:(AV (hs.take i)).length=i*18:=by
  rw[Re λh hh=>h16 h (List.mem_of_mem_take hh),List.length_take]
  congr 1;omega
 have h18:(A2 hs[i]).length=18:=E8 (h16 _ (List.getElem_mem hi))
 conv=>lhs;rw[e,CE_]
 rw[List.getElem?_append_right (by omega),hl,show i*18+j-i*18=j by omega]
 show(A2 hs[i]++AV (hs.drop (i+1)))[j]?=_
 rw[List.getElem?_append_left (by omega)]
theorem HsR.at {s:St}{v:Value}{hs:List Hd}(h:HsR s v hs)(h16: ∀h∈hs,h.1.length=16){i:Nat}(hi:i<hs.length): ∃b o c,v= .slice (some ⟨b,o,none⟩) hs.length c/\Row s b (o+i*18) (A2 hs[i])/\(∀x,In b (o+i*18) 18 x->HsF v x):=by
 rcases h with⟨rfl,rfl⟩|⟨b,o,c,rfl,h3⟩
 ·simp at hi
 ·refine⟨b,o,c,rfl,λj u e=> ?_,λx hx=>⟨by have:=hx.1;show b+o<=x;omega,by
   have h2:x<b+(o+i*18)+18:=hx.2
   show x<b+o+hs.length*18
   have:(i+1)*18<=hs.length*18:=Nat.mul_le_mul_right 18 hi
   omega⟩⟩
  have hj:j<18:=by
   have:=(List.getElem?_eq_some_iff.1 e).1
   rwa [E8 (h16 _ (List.getElem_mem hi))]at this
  have:=h3 (i*18+j) u (by rw[BK_ h16 hi hj];exact e)
  rwa [show o+(i*18+j)=o+i*18+j by omega]at this
theorem Bs.len' {E:Env}{s s':St}{t sz:Nat}{v:Value}{l:List Nat}(h:Bs s v l)(ht:slN E t=some sz)(Q:Value->St->Prop):W (AS E .len [t] [v]) s' Q=Q (.int .i64 (l.length:Nat)) s':=by
 obtain⟨p,c,rfl⟩:=h.sl
 exact AP ht Q
theorem NS_ {s:St}{call round:Ac}{f:Nat}{a:Value}{l:List Value}(Q:Value->St->Prop):W (Bk call round (.func (.func f) #[] #[a]) l) s Q=W (call f (l++[a])) s Q:=by
 show W (call f ([]++(l++[a]))) s Q=_
 rw[List.nil_append]
abbrev HdI:Type:=List Nat×Int×Int
def AM (h:HdI):List Value:=u8l h.1++[.int .i64 h.2.1, .int .i64 h.2.2]
theorem Iv {h:HdI}(h16:h.1.length=16):(AM h).length=18:=by
 unfold AM
 rw[List.length_append,Av,h16]
 rfl
theorem AgZ_ (h:HdI):(AM h).all oneCell=true:=by
 unfold AM
 rw[List.all_append,Bx]
 rfl
def Bw:List HdI->List Value
 |[]=>[]
 |h::l=>AM h++Bw l
theorem D8: ∀{l:List HdI},(∀h∈l,h.1.length=16)->(Bw l).length=l.length*18
 |[],_=>rfl
 |h::l,hl=>by
  unfold Bw
  rw[List.length_append,Iv (hl h (by simp)),D8 λx hx=>hl x (by simp[hx]),List.length_cons]
  omega
theorem IX: ∀l:List HdI,(Bw l).all oneCell=true
 |[]=>rfl
 |h::l=>by
  show(AM h++Bw l).all oneCell=true
  rw[List.all_append,AgZ_,IX l]
  rfl
theorem RB_ {h:HdI}(h16:h.1.length=16):(AM h)[16]?=some (.int .i64 h.2.1)/\(AM h)[17]?=some (.int .i64 h.2.2):=by
 unfold AM
 have:(u8l h.1).length=16:=by rw[Av];exact h16
 constructor
 ·rw[List.getElem?_append_right (by omega),this];rfl
 ·rw[List.getElem?_append_right (by omega),this];rfl
def toI (h:Hd):HdI:=(h.1,(h.2.1:Int),(h.2.2:Int))
theorem Bv_: ∀l:List Hd,Bw (l.map toI)=AV l
 |[]=>rfl
 |h::l=>by show AM (toI h)++Bw (l.map toI)=A2 h++AV l;rw[Bv_ l];rfl
section
variable {P:Program}{E:Env}{s:St}{t:Nat}
theorem Qj_ {h:HdI}(h16:h.1.length=16):(AM h).toArray.extract 0 (0+16)=(u8l h.1).toArray:=by
 apply Array.ext'
 rw[Array.toList_extract]
 simp only[List.extract,Nat.zero_add,List.drop_zero,Nat.sub_zero]
 unfold AM
 rw[List.take_left' (by rw[Av];exact h16)]
theorem Aeh_ {h:HdI}(h16:h.1.length=16):(AM h).toArray[16]?=some (.int .i64 h.2.1)/\(AM h).toArray[17]?=some (.int .i64 h.2.2):=by
 rw[List.getElem?_toArray,List.getElem?_toArray]
 exact RB_ h16
theorem YA_ (d:Nat){h:HdI}(h16:h.1.length=16)(hT:Fq P t=true):semP P (Op.equalIn (d+3) t (.agg (AM h).toArray) (.agg (AM h).toArray))=some true:=by
 unfold Fq at hT
 split at hT
 ·rename_i fs hu
  split at hT
  ·rename_i f0 f1 f2 hfs
   simp only[Bool.and_eq_true,bne_iff_ne,ne_eq,Bool.not_eq_true']at hT
   obtain⟨⟨⟨⟨⟨⟨⟨⟨n0,n1⟩,n2⟩,o0⟩,o1⟩,o2⟩,st⟩,_⟩,rest⟩:=hT
   split at rest
   ·rename_i e i0 u0 i0' u1 u2
    rw[Bool.and_eq_true]at rest
    obtain⟨z0,rest⟩:=rest
    split at rest
    ·rename_i ie ue hie
     have o0:=Nat.eq_of_beq_eq_true o0
     have o1:=Nat.eq_of_beq_eq_true o1
     have o2:=Nat.eq_of_beq_eq_true o2
     have z0:=Nat.eq_of_beq_eq_true z0
     have z1:=Nat.eq_of_beq_eq_true rest
     obtain⟨hc1,hc2⟩:=Aeh_ h16
     have hp:semP P program=some P:=rfl
     rw[show d+3=(d+2)+1 from rfl]
     unfold Op.equalIn
     simp only[BS,G7 hu,Option.bind_some,hp,st,Bool.false_eq_true,if_false]
     rw[<-Array.forIn_toList,hfs]
     simp only[List.forIn_cons,List.forIn_nil,n0,n1,n2,not_false_eq_true,if_true,BS,o0,o1,o2,ne_eq]
     rw[Pp_ u0 i0' z0,Qj_ h16]
     simp only[Option.bind_some]
     rw[show d+2=d+2 from rfl,Zh d h.1 h.1 u0 hie z1 ue h16 h16]
     simp only[Option.bind_some,decide_true,Bool.not_true,Bool.false_eq_true,if_false,Dz,BS]
     rw[J7 u1 hc1]
     simp only[Option.bind_some]
     rw[show d+2=(d+1)+1 from rfl,Yb u1]
     simp only[Option.bind_some,Bool.not_true,Bool.false_eq_true,if_false,Dz,BS]
     rw[J7 u2 hc2]
     simp only[Option.bind_some]
     rw[Yb u2]
     simp only[Option.bind_some,Bool.not_true,Bool.false_eq_true,if_false,Dz]
    ·cases rest
   ·cases rest
  ·cases hT
 ·cases hT
theorem Akl_ (h:HdI):plain (.agg (AM h).toArray)=true:=by
 show(AM h).toArray.toList.all (AZ 3)=true
 rw[List.all_eq_true]
 intro v hv
 have hv':v∈AM h:=hv
 unfold AM at hv'
 rcases List.mem_append.1 hv' with hv|hv
 ·obtain⟨n,_,rfl⟩:=List.mem_map.1 hv
  rfl
 ·simp only[List.mem_cons,List.not_mem_nil,or_false]at hv
  rcases hv with rfl|rfl<;>rfl
theorem QZ_ {h:HdI}{xo yo:Operand}(h16:h.1.length=16)(hT:Fq E.P t=true):Cl.get (aBin E .neq t xo yo) (.agg (AM h).toArray) (.agg (AM h).toArray) s= .some (.bool false) s:=by
 show AD E .neq t xo yo (.agg (AM h).toArray) (.agg (AM h).toArray) s=_
 unfold AD
 rw[Akl_]
 show M.on (semP E.P (do eqGuard .neq t xo yo (.agg (AM h).toArray) (.agg (AM h).toArray);binOp .neq t (.agg (AM h).toArray) (.agg (AM h).toArray))) pV s=_
 rw[BS,AfZ_ (Tt_ hT)]
 show M.on (semP E.P (do pure (.bool (!(<-Op.equalIn (9997+3) t (.agg (AM h).toArray) (.agg (AM h).toArray)))))) pV s=_
 rw[BS,YA_ 9997 h16 hT]
 rfl
theorem Vr_ {h:HdI}{xo yo:Operand}(h16:h.1.length=16)(hT:Fq E.P t=true)(Q:Value->St->Prop):W (Cl.get (aBin E .neq t xo yo) (.agg (AM h).toArray) (.agg (AM h).toArray)) s Q=Q (.bool false) s:=AC (QZ_ h16 hT)
end
def HiR (s:St)(v:Value)(hs:List HdI):Prop:=(v= .slice none 0 0/\hs=[])\/ ∃b o c,v= .slice (some ⟨b,o,none⟩) hs.length c/\Row s b o (Bw hs)
def HiF (v:Value)(x:Nat):Prop:=match v with| .slice (some a) n _=>In a.block a.off (n*18) x|_=>False
theorem HiR.same {s s':St}{v:Value}{hs:List HdI}(h:HiR s v hs)(hm:s'.mem=s.mem)(hn:s'.next=s.next):HiR s' v hs:=by
 rcases h with h|⟨b,o,c,h0,h3⟩
 ·exact .inl h
 ·exact .inr ⟨b,o,c,h0,λi v e=>(h3 i v e).same hm hn⟩
theorem HiR.len {s s':St}{v:Value}{hs:List HdI}(h:HiR s v hs)(Q:Value->St->Prop):W (AS envS .len [36] [v]) s' Q=Q (.int .i64 (hs.length:Nat)) s':=by
 rcases h with⟨rfl,rfl⟩|⟨b,o,c,rfl,_⟩
 ·exact AP Dg Q
 ·exact AP Dg Q
theorem AdZ_ (l:List HdI)(m:List HdI):Bw (l++m)=Bw l++Bw m:=by
 induction l with
 |nil=>rfl
 |cons h l ih=>show AM h++Bw (l++m)=(AM h++Bw l)++Bw m;rw[ih,List.append_assoc]
theorem AhJ_ {hs:List HdI}(h16: ∀h∈hs,h.1.length=16){i:Nat}(hi:i<hs.length){j:Nat}(hj:j<18):(Bw hs)[i*18+j]?=(AM hs[i])[j]?:=by
 have e:hs=hs.take i++hs[i]::hs.drop (i+1):=by rw[List.getElem_cons_drop,List.take_append_drop]
 have hl:(Bw (hs.take i)).length=i*18:=by
  rw[D8 λh hh=>h16 h (List.mem_of_mem_take hh),List.length_take]
  congr 1;omega
 have h18:(AM hs[i]).length=18:=Iv (h16 _ (List.getElem_mem hi))
 conv=>lhs;rw[e,AdZ_]
 rw[List.getElem?_append_right (by omega),hl,show i*18+j-i*18=j by omega]
 show(AM hs[i]++Bw (hs.drop (i+1)))[j]?=_
 rw[List.getElem?_append_left (by omega)]
theorem HiR.at {s:St}{v:Value}{hs:List HdI}(h:HiR s v hs)(h16: ∀h∈hs,h.1.length=16){i:Nat}(hi:i<hs.length): ∃b o c,v= .slice (some ⟨b,o,none⟩) hs.length c/\Row s b (o+i*18) (AM hs[i])/\(∀x,In b (o+i*18) 18 x->HiF v x):=by
 rcases h with⟨rfl,rfl⟩|⟨b,o,c,rfl,h3⟩
 ·simp at hi
 ·refine⟨b,o,c,rfl,λj u e=> ?_,λx hx=>⟨by have:=hx.1;show b+o<=x;omega,by
   have h2:x<b+(o+i*18)+18:=hx.2
   show x<b+o+hs.length*18
   have:(i+1)*18<=hs.length*18:=Nat.mul_le_mul_right 18 hi
   omega⟩⟩
  have hj:j<18:=by
   have:=(List.getElem?_eq_some_iff.1 e).1
   rwa [Iv (h16 _ (List.getElem_mem hi))]at this
  have:=h3 (i*18+j) u (by rw[AhJ_ h16 hi hj];exact e)
  rwa [show o+(i*18+j)=o+i*18+j by omega]at this
theorem NZ_ {va vb:Value}{hs:List HdI}{F:Nat->Prop}(hFa: ∀x,HiF va x->F x)(hFb: ∀x,HiF vb x->F x){Q:Value×FrameMode->St->Prop}{s0:St}(hb0:s0.lim<=s0.next)(ha:HiR s0 va hs)(hb:HiR s0 vb hs)(h16: ∀h∈hs,h.1.length=16)(hz:hs.length<=4611686018427387904)(hcx:s0.cx= .cx none (some []))(q: ∀s1,Ext F Non s0 s1->s1.mem=s0.mem->s1.next=s0.next->Q (.bool true, .run) s1):
  ∀(k i n:Nat) (tm:T Value) (s:St) (td:List Item),i+k=hs.length->7*k+20<=n->skim 64 td=Jc->Ext F Non s0 s->s.mem=s0.mem->s.next=s0.next->
  T.get tm 0=some va->T.get tm 1=some vb->T.get tm 5=some (.int .i64 (i:Nat))->
  W (runF envS n ⟨26,SD_,DO,tm,td, .run, .normal,none⟩) s Q:=by
 intro k
 induction k with
 |zero=>
  intro i n tm s td hi hn hT hx hm hnx h0 h1 h5
  refine Sw.u ?_ hT
  simp only[Ry,RR,SS,h0,h5]
  rw[ha.len]
  simp only[Ak]
  refine aH Ma_ ?_
  refine Adf_.u ?_
  simp only[XP,RR,SS]
  refine aF (rs:=[4]) (vs:=[.bool true]) rfl (.inl YE_) (by omega) W4 Aee_ (hx.cx.trans hcx) (by simp[T.get_set]) ?_
  exact q s hx hm hnx
 |succ k ih=>
  intro i n tm s td hi hn hT hx hm hnx h0 h1 h5
  have hil:i<hs.length:=by omega
  have hI:(AM hs[i]).length=18:=Iv (h16 _ (List.getElem_mem hil))
  obtain⟨ba,oa,ca,rfl,ga,fa⟩:=ha.at h16 hil
  obtain⟨bb,ob,cb,rfl,gb,fb⟩:=hb.at h16 hil
  refine Sw.u ?_ hT
  simp only[Ry,RR,SS,h0,h5]
  rw[AP Dg]
  simp only[Ak]
  refine aI Ma_ ?_
  refine AdV_.u ?_
  simp only[GB_,RR,T.get_set,Nat.reduceEqDiff, ↓reduceIte,h0,h1,h5,AJ,Ag]
  rw[W_dq λs Q=>AL (s:=s) Dg hil Q]
  refine aV Kd (λj u e=>(ga j u e).same hm hnx) hI λm1 rd1 e1 hr1=> ?_
  subst e1
  simp only[Ag]
  rw[W_dq λs Q=>AL (s:=s) Dg hil Q]
  refine aV Kd (λj u e=>(gb j u e).same hm hnx) hI λm2 rd2 e2 hr2=> ?_
  subst e2
  rw[AK]
  refine⟨CI (by simp) (by simp), ?_⟩
  refine aJ (AdX_ _ _ _ _ _ _ _ _ _ _ _ _ _) ?_
  simp only[SS]
  rw[Vr_ (h16 _ (List.getElem_mem hil)) AdM_]
  generalize hs':(⟨(dSt s.mem s.next).mem,(dSt s.mem s.next).next,s.lim,_,_,s.cx⟩:St)=s'
  have hx':Ext F Non s0 s':=by
   rw[<-hs']
   refine hx.trans (Ext.draw (F:=F) (Nat.le_refl _) (λ_ _=>rfl) (by simp) (by
    simp only[List.mem_cons,List.not_mem_nil,or_false]
    rintro m (rfl|rfl|rfl|rfl|rfl|rfl|rfl|rfl) x hx _<;>first|(exact hFa _ (fa _ (hr1 _ hx)))|(exact hFb _ (fb _ (hr2 _ hx)))|(cases hx))) hb0 (λ_ _ h=>h) λ_ _ h=>h
  have hm':s'.mem=s0.mem:=by rw[<-hs'];exact hm
  have hn':s'.next=s0.next:=by rw[<-hs'];exact hnx
  refine aH AiU_ ?_
  refine AeX_.u ?_
  have ei:=eiW (i:=i) (by omega)
  simp only[Cb_,RR,SS,Nat.reduceEqDiff, ↓reduceIte,Aw,h5,ei]
  exact ih (i+1) _ _ _ _ (by omega) (by omega) AfP_ hx' hm' hn' (by simp[T.get_set,h0]) (by simp[T.get_set,h1]) (by simp[T.get_set])
theorem WV_ {va vb:Value}{hs:List HdI}{n:Nat}{s:St}{Q:Value->St->Prop}(hbd:s.lim<=s.next)(ha:HiR s va hs)(hb:HiR s vb hs)(h16: ∀h∈hs,h.1.length=16)(hz:hs.length<=4611686018427387904)(hn:7*hs.length+40<=n)
  (q: ∀s1,Ext (λx=>HiF va x\/HiF vb x) Non s s1->s1.mem=s.mem->s1.next=s.next->Q (.bool true) s1):W (Ab envS (runF envS n) 26 [va,vb]) s Q:=by
 refine AiV_ λtm h0 h1=> ?_
 have ha':HiR (s.cxN cxN) va hs:=ha.same rfl rfl
 have hb':HiR (s.cxN cxN) vb hs:=hb.same rfl rfl
 refine AjM_.u ?_
 simp only[Zx,RR,SS]
 refine RJ_.u ?_
 simp only[AJ_,RR,SS,Nat.reduceEqDiff,reduceCtorEq, ↓reduceIte,h0,h1]
 rw[ha'.len,hb'.len]
 simp only[CQ]
 refine aH Agc_ ?_
 refine AjH_.u ?_
 simp only[YJ,RR,SS]
 exact NZ_ (s0:=s.cxN cxN) (F:=λx=>HiF va x\/HiF vb x) (λ_ h=> .inl h) (λ_ h=> .inr h) hbd ha' hb' h16 hz rfl (λs1 x1 m1 n1=>q _ x1.cx' m1 n1) hs.length 0 _ _ _ _ (by omega) (by omega) rfl (Ext.refl _) rfl rfl (by simp[T.get_set,h0]) (by simp[T.get_set,h1]) (by simp[T.get_set])
theorem HsR.toI {s:St}{v:Value}{hs:List Hd}(h:HsR s v hs):HiR s v (hs.map toI):=by
 rcases h with⟨rfl,rfl⟩|⟨b,o,c,rfl,h3⟩
 ·exact .inl ⟨rfl,rfl⟩
 ·exact .inr ⟨b,o,c,by rw[List.length_map],by rw[Bv_];exact h3⟩
theorem HiR.ext {F G:Nat->Prop}{s s':St}{v:Value}{hs:List HdI}(h:HiR s v hs)(h16: ∀h∈hs,h.1.length=16)(e:Ext F G s s')(hG: ∀x,HiF v x-> ¬G x):HiR s' v hs:=by
 rcases h with h|⟨b,o,c,h0,h3⟩
 ·exact .inl h
 ·refine .inr ⟨b,o,c,h0,h3.ext e λi hi=>hG _ ?_⟩
  rw[D8 h16]at hi
  rw[h0]
  exact⟨by show b+o<=b+(o+i);omega,by show b+(o+i)<b+o+hs.length*18;omega⟩
theorem HiR.ext0 {F:Nat->Prop}{s s':St}{v:Value}{hs:List HdI}(h:HiR s v hs)(e:Ext F Non s s'):HiR s' v hs:=by
 rcases h with h|⟨b,o,c,h0,h3⟩
 ·exact .inl h
 ·exact .inr ⟨b,o,c,h0,h3.ext0 e⟩
theorem HiR.lt {s:St}{v:Value}{hs:List HdI}(h:HiR s v hs)(h16: ∀h∈hs,h.1.length=16): ∀x,HiF v x->x<s.next:=by
 intro x hx
 rcases h with⟨rfl,_⟩|⟨b,o,c,rfl,h3⟩
 ·exact hx.elim
 ·have h1:b+o<=x:=hx.1
  have h2:x<b+o+hs.length*18:=hx.2
  have hl:x-(b+o)<(Bw hs).length:=by rw[D8 h16];omega
  have:=(h3 (x-(b+o)) _ (List.getElem?_eq_getElem hl)).1
  omega
theorem HiR.one {s:St}{v:Value}{hs:List HdI}(h:HiR s v hs):oneCell v=true:=by
 rcases h with⟨rfl,_⟩|⟨b,o,c,rfl,_⟩<;>rfl
theorem Bv:slN envS 55=some 3:=by kernel_rfl
theorem CZ:tyS envS 85=some (3,true):=by kernel_rfl
theorem Jb:CG envS 85=some [.int .i64 0, .int .i64 0, .slice none 0 0]:=by kernel_rfl
theorem Lq:fldN envS 85 0=some (0,1,false):=by kernel_rfl
theorem Hv:fldN envS 85 1=some (1,1,false):=by kernel_rfl
theorem DY:fldN envS 85 2=some (2,1,false):=by kernel_rfl
theorem JC_:elT envS 55=some (3,40,[.int .i64 0, .int .i64 0, .slice none 0 0]):=by kernel_rfl
theorem LI_:appT envS 55 55=some (3,40,false,[.int .i64 0, .int .i64 0, .slice none 0 0]):=by kernel_rfl
structure PkI where
 num:Int
 size:Int
 v:Value
 hs:List HdI
def pkC (p:PkI):List Value:=[.int .i64 p.num, .int .i64 p.size,p.v]
def pkCs:List PkI->List Value
 |[]=>[]
 |p::l=>pkC p++pkCs l
theorem Fl: ∀l:List PkI,(pkCs l).length=l.length*3
 |[]=>rfl
 |p::l=>by
  show(pkC p++pkCs l).length=_
  rw[List.length_append,Fl l,List.length_cons]
  show 3+_=_
  omega
theorem TB (l m:List PkI):pkCs (l++m)=pkCs l++pkCs m:=by
 induction l with
 |nil=>rfl
 |cons h l ih=>show pkC h++pkCs (l++m)=(pkC h++pkCs l)++pkCs m;rw[ih,List.append_assoc]
theorem Fx {ps:List PkI}{i:Nat}(hi:i<ps.length){j:Nat}(hj:j<3):(pkCs ps)[i*3+j]?=(pkC ps[i])[j]?:=by
 have e:ps=ps.take i++ps[i]::ps.drop (i+1):=by rw[List.getElem_cons_drop,List.take_append_drop]
 have hl:(pkCs (ps.take i)).length=i*3:=by
  rw[Fl,List.length_take]
  congr 1;omega
 conv=>lhs;rw[e,TB]
 rw[List.getElem?_append_right (by omega),hl,show i*3+j-i*3=j by omega]
 show(pkC ps[i]++pkCs (ps.drop (i+1)))[j]?=_
 rw[List.getElem?_append_left (show j<3 from hj)]
structure PkR (s:St)(v:Value)(ps:List PkI):Prop where
 row:(v= .slice none 0 0/\ps=[])\/ ∃b o c,v= .slice (some ⟨b,o,none⟩) ps.length c/\Row s b o (pkCs ps)
 hs: ∀p∈ps,HiR s p.v p.hs
 h16: ∀p∈ps,∀h∈p.hs,h.1.length=16
def PkF (v:Value)(ps:List PkI)(x:Nat):Prop:=(match v with| .slice (some a) n _=>In a.block a.off (n*3) x|_=>False)\/ ∃p∈ps,HiF p.v x
theorem PkR.same {s s':St}{v:Value}{ps:List PkI}(h:PkR s v ps)(hm:s'.mem=s.mem)(hn:s'.next=s.next):PkR s' v ps:=by
 refine⟨?_,λp hp=>(h.hs p hp).same hm hn,h.h16⟩
 rcases h.row with h|⟨b,o,c,h0,h3⟩
 ·exact .inl h
 ·exact .inr ⟨b,o,c,h0,λi v e=>(h3 i v e).same hm hn⟩
theorem PkR.ext {F G:Nat->Prop}{s s':St}{v:Value}{ps:List PkI}(h:PkR s v ps)(e:Ext F G s s')(hG: ∀x,PkF v ps x-> ¬G x):PkR s' v ps:=by
 refine⟨?_,λp hp=>(h.hs p hp).ext (h.h16 p hp) e λx hx=>hG x (.inr ⟨p,hp,hx⟩),h.h16⟩
 rcases h.row with h|⟨b,o,c,h0,h3⟩
 ·exact .inl h
 ·refine .inr ⟨b,o,c,h0,h3.ext e λi hi=>hG _ (.inl ?_)⟩
  rw[Fl]at hi
  rw[h0]
  exact⟨by show b+o<=_;omega,by show b+(o+i)<b+o+ps.length*3;omega⟩
theorem PkR.ext0 {F:Nat->Prop}{s s':St}{v:Value}{ps:List PkI}(h:PkR s v ps)(e:Ext F Non s s'):PkR s' v ps:=h.ext e λ_ _=>id
theorem PkR.len {s s':St}{v:Value}{ps:List PkI}(h:PkR s v ps)(Q:Value->St->Prop):W (AS envS .len [55] [v]) s' Q=Q (.int .i64 (ps.length:Nat)) s':=by
 rcases h.row with⟨rfl,rfl⟩|⟨b,o,c,rfl,_⟩
 ·exact AP Bv Q
 ·exact AP Bv Q
theorem PkR.one {s:St}{v:Value}{ps:List PkI}(h:PkR s v ps):oneCell v=true:=by
 rcases h.row with⟨rfl,_⟩|⟨b,o,c,rfl,_⟩<;>rfl
theorem PkR.at {s:St}{v:Value}{ps:List PkI}(h:PkR s v ps){i:Nat}(hi:i<ps.length): ∃b o c,v= .slice (some ⟨b,o,none⟩) ps.length c/\Row s b (o+i*3) (pkC ps[i])/\HiR s ps[i].v ps[i].hs/\(∀h∈ps[i].hs,h.1.length=16)/\(∀x,In b (o+i*3) 3 x->PkF v ps x)/\(∀x,HiF ps[i].v x->PkF v ps x):=by
 have hm:=List.getElem_mem hi
 rcases h.row with⟨rfl,rfl⟩|⟨b,o,c,rfl,h3⟩
 ·simp at hi
 ·refine⟨b,o,c,rfl,λj u e=> ?_,h.hs _ hm,h.h16 _ hm,λx hx=> .inl ⟨by have:=hx.1;show b+o<=x;omega,by
   have h2:x<b+(o+i*3)+3:=hx.2
   show x<b+o+ps.length*3
   have:(i+1)*3<=ps.length*3:=Nat.mul_le_mul_right 3 hi
   omega⟩,λx hx=> .inr ⟨_,hm,hx⟩⟩
  have hj:j<3:=(List.getElem?_eq_some_iff.1 e).1
  have:=h3 (i*3+j) u (by rw[Fx hi hj];exact e)
  rwa [show o+(i*3+j)=o+i*3+j by omega]at this
theorem Xd_ {s:St}{p:PkI}(h:HiR s p.v p.hs):(pkC p).all oneCell=true:=by
 have:=h.one
 unfold pkC
 simp[oneCell]at this ⊢
 exact this
