import Derived.Test.YtofanlcjeohcjaaIBz21
noncomputable section
namespace Go.Proofs.Ytofanlcjeohcjaa.Am
def crc1 (n:Nat):Nat:=if n%2=1 then n/2^^^3988292384 else n/2
def crcN:Nat->Nat->Nat
 |0,n=>n
 |k+1,n=>crcN k (crc1 n)
theorem Mn: ∀(k n:Nat),crc8 n k=crcN k n
 |0,n=>rfl
 |k+1,n=>by
  unfold crc8 crcN crc1
  split
  ·exact Mn k _
  ·exact Mn k _
theorem Axt_ (a b:Nat):crc1 (a^^^b)=crc1 a^^^crc1 b:=by
 have hd:(a^^^b)/2=a/2^^^b/2:=by
  have h:=Nat.shiftRight_xor_distrib (a:=a) (b:=b) (i:=1)
  rw[Nat.shiftRight_eq_div_pow,Nat.shiftRight_eq_div_pow,Nat.shiftRight_eq_div_pow]at h
  exact h
 have hm:(a^^^b)%2=(a%2+b%2)%2:=by
  rw[<-Nat.pow_one 2,Nat.xor_mod_two_pow]
  rcases Nat.mod_two_eq_zero_or_one a with h|h<;>rcases Nat.mod_two_eq_zero_or_one b with h'|h'<;>simp[h,h']
 unfold crc1
 rw[hd,hm]
 have e: ∀x y z:Nat,x^^^z^^^(y^^^z)=x^^^y:=λx y z=>by
  rw[Nat.xor_comm y z,Nat.xor_assoc,<-Nat.xor_assoc z z y,Nat.xor_self,Nat.zero_xor]
 rcases Nat.mod_two_eq_zero_or_one a with h|h<;>rcases Nat.mod_two_eq_zero_or_one b with h'|h'<;>rw[h,h']<;>simp -implicitDefEqProofs only[Nat.reduceAdd,Nat.reduceMod,Nat.zero_ne_one,if_true,if_false]
 ·rw[Nat.xor_assoc]
 ·rw[Nat.xor_assoc,Nat.xor_comm (b/2),<-Nat.xor_assoc]
 ·rw[e]
theorem JR_: ∀(k a b:Nat),crcN k (a^^^b)=crcN k a^^^crcN k b
 |0,_,_=>rfl
 |k+1,a,b=>by
  show crcN k (crc1 (a^^^b))=crcN k (crc1 a)^^^crcN k (crc1 b)
  rw[Axt_,JR_ k]
theorem ER_: ∀(j k n:Nat),crcN (j+k) n=crcN k (crcN j n)
 |0,k,n=>by rw[Nat.zero_add];rfl
 |j+1,k,n=>by
  rw[Nat.succ_add]
  exact ER_ j k _
theorem Qy_: ∀(k n:Nat),crcN k (n*2^k)=n
 |0,n=>by rw[Nat.pow_zero,Nat.mul_one];rfl
 |k+1,n=>by
  show crcN k (crc1 (n*2^(k+1)))=n
  have e:n*2^(k+1)=2*(n*2^k):=by rw[Nat.pow_succ];rw[<-Nat.mul_assoc,Nat.mul_comm]
  unfold crc1
  rw[e,Nat.mul_mod_right,if_neg al,Nat.mul_div_cancel_left _ al]
  exact Qy_ k n
theorem Abp_ {n:Nat}(h:n<4294967296):crc1 n<4294967296:=by
 unfold crc1
 split
 ·exact Nat.xor_lt_two_pow (n:=32) (show n/2<2^32 by omega) al
 ·omega
theorem AtK_ {a b k:Nat}(h:a<2^k):a^^^b*2^k=a+b*2^k:=by
 apply Nat.eq_of_testBit_eq
 intro i
 rw[Nat.testBit_xor,Nat.add_comm,Nat.mul_comm b,Nat.testBit_two_pow_mul_add _ h,Nat.testBit_two_pow_mul]
 by_cases hi:i<k
 ·rw[if_pos hi]
  simp[show ¬k<=i by omega]
 ·rw[if_neg hi,Nat.testBit_lt_two_pow (Nat.lt_of_lt_of_le h (Nat.pow_le_pow_right al J))]
  simp[show k<=i by omega]
theorem AaL_ (n c:Nat):FA n c=crcN 8 (n^^^c):=by
 have e:n=n%256^^^n/256*2^8:=by
  rw[AtK_ (k:=8) (Nat.mod_lt _ al)]
  omega
 have e2:n^^^c=(n%256^^^c)^^^n/256*2^8:=by
  conv=>lhs;rw[e]
  rw[Nat.xor_assoc,Nat.xor_comm _ c,<-Nat.xor_assoc]
 rw[e2,JR_,Qy_]
 unfold FA crcT
 rw[Mn]
def hiB:Nat->Nat->List Nat
 |0,_=>[]
 |k+1,m=>hiB k (m/128)++[m%128+128]
def BU (n:Nat):Nat:=if n<128 then 1 else if n<16384 then 2 else if n<2097152 then 3 else if n<268435456 then 4 else 5
def numB (n:Nat):List Nat:=hiB (BU n-1) (n/128)++[n%128]
def FW:Nat->Nat->List Nat->Option (Nat×List Nat)
 |0,_,_=>none
 |_+1,_,[]=>none
 |k+1,a,c::r=>if 128<=c then FW k (a*128+c%128) r else if 2147483647<a*128+c%128 then none else some (a*128+c%128,r)
def numR (l:List Nat):Option (Nat×List Nat):=if l.head?=some 128 then none else FW 5 0 l
theorem VV_: ∀k m,(hiB k m).length=k
 |0,_=>rfl
 |k+1,m=>by
  show(hiB k (m/128)++[m%128+128]).length=_
  rw[List.length_append,VV_ k]
  rfl
theorem Ed (n:Nat):1<=BU n/\BU n<=5:=by
 unfold BU
 repeat' split
 all_goals omega
theorem F4 (n:Nat):(numB n).length=BU n:=by
 have:=Ed n
 unfold numB
 rw[List.length_append,VV_]
 show BU n-1+1=_
 omega
theorem DQ_: ∀k m,Byt (hiB k m)
 |0,_=>λx hx=>by cases hx
 |k+1,m=>λx hx=>by
  have hx':x∈hiB k (m/128)++[m%128+128]:=hx
  rcases List.mem_append.1 hx' with h|h
  ·exact DQ_ k _ x h
  ·have:x=m%128+128:=by simpa using h
   omega
theorem Gp (n:Nat):Byt (numB n):=λx hx=>by
 unfold numB at hx
 rcases List.mem_append.1 hx with h|h
 ·exact DQ_ _ _ x h
 ·have:x=n%128:=by simpa using h
  omega
abbrev Rd:Type:=Option (List Nat)
def rInt (lo hi:Nat):Rd->Nat×Rd
 |none=>(0,none)
 |some r=>match numR r with
  |none=>(0,none)
  |some (n,r')=>if hi<n\/n<lo then(0,none)else(n,some r')
def rID:Rd->List Nat×Rd
 |none=>(List.replicate 16 0,none)
 |some r=>if r.length<16 then(List.replicate 16 0,none)else(r.take 16,some (r.drop 16))
def rH (st:Rd):HdI×Rd:=(((rID st).1,((rInt 0 2147483647 (rID st).2).1:Int),((rInt 1 1024 (rInt 0 2147483647 (rID st).2).2).1:Int)),(rInt 1 1024 (rInt 0 2147483647 (rID st).2).2).2)
def rHs:Nat->Rd->List HdI×Rd
 |0,st=>([],st)
 |_+1,none=>([],none)
 |k+1,some r=>((rH (some r)).1::(rHs k (rH (some r)).2).1,(rHs k (rH (some r)).2).2)
def rPk (st:Rd):(Int×Int×List HdI)×Rd:=
 let a:=rInt 1 999999 st
 let b:=rInt 0 65536 a.2
 let c:=rInt 0 20000 b.2
 let d:=rHs c.1 c.2
 (((a.1:Int),(b.1:Int),d.1),d.2)
def rPs:Nat->Rd->List (Int×Int×List HdI)×Rd
 |0,st=>([],st)
 |_+1,none=>([],none)
 |k+1,some r=>((rPk (some r)).1::(rPs k (rPk (some r)).2).1,(rPs k (rPk (some r)).2).2)
def rAll (l:List Nat):List (Int×Int×List HdI)×Rd:=rPs (rInt 0 500 (some l)).1 (rInt 0 500 (some l)).2
def encH (h:HdI):List Nat:=h.1++(numB h.2.1.toNat++numB h.2.2.toNat)
def Cg:List HdI->List Nat
 |[]=>[]
 |h::l=>encH h++Cg l
def encP (p:Int×Int×List HdI):List Nat:=numB p.1.toNat++(numB p.2.1.toNat++(numB p.2.2.length++Cg p.2.2))
def DC:List (Int×Int×List HdI)->List Nat
 |[]=>[]
 |p::l=>encP p++DC l
def Cs (l:List (Int×Int×List HdI)):List Nat:=numB l.length++DC l
def okH (h:HdI):Prop:=h.1.length=16/\0<=h.2.1/\h.2.1<=2147483647/\1<=h.2.2/\h.2.2<=1024
def okP (p:Int×Int×List HdI):Prop:=1<=p.1/\p.1<=999999/\0<=p.2.1/\p.2.1<=65536/\p.2.2.length<=20000/\ ∀h∈p.2.2,okH h
open Go.RowKit
def Oc:Nat:=Ao Try.f82
def XI:Code:=Try.f82.body.getD .skip
theorem UL_:envS.fn.get 82=some Try.f82:=X
theorem Zm_:G1 envS 82 7 Oc XI:=λh=>
 aK UL_ (h _ X)
theorem AkQ_:Try.f82.results.toList=[.tmp 2]:=X
def HJ_:List Item:=skim 64 [.code XI]
def Tk_:=nx HJ_
def EQ_:=nx Tk_
def Zf:Rg:=λE u r t=>
 sV 2 (.pointer none) t
theorem ArH_:RegEq 82 7 Oc HJ_ Zf:={}
def Kz_:Rg:=λE u r t=>
 mG t 0 λv3=>
 lN E .append [22,22] [(some (.slice none 0 0)),(some v3)] λv4=>
 M.bind (oS (seqP [(0,(some (.bool true))),(1,(some v4))]) λps=>Br E 152 ps) λv5=>
 M.bind (oS (some v5) λa=>kBox a) λv6=>
 sV 2 v6 t
theorem Aig_:RegEq 82 7 Oc Tk_ Kz_:={}
theorem Ahm_: ∃k,EQ_= .code .ret::k:=⟨EQ_.tail,X⟩
def ML:Nat:=Ao Try.f135
def WL:Code:=Try.f135.body.getD .skip
theorem TR:envS.fn.get 135=some Try.f135:=X
theorem AeE_:G1 envS 135 20 ML WL:=λh=>
 aK TR (h _ X)
theorem Awo_:Try.f135.results.toList=[.tmp 2]:=X
def WA:List Item:=skim 64 [.code WL]
def Ob_:=nx WA
def Rp_:=nx Ob_
def HS_:Rg:=λE u r t=>
 sV 2 (.bool false) t
theorem Zg_:RegEq 135 20 ML WA HS_:={}
def Ko_:Rg:=λE u r t=>
 mG t 0 λv3=>
 bC E .eql 113 3 (.pointer none) (some v3) λv4=>
 mv (some v4) λv5=>
 sK v5 false (pG t 0) λv6=>
 sK v5 false (oS (some v6) λa=>kNil a) λv7=>
 sK v5 false (oS (some v7) λa=>kFld E 152 a 0) λv8=>
 sK v5 false (oS (some v8) λa=>AE E 4 a) λv9=>
 sK v5 false (oS (some v9) λa=>kUn E.P .not a) λv10=>
 ae v5 (.bool true) v10 λv11=>
 mv (some v11) λv12=>
 sK v12 false (pG t 0) λv13=>
 sK v12 false (oS (some v13) λa=>kNil a) λv14=>
 sK v12 false (oS (some v14) λa=>kFld E 152 a 3) λv15=>
 sK v12 false (oS (some v15) λa=>kFld E 116 a 0) λv16=>
 sK v12 false (oS (some v16) λa=>AE E 27 a) λv17=>
 sK v12 false (oS (some v17) λa=>oS (some (.int .i64 0)) λb=>Cl.get (aBin E .neq 27 (.tmp 17) (.const (.int .i64 0))) a b) λv18=>
 ae v12 (.bool true) v18 λv19=>
 sV 2 v19 t
theorem AvW_:RegEq 135 20 ML Ob_ Ko_:={}
theorem Amm_: ∃k,Rp_= .code .ret::k:=⟨Rp_.tail,X⟩
def Gy:Nat:=Ao Try.f118
def UE:Code:=Try.f118.body.getD .skip
theorem LE:envS.fn.get 118=some Try.f118:=X
theorem HL_:G2 envS 118 14 Gy UE:=λh=>
 aK LE (h _ X X)
theorem NN:Try.f118.results.toList=[]:=X
def UN:List Item:=skim 64 [.code UE]
def YQ:=nx UN
def Om:=nx YQ
def SN_:=bt Om
def WR:=bf Om
def Ax_:=nx WR
def HC_:=nx Ax_
def AxV_:=nx HC_
def MD:Rg:=λE u r t=>
 M.bind (oS (T.get t 0) λa=>kBox a) λv2=>
 ac 2 v2 t
theorem Or_:RegEq 118 14 Gy UN MD:={}
def PI:Rg:=λE u r t=>
 lD E 113 (T.get t 2) λv5=>
 cN u r 135 [(some v5)] λv6=>
 ac 6 v6 t
theorem Nz_:RegEq 118 14 Gy YQ PI:={}
theorem Ag_:Aj Om=some 6:=X
theorem Asx_: ∃k,SN_= .code .ret::k:=⟨SN_.tail,X⟩
def Qn_:Rg:=λE u r t=>
 lD E 113 (T.get t 2) λv7=>
 kN v7 λv8=>
 fD E 152 2 (some v8) λv9=>
 lD E 3 (some v9) λv10=>
 M.bind (A6 E 3) λv4=>
 setF 4 v4 t λt1=>
 sT E 3 (some v4) (some v10) λ_=>
 M.pure t1
theorem AxN_:RegEq 118 14 Gy WR Qn_:={}
def X7:Rg:=λE u r t=>
 M.bind (oS (seqO []) λa=>oS (seqO [(T.get t 4),(T.get t 2)]) λb=>M.pure (.func (.func 136) a.toArray b.toArray)) λv11=>
 M.bind (M.on (some v11) λf=>M.on (seqO []) λl=>Fx f l) λ_=>
 M.pure t
theorem Afn_:RegEq 118 14 Gy Ax_ X7:={}
def Sb:Rg:=λE u r t=>
 mG t 1 λv12=>
 M.bind (M.on (some v12) λf=>M.on (seqO []) λl=>Ba u r f l) λv13=>
 M.pure t
theorem Et_:RegEq 118 14 Gy HC_ Sb:={}
def Dk:Nat:=Ao Try.f136
abbrev Fp_:Nat:=20
def I8:Code:=Try.f136.body.getD .skip
theorem J4:envS.fn.get 136=some Try.f136:=X
theorem Yu:Try.f136.results.toList=[]:=X
def QJ_:List Item:=skim 64 [.code I8]
def TB_:=nx QJ_
def OV:=nx TB_
def VF:=bt OV
def Vs_:=bf OV
def Anv_:=nx VF
def UC:=nx Vs_
def QD_:=bt UC
def LS_:=nx QD_
theorem ArG_:skim 64 LS_.tail=Anv_:=X
def Mf:Rg:=λE u r t=>
 M.bind (FF) λv5=>
 ac 5 v5 t
theorem Ub_:RegEq 136 20 Dk QJ_ Mf:={}
def Oz:Rg:=λE u r t=>
 bI E .eql 20 (.tmp 5) (.const .nilIface) (T.get t 5) (some .nilIface) λv7=>
 ac 7 v7 t
theorem Fq_:RegEq 136 20 Dk TB_ Oz:={}
theorem La_:Aj OV=some 7:=X
def LH_:Rg:=λE u r t=>
 mG t 5 λv2=>
 M.pure t
theorem Afy_:RegEq 136 20 Dk VF LH_:={}
def RC_:Rg:=λE u r t=>
 M.bind (oS (T.get t 5) λa=>ET E 170 true a) λv8=>
 eX 1 (some v8) λv9=>
 setF 9 v9 t λt1=>
 eX 0 (some v8) λv10=>
 ac 10 v10 t1
theorem Awd_:RegEq 136 20 Dk Vs_ RC_:={}
theorem AeB_:Aj UC=some 9:=X
def Gs_:Rg:=λE u r t=>
 M.bind (A6 E 170) λv3=>
 setF 3 v3 t λt1=>
 sT E 170 (some v3) (T.get t1 10) λ_=>
 M.pure t1
theorem Ars_:RegEq 136 20 Dk QD_ Gs_:={}
def VD_:Rg:=λE u r t=>
 lD E 113 (T.get t 1) λv11=>
 lD E 113 (T.get t 1) λv12=>
 fD E 170 0 (T.get t 3) λv13=>
 lD E 116 (some v13) λv14=>
 lD E 3 (T.get t 0) λv15=>
 kN v11 λv16=>
 fD E 152 3 (some v16) λv17=>
 sT E 116 (some v17) (some v14) λ_=>
 kN v12 λv18=>
 fD E 152 2 (some v18) λv19=>
 sT E 3 (some v19) (some v15) λ_=>
 M.pure t
theorem ArT_:RegEq 136 20 Dk LS_ VD_:={}
def Y5:Nat:=Ao Try.f138
def ML_:Code:=Try.f138.body.getD .skip
theorem AuW_:envS.fn.get 138=some Try.f138:=X
theorem Agi_ {a0 a1:Value}{n:Nat}{s:St}{Q:Value->St->Prop}{R:List PanicEntry->St->Prop}(h: ∀tm,T.get tm 0=some a0->T.get tm 1=some a1->Wx (runF envS n ⟨138,9,Y5,tm,[.code ML_], .run, .normal,none⟩) (s.cxN cxN) (λp s1=>Q p.1 (s1.cxN s.cx)) λc s1=>R c (s1.cxN s.cx)):Wx (Ac envS (runF envS n) 138 [a0,a1]) s Q R:=
 Wx.call X X AuW_ X rfl rfl am (h _ X X)
def Xx_:List Item:=skim 64 [.code ML_]
def Dz_:Rg:=λE u r t=>
 mG t 0 λv4=>
 mG t 1 λv5=>
 M.bind (oS (seqP [(0,(some v4)),(1,(some v5))]) λps=>Br E 116 ps) λv6=>
 M.bind (oS (seqP [(0,(some v6))]) λps=>Br E 170 ps) λv7=>
 M.bind (oS (some v7) λa=>EP E 170 a) λv8=>
 M.bind (oS (some v8) λa=>Ic a) λ_=>
 M.pure t
theorem Ass_:RegEq 138 9 Y5 Xx_ Dz_:={}
def BY:Nat:=Ao Try.f137
abbrev Ns:Nat:=78
def GA_:Code:=Try.f137.body.getD .skip
theorem Ds_:envS.fn.get 137=some Try.f137:=X
theorem Aip_:Try.f137.results.toList=[.tmp 2]:=X
theorem ApP_ {a0:Value}{n:Nat}{s:St}{Q:Value->St->Prop}{R:List PanicEntry->St->Prop}(h: ∀tm,T.get tm 0=some a0->Wx (runF envS n ⟨137,78,BY,tm,[.code GA_], .run, .normal,none⟩) (s.cxN cxN) (λp s1=>Q p.1 (s1.cxN s.cx)) λc s1=>R c (s1.cxN s.cx)):Wx (Ac envS (runF envS n) 137 [a0]) s Q R:=
 Wx.call X X Ds_ X rfl rfl am (h _ X)
def AI_:List Item:=skim 64 [.code GA_]
def Zp:=nx AI_
def RO_:=nx Zp
def IQ:=nx RO_
def YH_:=bt IQ
def MG_:=bf IQ
def KK:=nx MG_
def NY:=nx KK
def RI:=bt NY
def NM:=bf NY
def QR:=nx RI
def AiQ_:=bt QR
def QO:=bf QR
def SC_:=nx QO
def Ju_:=nx SC_
def Hj_:=nx Ju_
def OC:=nx Hj_
def Vj_:=bt OC
def Ud:=bf OC
theorem AjM_:skim 64 Vj_.tail=KK:=X
def Sx:=nx Ud
theorem AlH_:skim 64 (brT Sx)=NM:=X
def TT_:=bf Sx
def To_:=nx TT_
def RW_:Rg:=λE u r t=>
 sV 2 (.int .i64 0) t
theorem AhP_:RegEq 137 78 BY AI_ RW_:={}
def TA_:Rg:=λE u r t=>
 mG t 0 λv6=>
 kN v6 λv7=>
 fD E 152 2 (some v7) λv8=>
 lD E 3 (some v8) λv9=>
 mv (some v9) λv3=>
 setF 3 v3 t λt1=>
 sV 4 (.int .i64 0) t1
theorem Amj_:RegEq 137 78 BY Zp TA_:={}
def VA_:Rg:=λE u r t=>
 mG t 3 λv10=>
 mG t 0 λv11=>
 kN v11 λv12=>
 fD E 152 1 (some v12) λv13=>
 lD E 22 (some v13) λv14=>
 lL E 22 v14 λv15=>
 bT E .lss 3 10 15 v10 v15 λv16=>
 mv (some v16) λv17=>
 sK v17 true (pG t 0) λv18=>
 sK v17 true (oS (some v18) λa=>kNil a) λv19=>
 sK v17 true (oS (some v19) λa=>kFld E 152 a 1) λv20=>
 sK v17 true (oS (some v20) λa=>AE E 22 a) λv21=>
 sK v17 true (pG t 3) λv22=>
 sK v17 true (oS (some v21) λa=>oS (some v22) λb=>BJ E 22 a b) λv23=>
 sK v17 true (oS (some v23) λa=>AE E 5 a) λv24=>
 sK v17 true (oS (some v24) λa=>oS (some (.int .u8 128)) λb=>Cl.get (aBin E .eql 5 (.tmp 24) (.const (.int .u8 128))) a b) λv25=>
 ae v17 v25 (.bool false) λv26=>
 ac 26 v26 t
theorem Alt_:RegEq 137 78 BY RO_ VA_:={}
theorem DI_:Aj IQ=some 26:=X
def NW_:Rg:=λE u r t=>
 mG t 3 λv27=>
 cN u r 138 [(some (.int .i64 4)),(some v27)] λv28=>
 M.pure t
theorem AaF_:RegEq 137 78 BY YH_ NW_:={}
def DA_:Rg:=λE u r t=>
 sV 29 (.int .i64 0) t
theorem AvZ_:RegEq 137 78 BY MG_ DA_:={}
def Nd:Rg:=λE u r t=>
 bN E .lss 29 5 (T.get t 29) λv30=>
 ac 30 v30 t
theorem Wh:RegEq 137 78 BY KK Nd:={}
theorem KH_:Aj NY=some 30:=X
def UG:RdW:=λE call round tm=>
 PD (T.get tm 0) λp0=>
 M.bind (apartO (oS (some p0.1) λa=>kNil a)) λp1=>
 FD E 152 2 (some p1.1) λp2=>
 LD E 3 (some p2.1) λp3=>
 PD (T.get tm 0) λp4=>
 M.bind (apartO (oS (some p4.1) λa=>kNil a)) λp5=>
 FD E 152 1 (some p5.1) λp6=>
 LD E 22 (some p6.1) λp7=>
 LN E .len [22] [(some p7.1)] λp8=>
 fJ [p8,p7,p6,p5,p4,p3,p2,p1,p0] tm
theorem WB_:DrawEq 137 78 BY RI [0,1,3,7,0,16,48,112,240,511] UG:={}
theorem AcT_ (E:Env)(call round:Ai)(x31 x32 x33 x34 x35 x36 x37 x38 x39:Value)(tm:T Value)(s:St):AK call round (A5 E BY 78 (hdC RI)) [x39,x38,x37,x36,x35,x34,x33,x32,x31] tm s=(M.bind (oS (some x34) λa=>oS (some x39) λb=>Cl.get (aBin E .eql 3 (.tmp 34) (.tmp 39)) a b) λv40=>setT 40 v40 tm λtm1=>M.pure tm1) s:=X
def KQ_:Rg:=λE u r t=>
 mG t 3 λv76=>
 cN u r 138 [(some (.int .i64 5)),(some v76)] λv77=>
 M.pure t
theorem AtT_:RegEq 137 78 BY NM KQ_:={}
theorem CG_:Aj QR=some 40:=X
def W3:Rg:=λE u r t=>
 mG t 0 λv41=>
 kN v41 λv42=>
 fD E 152 1 (some v42) λv43=>
 lD E 22 (some v43) λv44=>
 lL E 22 v44 λv45=>
 cN u r 138 [(some (.int .i64 4)),(some v45)] λv46=>
 M.pure t
theorem YP_:RegEq 137 78 BY AiQ_ W3:={}
def VW:RdW:=λE call round tm=>
 PD (T.get tm 0) λp0=>
 M.bind (apartO (oS (some p0.1) λa=>kNil a)) λp1=>
 FD E 152 1 (some p1.1) λp2=>
 LD E 22 (some p2.1) λp3=>
 PD (T.get tm 0) λp4=>
 M.bind (apartO (oS (some p4.1) λa=>kNil a)) λp5=>
 FD E 152 2 (some p5.1) λp6=>
 LD E 3 (some p6.1) λp7=>
 ID E 22 (some p3.1) (some p7.1) λp8=>
 LD E 5 (some p8.1) λp9=>
 fJ [p9,p8,p7,p6,p5,p4,p3,p2,p1,p0] tm
theorem ArE_:DrawEq 137 78 BY QO [0,1,3,7,0,16,48,112,255,511,1023] VW:={}
theorem AhA_ (E:Env)(call round:Ai)(x47 x48 x49 x50 x51 x52 x53 x54 x55 x56:Value)(tm:T Value)(s:St):AK call round (A5 E BY 78 (hdC QO)) [x56,x55,x54,x53,x52,x51,x50,x49,x48,x47] tm s=(M.bind (oS (some x56) λa=>M.pure a) λv5=>setT 5 v5 tm λtm1=>M.pure tm1) s:=X
def Bp_:Rg:=λE u r t=>
 mG t 0 λv57=>
 kN v57 λv58=>
 fD E 152 2 (some v58) λv59=>
 lD E 3 (some v59) λv60=>
 bN E .add 60 1 (some v60) λv61=>
 kN v57 λv62=>
 fD E 152 2 (some v62) λv63=>
 sT E 3 (some v63) (some v61) λ_=>
 M.pure t
theorem Ym_:RegEq 137 78 BY SC_ Bp_:={}
def In_:Rg:=λE u r t=>
 mG t 4 λv64=>
 bC E .shl 3 64 (.int .u64 7) (some v64) λv65=>
 mG t 5 λv66=>
 bC E .and 5 66 (.int .u8 127) (some v66) λv67=>
 vB E 5 3 (some v67) λv68=>
 bT E .or 3 65 68 v65 v68 λv69=>
 sV 4 v69 t
theorem Aaz_:RegEq 137 78 BY Ju_ In_:={}
def MD_:Rg:=λE u r t=>
 mG t 5 λv70=>
 bC E .geq 5 70 (.int .u8 128) (some v70) λv71=>
 ac 71 v71 t
theorem AqO_:RegEq 137 78 BY Hj_ MD_:={}
theorem Fz_:Aj OC=some 71:=X
def Fa_:Rg:=λE u r t=>
 bN E .add 29 1 (T.get t 29) λv75=>
 sV 29 v75 t
theorem AuG_:RegEq 137 78 BY Vj_ Fa_:={}
def Jr_:Rg:=λE u r t=>
 mG t 4 λv72=>
 bN E .gtr 72 2147483647 (some v72) λv73=>
 ac 73 v73 t
theorem AqV_:RegEq 137 78 BY Ud Jr_:={}
theorem BI_:Aj Sx=some 73:=X
def U0:Rg:=λE u r t=>
 mG t 4 λv74=>
 sV 2 v74 t
theorem AtC_:RegEq 137 78 BY TT_ U0:={}
theorem Wm_: ∃k,To_= .code .ret::k:=⟨To_.tail,X⟩
def EH:Nat:=Ao Try.f120
def UC_:Code:=Try.f120.body.getD .skip
theorem Nr_:envS.fn.get 120=some Try.f120:=X
theorem Aly_:Try.f120.results.toList=[.tmp 8]:=X
theorem XA_ {a0 a1 a2 a3:Value}{n:Nat}{s:St}{Q:Value->St->Prop}{R:List PanicEntry->St->Prop}(h: ∀tm,T.get tm 0=some a0->T.get tm 1=some a1->T.get tm 2=some a2->T.get tm 3=some a3->Wx (runF envS n ⟨120,29,EH,tm,[.code UC_], .run, .normal,none⟩) (s.cxN cxN) (λp s1=>Q p.1 (s1.cxN s.cx)) λc s1=>R c (s1.cxN s.cx)):Wx (Ac envS (runF envS n) 120 [a0,a1,a2,a3]) s Q R:=
 Wx.call X X Nr_ X rfl rfl am (h _ X X X X)
def Vi:List Item:=skim 64 [.code UC_]
def Gz_:=nx Vi
def Wj_:=nx Gz_
def TD_:=nx Wj_
def O5:=nx TD_
def AtY_:=bt O5
def An_:=bf O5
def NA:=nx An_
def Aeq_:=bt NA
def GJ_:=bf NA
def Kk_:=nx GJ_
def Dv_:Rg:=λE u r t=>
 sV 8 (.int .i64 0) t
theorem Aht_:RegEq 120 29 EH Vi Dv_:={}
def Zr:Rg:=λE u r t=>
 mG t 0 λv11=>
 kN v11 λv12=>
 fD E 152 2 (some v12) λv13=>
 lD E 3 (some v13) λv14=>
 sV 9 v14 t
theorem Aec_:RegEq 120 29 EH Gz_ Zr:={}
def Pb_:Rg:=λE u r t=>
 mG t 0 λv15=>
 cN u r 137 [(some v15)] λv16=>
 sV 10 v16 t
theorem Aia_:RegEq 120 29 EH Wj_ Pb_:={}
def Zo:Rg:=λE u r t=>
 mG t 10 λv17=>
 mG t 2 λv18=>
 bT E .gtr 3 17 18 v17 v18 λv19=>
 ac 19 v19 t
theorem AmH_:RegEq 120 29 EH TD_ Zo:={}
theorem EL_:Aj O5=some 19:=X
def EK_:Rg:=λE u r t=>
 mG t 3 λv20=>
 mG t 9 λv21=>
 cN u r 138 [(some v20),(some v21)] λv22=>
 M.pure t
theorem Anq_:RegEq 120 29 EH AtY_ EK_:={}
def Ys:Rg:=λE u r t=>
 mG t 10 λv23=>
 mG t 1 λv24=>
 bT E .lss 3 23 24 v23 v24 λv25=>
 ac 25 v25 t
theorem Aur_:RegEq 120 29 EH An_ Ys:={}
theorem Ah_:Aj NA=some 25:=X
def Tk:Rg:=λE u r t=>
 mG t 9 λv26=>
 cN u r 138 [(some (.int .i64 5)),(some v26)] λv27=>
 M.pure t
theorem AnO_:RegEq 120 29 EH Aeq_ Tk:={}
def Eo_:Rg:=λE u r t=>
 mG t 10 λv28=>
 sV 8 v28 t
theorem AbK_:RegEq 120 29 EH GJ_ Eo_:={}
theorem AtA_: ∃k,Kk_= .code .ret::k:=⟨Kk_.tail,X⟩
def Fl:Nat:=Ao Try.f141
def VX:Code:=Try.f141.body.getD .skip
theorem Cc_:envS.fn.get 141=some Try.f141:=X
theorem AkP_:Try.f141.results.toList=[.tmp 4]:=X
theorem AeR_ {a0 a1:Value}{n:Nat}{s:St}{Q:Value->St->Prop}{R:List PanicEntry->St->Prop}(h: ∀tm,T.get tm 0=some a0->T.get tm 1=some a1->Wx (runF envS n ⟨141,47,Fl,tm,[.code VX], .run, .normal,none⟩) (s.cxN cxN) (λp s1=>Q p.1 (s1.cxN s.cx)) λc s1=>R c (s1.cxN s.cx)):Wx (Ac envS (runF envS n) 141 [a0,a1]) s Q R:=
 Wx.call X X Cc_ X rfl rfl am (h _ X X)
def NO_:List Item:=skim 64 [.code VX]
def Qd:=nx NO_
def PU:=nx Qd
def Arv_:=bt PU
def XE:=bf PU
def NT:=nx XE
def OT_:=nx NT
def QK_:Rg:=λE u r t=>
 sV 4 (.slice none 0 0) t
theorem Apn_:RegEq 141 47 Fl NO_ QK_:={}
def X4:RdW:=λE call round tm=>
 PD (T.get tm 1) λp0=>
 PD (T.get tm 0) λp1=>
 M.bind (apartO (oS (some p1.1) λa=>kNil a)) λp2=>
 FD E 152 1 (some p2.1) λp3=>
 LD E 22 (some p3.1) λp4=>
 LN E .len [22] [(some p4.1)] λp5=>
 PD (T.get tm 0) λp6=>
 M.bind (apartO (oS (some p6.1) λa=>kNil a)) λp7=>
 FD E 152 2 (some p7.1) λp8=>
 LD E 3 (some p8.1) λp9=>
 BI E .sub 3 (.tmp 10) (.tmp 14) (some p5.1) (some p9.1) λp10=>
 fJ [p10,p9,p8,p7,p6,p5,p4,p3,p2,p1,p0] tm
theorem Atl_:DrawEq 141 47 Fl Qd [0,0,2,6,14,30,0,64,192,448,1022,2047] X4:={}
theorem XW_ (E:Env)(call round:Ai)(x5 x6 x7 x8 x9 x10 x11 x12 x13 x14 x15:Value)(tm:T Value)(s:St):AK call round (A5 E Fl 47 (hdC Qd)) [x15,x14,x13,x12,x11,x10,x9,x8,x7,x6,x5] tm s=(M.bind (oS (some x5) λa=>oS (some x15) λb=>Cl.get (aBin E .gtr 3 (.tmp 5) (.tmp 15)) a b) λv16=>setT 16 v16 tm λtm1=>M.pure tm1) s:=X
theorem Ve:Aj PU=some 16:=X
def XP:Rg:=λE u r t=>
 mG t 0 λv17=>
 kN v17 λv18=>
 fD E 152 1 (some v18) λv19=>
 lD E 22 (some v19) λv20=>
 lL E 22 v20 λv21=>
 cN u r 138 [(some (.int .i64 4)),(some v21)] λv22=>
 M.pure t
theorem AjC_:RegEq 141 47 Fl Arv_ XP:={}
def BG_:Rg:=λE u r t=>
 mG t 0 λv23=>
 kN v23 λv24=>
 fD E 152 2 (some v24) λv25=>
 lD E 3 (some v25) λv26=>
 mG t 1 λv27=>
 bT E .add 3 26 27 v26 v27 λv28=>
 kN v23 λv29=>
 fD E 152 2 (some v29) λv30=>
 sT E 3 (some v30) (some v28) λ_=>
 M.pure t
theorem Avk_:RegEq 141 47 Fl XE BG_:={}
def Th_:RdW:=λE call round tm=>
 PD (T.get tm 0) λp0=>
 M.bind (apartO (oS (some p0.1) λa=>kNil a)) λp1=>
 FD E 152 1 (some p1.1) λp2=>
 LD E 22 (some p2.1) λp3=>
 PD (T.get tm 0) λp4=>
 M.bind (apartO (oS (some p4.1) λa=>kNil a)) λp5=>
 FD E 152 2 (some p5.1) λp6=>
 LD E 3 (some p6.1) λp7=>
 PD (T.get tm 1) λp8=>
 BI E .sub 3 (.tmp 38) (.tmp 39) (some p7.1) (some p8.1) λp9=>
 PD (T.get tm 0) λp10=>
 M.bind (apartO (oS (some p10.1) λa=>kNil a)) λp11=>
 FD E 152 2 (some p11.1) λp12=>
 LD E 3 (some p12.1) λp13=>
 M.bind (apartO (M.on (some p3.1) λa=>M.on (onO (some p9.1) λv=>some (some v)) λb=>M.on (onO (some p13.1) λv=>some (some v)) λc=>Be E 22 a b c)) λp14=>
 LN E .append [22,22] [(some (.slice none 0 0)),(some p14.1)] λp15=>
 fJ [p15,p14,p13,p12,p11,p10,p9,p8,p7,p6,p5,p4,p3,p2,p1,p0] tm
theorem Awu_:DrawEq 141 47 Fl NT [0,1,3,7,0,16,48,112,0,496,0,1024,3072,7168,16383,32767,65535] Th_:={}
theorem Aos_ (E:Env)(call round:Ai)(x31 x32 x33 x34 x35 x36 x37 x38 x39 x40 x41 x42 x43 x44 x45 x46:Value)(tm:T Value)(s:St):AK call round (A5 E Fl 47 (hdC NT)) [x46,x45,x44,x43,x42,x41,x40,x39,x38,x37,x36,x35,x34,x33,x32,x31] tm s=(M.bind (oS (some x46) λa=>M.pure a) λv4=>setT 4 v4 tm λtm1=>M.pure tm1) s:=X
theorem Agk_: ∃k,OT_= .code .ret::k:=⟨OT_.tail,X⟩
def Ia:Nat:=Ao Try.f121
abbrev Adq_:Nat:=11
def FV_:Code:=Try.f121.body.getD .skip
theorem UB_:envS.fn.get 121=some Try.f121:=X
theorem AsG_:G3 envS 121 11 Ia FV_:=λh=>
 aK UB_ (h _ X X X)
theorem AbG_:Try.f121.results.toList=[.cell 6 3]:=X
def LI_:List Item:=skim 64 [.code FV_]
def VK:=nx LI_
def Nv:=nx VK
def Xj:=nx Nv
def Z7:Rg:=λE u r t=>
 M.bind (oS (T.get t 0) λa=>kBox a) λv3=>
 setF 3 v3 t λt1=>
 M.bind (oS (T.get t1 1) λa=>kBox a) λv4=>
 setF 4 v4 t1 λt2=>
 M.bind (oS (T.get t2 2) λa=>kBox a) λv5=>
 setF 5 v5 t2 λt3=>
 M.bind (A6 E 3) λv6=>
 ac 6 v6 t3
theorem AeA_:RegEq 121 11 Ia LI_ Z7:={}
def Lk_:Rg:=λE u r t=>
 lD E 113 (T.get t 3) λv7=>
 M.bind (oS (seqO []) λa=>oS (seqO [(T.get t 3),(T.get t 4),(T.get t 5),(T.get t 6)]) λb=>M.pure (.func (.func 139) a.toArray b.toArray)) λv8=>
 cN u r 118 [(some v7),(some v8)] λv9=>
 M.pure t
theorem AqN_:RegEq 121 11 Ia VK Lk_:={}
def Cx_:Rg:=λE u r t=>
 lD E 3 (T.get t 6) λv10=>
 sT E 3 (T.get t 6) (some v10) λ_=>
 M.pure t
theorem Apq_:RegEq 121 11 Ia Nv Cx_:={}
theorem AnU_: ∃k,Xj= .code .ret::k:=⟨Xj.tail,X⟩
def Lx_:Nat:=Ao Try.f139
def Jw_:Code:=Try.f139.body.getD .skip
theorem NQ_:envS.fn.get 139=some Try.f139:=X
theorem AoX_:Try.f139.results.toList=[]:=X
theorem Abe_ {a0 a1 a2 a3:Value}{n:Nat}{s:St}{Q:Value->St->Prop}{R:List PanicEntry->St->Prop}(h: ∀tm,T.get tm 0=some a0->T.get tm 1=some a1->T.get tm 2=some a2->T.get tm 3=some a3->Wx (runF envS n ⟨139,8,Lx_,tm,[.code Jw_], .run, .normal,none⟩) (s.cxN cxN) (λp s1=>Q p.1 (s1.cxN s.cx)) λc s1=>R c (s1.cxN s.cx)):Wx (Ac envS (runF envS n) 139 [a0,a1,a2,a3]) s Q R:=
 Wx.call X X NQ_ X rfl rfl am (h _ X X X X)
def Wl:List Item:=skim 64 [.code Jw_]
def Ayj_:=nx Wl
def Sy_:Rg:=λE u r t=>
 lD E 113 (T.get t 0) λv4=>
 lD E 3 (T.get t 1) λv5=>
 lD E 3 (T.get t 2) λv6=>
 cN u r 120 [(some v4),(some v5),(some v6),(some (.int .i64 5))] λv7=>
 sT E 3 (T.get t 3) (some v7) λ_=>
 M.pure t
theorem Ahk_:RegEq 139 8 Lx_ Wl Sy_:={}
def HD:Nat:=Ao Try.f83
abbrev YW_:Nat:=9
def Pm_:Code:=Try.f83.body.getD .skip
theorem OZ_:envS.fn.get 83=some Try.f83:=X
theorem Agv_:G2 envS 83 9 HD Pm_:=λh=>
 aK OZ_ (h _ X X)
theorem Air_:Try.f83.results.toList=[.cell 4 3]:=X
def Ne_:List Item:=skim 64 [.code Pm_]
def OP_:=nx Ne_
def Oi:=nx OP_
def Cu_:=nx Oi
def PQ_:Rg:=λE u r t=>
 M.bind (oS (T.get t 0) λa=>kBox a) λv2=>
 setF 2 v2 t λt1=>
 M.bind (oS (T.get t1 1) λa=>kBox a) λv3=>
 setF 3 v3 t1 λt2=>
 M.bind (A6 E 3) λv4=>
 ac 4 v4 t2
theorem Auz_:RegEq 83 9 HD Ne_ PQ_:={}
def ZN:Rg:=λE u r t=>
 lD E 113 (T.get t 2) λv5=>
 M.bind (oS (seqO []) λa=>oS (seqO [(T.get t 2),(T.get t 3),(T.get t 4)]) λb=>M.pure (.func (.func 119) a.toArray b.toArray)) λv6=>
 cN u r 118 [(some v5),(some v6)] λv7=>
 M.pure t
theorem AoY_:RegEq 83 9 HD OP_ ZN:={}
def Ba_:Rg:=λE u r t=>
 lD E 3 (T.get t 4) λv8=>
 sT E 3 (T.get t 4) (some v8) λ_=>
 M.pure t
theorem Awt_:RegEq 83 9 HD Oi Ba_:={}
theorem WU_: ∃k,Cu_= .code .ret::k:=⟨Cu_.tail,X⟩
def Ku_:Nat:=Ao Try.f119
def Eg_:Code:=Try.f119.body.getD .skip
theorem V4:envS.fn.get 119=some Try.f119:=X
theorem AbE_:Try.f119.results.toList=[]:=X
theorem And_ {a0 a1 a2:Value}{n:Nat}{s:St}{Q:Value->St->Prop}{R:List PanicEntry->St->Prop}(h: ∀tm,T.get tm 0=some a0->T.get tm 1=some a1->T.get tm 2=some a2->Wx (runF envS n ⟨119,6,Ku_,tm,[.code Eg_], .run, .normal,none⟩) (s.cxN cxN) (λp s1=>Q p.1 (s1.cxN s.cx)) λc s1=>R c (s1.cxN s.cx)):Wx (Ac envS (runF envS n) 119 [a0,a1,a2]) s Q R:=
 Wx.call X X V4 X rfl rfl am (h _ X X X)
def W9:List Item:=skim 64 [.code Eg_]
def Ayd_:=nx W9
def KC_:Rg:=λE u r t=>
 lD E 113 (T.get t 0) λv3=>
 lD E 3 (T.get t 1) λv4=>
 cN u r 120 [(some v3),(some (.int .i64 0)),(some v4),(some (.int .i64 3))] λv5=>
 sT E 3 (T.get t 2) (some v5) λ_=>
 M.pure t
theorem WD_:RegEq 119 6 Ku_ W9 KC_:={}
def HH:Nat:=Ao Try.f122
abbrev AaU_:Nat:=7
def Vf:Code:=Try.f122.body.getD .skip
theorem ND_:envS.fn.get 122=some Try.f122:=X
theorem AlJ_:G1 envS 122 7 HH Vf:=λh=>
 aK ND_ (h _ X)
theorem Aoz_:Try.f122.results.toList=[.cell 2 26]:=X
def LC_:List Item:=skim 64 [.code Vf]
def St_:=nx LC_
def MP:=nx St_
def TA:=nx MP
def V8:Rg:=λE u r t=>
 M.bind (oS (T.get t 0) λa=>kBox a) λv1=>
 setF 1 v1 t λt1=>
 M.bind (A6 E 26) λv2=>
 ac 2 v2 t1
theorem AbT_:RegEq 122 7 HH LC_ V8:={}
def AO_:Rg:=λE u r t=>
 lD E 113 (T.get t 1) λv3=>
 M.bind (oS (seqO []) λa=>oS (seqO [(T.get t 2),(T.get t 1)]) λb=>M.pure (.func (.func 140) a.toArray b.toArray)) λv4=>
 cN u r 118 [(some v3),(some v4)] λv5=>
 M.pure t
theorem AkY_:RegEq 122 7 HH St_ AO_:={}
def Zy:Rg:=λE u r t=>
 lD E 26 (T.get t 2) λv6=>
 sT E 26 (T.get t 2) (some v6) λ_=>
 M.pure t
theorem Arp_:RegEq 122 7 HH MP Zy:={}
theorem Ahq_: ∃k,TA= .code .ret::k:=⟨TA.tail,X⟩
def K3:Nat:=Ao Try.f140
def Ci_:Code:=Try.f140.body.getD .skip
theorem Gc_:envS.fn.get 140=some Try.f140:=X
theorem AdC_:Try.f140.results.toList=[]:=X
theorem AoR_ {a0 a1:Value}{n:Nat}{s:St}{Q:Value->St->Prop}{R:List PanicEntry->St->Prop}(h: ∀tm,T.get tm 0=some a0->T.get tm 1=some a1->Wx (runF envS n ⟨140,6,K3,tm,[.code Ci_], .run, .normal,none⟩) (s.cxN cxN) (λp s1=>Q p.1 (s1.cxN s.cx)) λc s1=>R c (s1.cxN s.cx)):Wx (Ac envS (runF envS n) 140 [a0,a1]) s Q R:=
 Wx.call X X Gc_ X rfl rfl am (h _ X X)
def LY:List Item:=skim 64 [.code Ci_]
def Ayf_:=nx LY
def VC_:RdW:=λE call round tm=>
 M.bind (apartO (M.on (T.get tm 0) λa=>M.on (some none) λb=>M.on (some none) λc=>Be E 26 a b c)) λp0=>
 LD E 113 (T.get tm 1) λp1=>
 CN call round 141 [(some p1.1),(some (.int .i64 16))] λp2=>
 fJ [p2,p1,p0] tm
def Xu (E:Env)(call round:Ai)(tm:T Value):M ((Rho×T Value)×List OpLog):=
 M.bind (apartO (M.on (T.get tm 0) λa=>M.on (some none) λb=>M.on (some none) λc=>Be E 26 a b c)) λp0=>
 M.bind (apartO (oS (T.get tm 1) λa=>AE E 113 a)) λp1=>
 fJ [p1,p0] tm
theorem Adw_:DrawXq 140 6 K3 LY [0,0,2,7] 2 2 Xu VC_:=⟨X,X,λ_ _ _ _ _ _ _ _ _=>X⟩
theorem AjD_ (E:Env)(call round:Ai)(x2 x3:Value)(tm:T Value)(s:St):AK call round (Qi E K3 6 (hdC LY) 2) [x3,x2] tm s=(M.bind (M.on (some (.func (.func 141) #[] #[])) λf=>M.on (seqO [(some x3),(some (.int .i64 16))]) λl=>Ba call round f l) λv4=>M.pure tm) s:=X
theorem Ano_ (E:Env)(call round:Ai)(x2 x3 x4:Value)(tm:T Value)(s:St):AK call round (A5 E K3 6 (hdC LY)) [x4,x3,x2] tm s=(M.bind (oS (seqO [(some x2),(some x4)]) λl=>Bg E .copy [22,22] l) λv5=>M.pure tm) s:=X
def Jb:Nat:=Ao Try.f84
def Mt_:Code:=Try.f84.body.getD .skip
theorem Mg_:envS.fn.get 84=some Try.f84:=X
theorem AjN_:G1 envS 84 17 Jb Mt_:=λh=>
 aK Mg_ (h _ X)
theorem Atu_:Try.f84.results.toList=[.cell 2 116]:=X
def XJ:List Item:=skim 64 [.code Mt_]
def Vh:=nx XJ
def DT_:=nx Vh
def OK_:=bf DT_
def Yt:=nx OK_
def PE_:Rg:=λE u r t=>
 M.bind (A6 E 116) λv2=>
 ac 2 v2 t
theorem AaA_:RegEq 84 17 Jb XJ PE_:={}
def PZ_:Rg:=λE u r t=>
 mG t 0 λv3=>
 bC E .eql 113 3 (.pointer none) (some v3) λv4=>
 mv (some v4) λv5=>
 sK v5 false (pG t 0) λv6=>
 sK v5 false (oS (some v6) λa=>kNil a) λv7=>
 sK v5 false (oS (some v7) λa=>kFld E 152 a 0) λv8=>
 sK v5 false (oS (some v8) λa=>AE E 4 a) λv9=>
 sK v5 false (oS (some v9) λa=>kUn E.P .not a) λv10=>
 ae v5 (.bool true) v10 λv11=>
 ac 11 v11 t
theorem AbI_:RegEq 84 17 Jb Vh PZ_:={}
theorem AtR_:Aj DT_=some 11:=X
def DM_:Rg:=λE u r t=>
 mG t 0 λv13=>
 kN v13 λv14=>
 fD E 152 3 (some v14) λv15=>
 lD E 116 (some v15) λv16=>
 sT E 116 (T.get t 2) (some v16) λ_=>
 M.pure t
theorem AgU_:RegEq 84 17 Jb OK_ DM_:={}
theorem Amf_: ∃k,Yt= .code .ret::k:=⟨Yt.tail,X⟩
def FB:Nat:=Ao Try.f86
abbrev AdH_:Nat:=27
def HG_:Code:=Try.f86.body.getD .skip
theorem Cj_:envS.fn.get 86=some Try.f86:=X
theorem Avn_:G1 envS 86 27 FB HG_:=λh=>
 aK Cj_ (h _ X)
theorem AsW_:Try.f86.results.toList=[.cell 2 116]:=X
def Mn_:List Item:=skim 64 [.code HG_]
def QM_:=nx Mn_
def Ma:=nx QM_
def RS:=nx Ma
def Ms_:=bt RS
def KE:=bf RS
theorem AmF_:skim 64 Ms_.tail=KE:=X
def Qe_:=nx KE
def Dj_:Rg:=λE u r t=>
 M.bind (A6 E 116) λv2=>
 ac 2 v2 t
theorem AnR_:RegEq 86 27 FB Mn_ Dj_:={}
def GQ_:Rg:=λE u r t=>
 mG t 0 λv4=>
 cN u r 84 [(some v4)] λv5=>
 M.bind (A6 E 116) λv3=>
 setF 3 v3 t λt1=>
 sT E 116 (some v3) (some v5) λ_=>
 M.pure t1
theorem Xs_:RegEq 86 27 FB QM_ GQ_:={}
def ZE:RdW:=λE call round tm=>
 FD E 116 0 (T.get tm 3) λp0=>
 LD E 27 (some p0.1) λp1=>
 BI E .eql 27 (.tmp 7) (.const (.int .i64 0)) (some p1.1) (some (.int .i64 0)) λp2=>
 PD (some p2.1) λp3=>
 SK p3.1 true (oS (T.get tm 0) λa=>M.pure a) λp4=>
 SK p3.1 true (oS (some p4.1) λa=>kNil a) λp5=>
 SK p3.1 true (oS (some p5.1) λa=>kFld E 152 a 2) λp6=>
 SK p3.1 true (oS (some p6.1) λa=>AE E 3 a) λp7=>
 SK p3.1 true (oS (T.get tm 0) λa=>M.pure a) λp8=>
 SK p3.1 true (oS (some p8.1) λa=>kNil a) λp9=>
 SK p3.1 true (oS (some p9.1) λa=>kFld E 152 a 1) λp10=>
 SK p3.1 true (oS (some p10.1) λa=>AE E 22 a) λp11=>
 SK p3.1 true (oS (seqO [(some p11.1)]) λl=>Bg E .len [22] l) λp12=>
 SK p3.1 true (oS (some p7.1) λa=>oS (some p12.1) λb=>Cl.get (aBin E .lss 3 (.tmp 13) (.tmp 18)) a b) λp13=>
 fJ [p13,p12,p11,p10,p9,p8,p7,p6,p5,p4,p3,p2,p1,p0] tm
theorem Afm_:DrawEq 86 27 FB Ma [0,1,3,7,15,31,63,127,15,271,783,1807,3855,8191,16383] ZE:={}
theorem S9 (E:Env)(call round:Ai)(x6 x7 x8 x9 x10 x11 x12 x13 x14 x15 x16 x17 x18 x19:Value)(tm:T Value)(s:St):AK call round (A5 E FB 27 (hdC Ma)) [x19,x18,x17,x16,x15,x14,x13,x12,x11,x10,x9,x8,x7,x6] tm s=(M.bind (M.on (some x9) λa=>M.on (some x19) λb=>M.on (some (.bool false)) λc=>Ay a b c) λv20=>setT 20 v20 tm λtm1=>M.pure tm1) s:=X
theorem R9:Aj RS=some 20:=X
def NV_:Rg:=λE u r t=>
 mG t 0 λv21=>
 kN v21 λv22=>
 fD E 152 2 (some v22) λv23=>
 lD E 3 (some v23) λv24=>
 M.bind (oS (seqP [(0,(some (.int .i64 4))),(1,(some v24))]) λps=>Br E 116 ps) λv25=>
 sT E 116 (T.get t 3) (some v25) λ_=>
 M.pure t
theorem AkL_:RegEq 86 27 FB Ms_ NV_:={}
def LZ_:Rg:=λE u r t=>
 lD E 116 (T.get t 3) λv26=>
 sT E 116 (T.get t 2) (some v26) λ_=>
 M.pure t
theorem AoG_:RegEq 86 27 FB KE LZ_:={}
theorem WG_: ∃k,Qe_= .code .ret::k:=⟨Qe_.tail,X⟩
