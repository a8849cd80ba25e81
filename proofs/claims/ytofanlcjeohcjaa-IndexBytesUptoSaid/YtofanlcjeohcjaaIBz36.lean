import Derived.Test.YtofanlcjeohcjaaIBz35
noncomputable section
namespace Go.Proofs.Ytofanlcjeohcjaa.Am
open Go.RowKit
section
variable {vf:Value}{fs:List FdI}{Q:Value×FrameMode->St->Prop}{s0:St}
end
section
variable {vf vx vs w:Value}{fs:List FdI}{xs:List PkI}{sc:List Int}{Q:Value×FrameMode->St->Prop}{s0:St}
end
theorem ON_:envS.orc.get 35=some (PM (.bool true)):=X
section
variable {vf vx:Value}{fs:List FdI}{xs:List PkI}{Q:Value×FrameMode->St->Prop}{s0:St}
end
def CP:Nat:=Ao Try.f9
abbrev Yz_:Nat:=131
def Ps_:Code:=Try.f9.body.getD .skip
theorem Rz:envS.fn.get 9=some Try.f9:=X
theorem Atm_:G4 envS 9 131 CP Ps_:=λh=>
 aK Rz (h _ X X X X)
theorem Ry_:Try.f9.results.toList=[.tmp 8]:=X
def PD_:List Item:=skim 64 [.code Ps_]
def Sv_:=nx PD_
def LW:=nx Sv_
def PJ_:=bt LW
def U6:=bf LW
def XT:=nx PJ_
def Jg_:=nx U6
def Td:=nx Jg_
def HV_:=nx Td
def UF_:=nx HV_
def AE_:=nx UF_
def Tb_:=nx AE_
def Yv:=nx Tb_
def Xk:=nx Yv
def UV:=nx Xk
def PP_:=nx UV
def UG_:=nx PP_
def UK:Rg:=λE u r t=>
 sV 8 (.bool false) t
theorem Awe_:RegEq 9 131 CP PD_ UK:={}
def OW_:Rg:=λE u r t=>
 mG t 0 λv24=>
 cN u r 34 [(some v24),(some (.int .i64 520)),(some (.int .i64 300))] λv25=>
 mv (some v25) λv26=>
 sK v26 false (pG t 1) λv27=>
 sK v26 false (oS (seqO [(some v27)]) λl=>Bg E .len [22] l) λv28=>
 sK v26 false (oS (some v28) λa=>oS (some (.int .i64 3000)) λb=>Cl.get (aBin E .gtr 3 (.tmp 28) (.const (.int .i64 3000))) a b) λv29=>
 ae v26 (.bool true) v29 λv30=>
 mv (some v30) λv31=>
 sK v31 false (pG t 3) λv32=>
 sK v31 false (oS (seqO [(some v32)]) λl=>Bg E .len [9] l) λv33=>
 sK v31 false (oS (some v33) λa=>oS (some (.int .i64 100)) λb=>Cl.get (aBin E .gtr 3 (.tmp 33) (.const (.int .i64 100))) a b) λv34=>
 ae v31 (.bool true) v34 λv35=>
 ac 35 v35 t
theorem Akv_:RegEq 9 131 CP Sv_ OW_:={}
theorem Zv:Aj LW=some 35:=X
def At_:Rg:=λE u r t=>
 cN u r 35 [] λv36=>
 sV 8 v36 t
theorem Abl_:RegEq 9 131 CP PJ_ At_:={}
def TJ:Rg:=λE u r t=>
 mG t 0 λv37=>
 cN u r 36 [(some v37)] λv38=>
 mG t 1 λv39=>
 cN u r 16 [(some v39)] λv40=>
 mv (some v38) λv9=>
 setF 9 v9 t λt1=>
 sV 10 v40 t1
theorem Ajz_:RegEq 9 131 CP U6 TJ:={}
theorem AvO_: ∃k,XT= .code .ret::k:=⟨XT.tail,X⟩
def Ln_:Rg:=λE u r t=>
 mG t 9 λv42=>
 cN u r 37 [(some v42)] λv43=>
 mv (some v43) λv41=>
 eX 0 (some v41) λv44=>
 eX 1 (some v41) λv45=>
 mv (some v44) λv11=>
 setF 11 v11 t λt1=>
 sV 12 v45 t1
theorem AiA_:RegEq 9 131 CP Jg_ Ln_:={}
def SB_:Rg:=λE u r t=>
 mG t 0 λv47=>
 cN u r 38 [(some v47)] λv48=>
 mv (some v48) λv46=>
 eX 0 (some v46) λv49=>
 eX 1 (some v46) λv50=>
 mv (some v49) λv13=>
 setF 13 v13 t λt1=>
 sV 14 v50 t1
theorem AgD_:RegEq 9 131 CP Td SB_:={}
def FU_:Rg:=λE u r t=>
 mG t 10 λv52=>
 cN u r 39 [(some v52)] λv53=>
 mv (some v53) λv51=>
 eX 0 (some v51) λv54=>
 eX 1 (some v51) λv55=>
 mv (some v54) λv15=>
 setF 15 v15 t λt1=>
 sV 16 v55 t1
theorem Acn_:RegEq 9 131 CP HV_ FU_:={}
def Nv_:Rg:=λE u r t=>
 mG t 1 λv57=>
 cN u r 40 [(some v57)] λv58=>
 mv (some v58) λv56=>
 eX 0 (some v56) λv59=>
 eX 1 (some v56) λv60=>
 mv (some v59) λv17=>
 setF 17 v17 t λt1=>
 sV 18 v60 t1
theorem Aek_:RegEq 9 131 CP UF_ Nv_:={}
def LV_:Rg:=λE u r t=>
 mG t 3 λv62=>
 cN u r 41 [(some v62)] λv63=>
 mv (some v63) λv61=>
 eX 0 (some v61) λv64=>
 eX 1 (some v61) λv65=>
 mv (some v64) λv19=>
 setF 19 v19 t λt1=>
 sV 20 v65 t1
theorem Aum_:RegEq 9 131 CP AE_ LV_:={}
def AV_:Rg:=λE u r t=>
 mG t 3 λv67=>
 cN u r 42 [(some v67)] λv68=>
 mv (some v68) λv66=>
 eX 0 (some v66) λv69=>
 eX 1 (some v66) λv70=>
 mv (some v69) λv21=>
 setF 21 v21 t λt1=>
 sV 22 v70 t1
theorem All_:RegEq 9 131 CP Tb_ AV_:={}
def Bn_:Rg:=λE u r t=>
 mG t 9 λv71=>
 cN u r 43 [(some v71)] λv72=>
 mG t 0 λv73=>
 cN u r 44 [(some v73)] λv74=>
 bT E .eql 27 72 74 v72 v74 λv75=>
 mv (some v75) λv76=>
 sK v76 true (pG t 12) λv77=>
 sK v76 true (pG t 14) λv78=>
 sK v76 true (oS (some v77) λa=>oS (some v78) λb=>Cl.get (aBin E .eql 27 (.tmp 77) (.tmp 78)) a b) λv79=>
 ae v76 v79 (.bool false) λv80=>
 mv (some v80) λv81=>
 sK v81 true (pG t 11) λv82=>
 sK v81 true (pG t 13) λv83=>
 sK v81 true (M.on (some (.func (.func 19) #[] #[])) λf=>M.on (seqO [(some v82),(some v83)]) λl=>Ba u r f l) λv84=>
 ae v81 v84 (.bool false) λv85=>
 mv (some v85) λv86=>
 sK v86 true (pG t 16) λv87=>
 sK v86 true (pG t 18) λv88=>
 sK v86 true (oS (some v87) λa=>oS (some v88) λb=>Cl.get (aBin E .eql 27 (.tmp 87) (.tmp 88)) a b) λv89=>
 ae v86 v89 (.bool false) λv90=>
 mv (some v90) λv91=>
 sK v91 true (pG t 15) λv92=>
 sK v91 true (pG t 17) λv93=>
 sK v91 true (M.on (some (.func (.func 45) #[] #[])) λf=>M.on (seqO [(some v92),(some v93)]) λl=>Ba u r f l) λv94=>
 ae v91 v94 (.bool false) λv95=>
 sV 23 v95 t
theorem Axe_:RegEq 9 131 CP Yv Bn_:={}
def VW_:Rg:=λE u r t=>
 mG t 11 λv96=>
 cN u r 22 [(some v96)] λv97=>
 M.pure t
theorem Yx_:RegEq 9 131 CP Xk VW_:={}
def Gw_:Rg:=λE u r t=>
 mG t 15 λv98=>
 cN u r 46 [(some v98)] λv99=>
 M.pure t
theorem AcU_:RegEq 9 131 CP UV Gw_:={}
def SB:Rg:=λE u r t=>
 mG t 23 λv100=>
 mv (some v100) λv101=>
 sK v101 true (pG t 2) λv102=>
 sK v101 true (M.on (some (.func (.func 47) #[] #[])) λf=>M.on (seqO [(some v102)]) λl=>Ba u r f l) λv103=>
 sK v101 true (pG t 2) λv104=>
 sK v101 true (M.on (some (.func (.func 48) #[] #[])) λf=>M.on (seqO [(some v104)]) λl=>Ba u r f l) λv105=>
 sK v101 true (oS (some v103) λa=>oS (some v105) λb=>Cl.get (aBin E .eql 9 (.tmp 103) (.tmp 105)) a b) λv106=>
 ae v101 v106 (.bool false) λv107=>
 mv (some v107) λv108=>
 sK v108 true (pG t 19) λv109=>
 sK v108 true (pG t 21) λv110=>
 sK v108 true (oS (some v109) λa=>oS (some v110) λb=>Cl.get (aBin E .eql 3 (.tmp 109) (.tmp 110)) a b) λv111=>
 ae v108 v111 (.bool false) λv112=>
 mv (some v112) λv113=>
 sK v113 true (pG t 20) λv114=>
 sK v113 true (pG t 22) λv115=>
 sK v113 true (oS (some v114) λa=>oS (some v115) λb=>Cl.get (aBin E .eql 4 (.tmp 114) (.tmp 115)) a b) λv116=>
 ae v113 v116 (.bool false) λv117=>
 mv (some v117) λv118=>
 sK v118 true (pG t 9) λv119=>
 sK v118 true (pG t 0) λv120=>
 sK v118 true (M.on (some (.func (.func 45) #[] #[])) λf=>M.on (seqO [(some v119),(some v120)]) λl=>Ba u r f l) λv121=>
 ae v118 v121 (.bool false) λv122=>
 mv (some v122) λv123=>
 sK v123 true (pG t 10) λv124=>
 sK v123 true (pG t 1) λv125=>
 sK v123 true (M.on (some (.func (.func 23) #[] #[])) λf=>M.on (seqO [(some v124),(some v125)]) λl=>Ba u r f l) λv126=>
 ae v123 v126 (.bool false) λv127=>
 mv (some v127) λv128=>
 sK v128 true (M.on (some (.func (.func 35) #[] #[])) λf=>M.on (seqO []) λl=>Ba u r f l) λv129=>
 ae v128 v129 (.bool false) λv130=>
 sV 8 v130 t
theorem Aiy_:RegEq 9 131 CP PP_ SB:={}
theorem Avb_: ∃k,UG_= .code .ret::k:=⟨UG_.tail,X⟩
theorem Aeb_ (a b:Bool)(s:St):Cl.get (aBin envS .eql 4 (.tmp 114) (.tmp 115)) (.bool a) (.bool b) s= .some (.bool (a==b)) s:=by
 cases a<;>cases b<;>kernel_rfl
theorem Apk_ {s:St}{a b:Bool}(Q:Value->St->Prop):W (Cl.get (aBin envS .eql 4 (.tmp 114) (.tmp 115)) (.bool a) (.bool b)) s Q=Q (.bool (a==b)) s:=AD (Aeb_ a b s)
def ByO (s:St)(x:Value)(r:List Nat)(n0:Nat):Prop:=(x= .slice none 0 0/\r=[])\/ ∃nb,MkG s x r nb/\0<r.length/\r.length<=700000/\n0<=nb
theorem ByO.bs {s:St}{x:Value}{r:List Nat}{n0:Nat}(h:ByO s x r n0):Bs s x r:=by
 rcases h with h|⟨nb,h,_,h2,_⟩
 ·exact .inl h
 ·exact(h.bn J).bs
theorem ByO.ext0 {F:Nat->Prop}{s s':St}{x:Value}{r:List Nat}{n0:Nat}(h:ByO s x r n0)(e:Ext F Non s s'):ByO s' x r n0:=by
 rcases h with h|⟨nb,h,h1⟩
 ·exact .inl h
 ·exact .inr ⟨nb,h.ext e λ_ _=>id,h1⟩
def bytR (ps:List PkI):List Nat:=if AY ps=0 then gput (Cs (ps.map PkI.key))else []
theorem AdG_ {os ps:List PkI}(h:os.map PkI.key=ps.map PkI.key):bytR os=bytR ps:=by
 unfold bytR
 rw[H4 h,h]
theorem AfA_ {n:Nat}{vp:Value}{ps:List PkI}{s:St}(hb:s.lim<=s.next)(hp:PkR s vp ps)(hby: ∀p∈ps,∀h∈p.hs,Byt h.1)(hl:ps.length<=1000000)(ht:Ar ps<=10000000)(hn:800000000<=n):
  W (Ac envS (runF envS n) 37 [vp]) s λu s1=> ∃x,u= .tuple #[x, .int .i64 (AY ps)]/\Ext Any Non s s1/\ByO s1 x (bytR ps) s.next:=by
 refine Aug_ hb hp hby hl ht J (λhc s1 x1=>⟨_,rfl,x1, .inl ⟨rfl, ?_⟩⟩) λhc s1 w nb x1 hw hnb=>⟨w,by rw[hc],x1, .inr ⟨nb, ?_, ?_, ?_,hnb⟩⟩
 ·unfold bytR;rw[if_neg hc]
 ·unfold bytR;rw[if_pos hc];exact hw
 ·unfold bytR;rw[if_pos hc,Kr];omega
 ·obtain⟨_,_,_,c4⟩:=Jl hc hp.h16
  unfold bytR;rw[if_pos hc,Kr];omega
theorem Yr_ {n:Nat}{vp:Value}{ps:List PkI}{s:St}(hb:s.lim<=s.next)(hp:PkR s vp ps)(hby: ∀p∈ps,∀h∈p.hs,Byt h.1)(hl:ps.length<=1000000)(ht:Ar ps<=10000000)(hn:800000000<=n):
  W (Ac envS (runF envS n) 38 [vp]) s λu s1=> ∃x,u= .tuple #[x, .int .i64 (AY ps)]/\Ext Any Non s s1/\Bs s1 x (bytR ps):=by
 refine Ait_ hb hp hby hl ht hn (λhc s1 x1=>⟨_,rfl,x1, .inl ⟨rfl, ?_⟩⟩) λhc s1 w b x1 hw hz hnb=>⟨w,by rw[hc],x1, ?_⟩
 ·unfold bytR;rw[if_neg hc]
 ·unfold bytR;rw[if_pos hc];exact(hw.bn (by rw[Kr];omega)).bs
def RdO (b:List Nat)(os:List PkI)(h:Int):Prop:=(h=0/\IxOk b (os.map PkI.key)/\AY os=0)\/(h=4/\os=[]/\ ∀os':List PkI,AY os'=0-> ¬IxOk b (os'.map PkI.key))
theorem RdO.same {b:List Nat}{os os':List PkI}{h h':Int}(r:RdO b os h)(r':RdO b os' h'):h=h'/\os.map PkI.key=os'.map PkI.key:=by
 rcases r with⟨rfl,i1,c1⟩|⟨rfl,rfl,n1⟩<;>rcases r' with⟨rfl,i2,c2⟩|⟨rfl,rfl,n2⟩
 ·refine⟨rfl, ?_⟩
  have:=i1.2.symm.trans i2.2
  exact(Prod.mk.inj this).1
 ·exact absurd i1 (n2 _ c1)
 ·exact absurd i2 (n1 _ c2)
 ·exact⟨rfl,rfl⟩
theorem Axy_ {n:Nat}{v:Value}{l:List Nat}{s:St}(hb:s.lim<=s.next)(hB:Bs s v l)(hby:Byt l)(hz:l.length<=900000)(hn:410000000<=n):
  W (Ac envS (runF envS n) 39 [v]) s λu s1=> ∃vo os h bo,u= .tuple #[vo, .int .i64 h]/\Ext Any Non s s1/\PkR s1 vo os/\PkW s.next s1 os vo bo/\(∀x,PkF vo os x->s.next<=x)/\os.length<=500/\Ar os<=20000/\RdO l os h:=by
 refine Aax_ hb hB hby hz hn (λos vo s1 hi hc x1 hr hF hl ht ⟨bo,hw⟩=>⟨vo,os,0,bo,rfl,x1,hr,hw,hF,hl, ?_, .inl ⟨rfl,hi,hc⟩⟩) λs1 hno x1=>⟨.slice none 0 0,[],4,s.next,rfl,x1,⟨.inl ⟨rfl,rfl⟩,λp hp=>(by cases hp),λp hp=>(by cases hp)⟩,⟨.inl ⟨rfl,rfl,rfl⟩,Nat.le_refl _,λo ho=>(by cases ho),λo ho=>(by cases ho),List.Pairwise.nil⟩,λx hx=> ?_,Nat.zero_le _,Nat.zero_le _, .inr ⟨rfl,rfl,hno⟩⟩
 ·exact(Jl hc hr.h16).2.1
 ·rcases hx with hx|⟨p,hp,_⟩
  ·exact hx.elim
  ·cases hp
theorem AqZ_ {n:Nat}{v:Value}{l:List Nat}{s:St}(hb:s.lim<=s.next)(hB:Bs s v l)(hby:Byt l)(hz:l.length<=900000)(hn:1000000000<=n):
  W (Ac envS (runF envS n) 40 [v]) s λu s1=> ∃vo os h,u= .tuple #[vo, .int .i64 h]/\Ext Any Non s s1/\PkR s1 vo os/\RdO l os h:=by
 refine Ajv_ hb hB hby hz hn (λos vo s1 hi hc x1 hr hF hl ht=>⟨vo,os,0,rfl,x1,hr, .inl ⟨rfl,hi,hc⟩⟩) λs1 hno x1=>⟨.slice none 0 0,[],4,rfl,x1,⟨.inl ⟨rfl,rfl⟩,λp hp=>(by cases hp),λp hp=>(by cases hp)⟩, .inr ⟨rfl,rfl,hno⟩⟩
theorem PkW.ext {F G:Nat->Prop}{n0:Nat}{s s':St}{os:List PkI}{vo:Value}{bo:Nat}(h:PkW n0 s os vo bo)(x:Ext F G s s')(hG: ∀y,n0<=y-> ¬G y):PkW n0 s' os vo bo:=
 ⟨h.mo.ext x λy hy=>hG y (by have:=hy.2.1;have:=h.no;omega),h.no,λo ho=>(h.ow o ho).ext x λy hy=>hG y (h.lo o ho y hy).1,h.lo,h.sp⟩
theorem Yn_ {n n0 n1:Nat}{x:Value}{r:List Nat}{s:St}{Q:Value->St->Prop}(hb:s.lim<=s.next)(h:ByO s x r n0)(hn1: ∀nb,MkG s x r nb->nb+r.length<n1)(q: ∀s1,Ext Any (λy=>n0<=y/\y<n1) s s1->Q (.tuple #[]) s1):W (Ac envS (runF envS n) 22 [x]) s Q:=by
 rcases h with⟨rfl,_⟩|⟨nb,h,h1,h2,h3⟩
 ·refine W.orc (m:=EZ) X (W.pure ?_)
  exact q s (Ext.refl s)
 ·refine AjW_ hb h h1 J λs1 x1=>q s1 (x1.weak hb (λ_ _ _=>trivial) λy _ hy=> ?_)
  have a:=hy.1
  have b:=hy.2
  have c:=hn1 nb h
  omega
theorem Ahz_ {n:Nat}{vl vb:Value}{ps:List PkI}{b:List Nat}{m:Int}{a:ByteArray}{s:St}(hb:s.lim<=s.next)(hl:PkR s vl ps)(hid: ∀p∈ps,∀h∈p.hs,Byt h.1)(hzp: ∀p∈ps,p.hs.length<=1048576)(hB:Bs s vb b)(hbb:Byt b)(hbz:b.length<=1048576)(hm1: -9223372036854775808<=m)(hm2:m<=9223372036854775807)(hn:2000000000<=n):
  W (Ac envS (runF envS n) 9 [vl,vb, .int .i64 m, .string a]) s λu _=>u= .bool true:=by
 have hb0:(s.cxN cxN).lim<=(s.cxN cxN).next:=hb
 refine Atm_ λtm h0 h1 h2 h3=> ?_
 have hl0:PkR (s.cxN cxN) vl ps:=hl.same rfl rfl
 have hB0:Bs (s.cxN cxN) vb b:=hB.same rfl rfl
 refine Awe_.u ?_
 simp only[UK,RR,SS,Nat.reduceEqDiff,reduceCtorEq, ↓reduceIte]
 have short: ∀(n':Nat) (tm':T Value) (s':St) (td':List Item),20<=n'->skim 64 td'=LW->s'.cx=cxN->T.get tm' 35=some (.bool true)->
   W (runF envS n' ⟨9,Yz_,CP,tm',td', .run, .normal,none⟩) s' λp s1=>p.1= .bool true:=by
  intro n' tm' s' td' hn' hT' hc g35
  refine aH Zv ?_ hT' g35
  refine Abl_.u ?_
  simp only[At_,RR,SS,Nat.reduceEqDiff,reduceCtorEq, ↓reduceIte]
  refine W.orc ON_ (W.pure ?_)
  exact aB (rs:=[8]) (vs:=[.bool true]) rfl (.inl AvO_) J Rz Ry_ hc Y rfl
 refine Akv_.u ?_
 simp only[OW_,RR,SS,Nat.reduceEqDiff,reduceCtorEq, ↓reduceIte,Nat.reduceEqDiff, ↓reduceIte,h0,h1]
 refine ApL_ (k:=520) (m:=300) hb0 hl0 hzp J J λs1 x1=> ?_
 have y1:Ext Any Non (s.cxN cxN) s1:=x1
 cases hbig:bigP ps 520 300 with
 |true=>
  simp only[SS,Nat.reduceEqDiff,reduceCtorEq, ↓reduceIte]
  exact short _ _ s1 _ J rfl y1.cx Y
 |false=>
 have hps:ps.length<=520:=by
  unfold bigP at hbig
  rw[Bool.or_eq_false_iff]at hbig
  have:=of_decide_eq_false hbig.1
  omega
 have htot:Ar ps<=300:=by
  unfold bigP at hbig
  rw[Bool.or_eq_false_iff]at hbig
  have:=of_decide_eq_false hbig.2
  rw[List.take_of_length_le J]at this
  omega
 have hz3: ∀p∈ps,p.hs.length<=300:=λp hp=>by
  obtain⟨i,hi⟩:=List.getElem?_of_mem hp
  obtain⟨k1,k2⟩:=List.getElem?_eq_some_iff.1 hi
  have:=Ex k1
  rw[k2]at this
  omega
 simp only[SS,Nat.reduceEqDiff,reduceCtorEq, ↓reduceIte,Nat.reduceEqDiff, ↓reduceIte,h1]
 rw[hB0.len' AH]
 simp only[SS,Nat.reduceEqDiff,reduceCtorEq, ↓reduceIte,Ad,Ah,Ab,Ae,Ak,An,Al,Ag]
 by_cases hb3:3000<b.length
 ·have ed:decide ((3000:Int)<((b.length:Nat):Int))=true:=decide_eq_true J
  simp only[SS,ed,Nat.reduceEqDiff,reduceCtorEq, ↓reduceIte]
  exact short _ _ s1 _ J rfl y1.cx Y
 have ed:decide ((3000:Int)<((b.length:Nat):Int))=false:=decide_eq_false J
 simp only[SS,ed,Nat.reduceEqDiff,reduceCtorEq, ↓reduceIte,Ad,Ah,Ab,Ae,Ak,An,Al,Ag,Nat.reduceEqDiff, ↓reduceIte,h3,Fm CB]
 by_cases ha:100<a.size
 ·exact short _ _ s1 _ J rfl y1.cx (by simp[T.get_set];omega)
 refine aE Zv ?_
 refine Ajz_.u ?_
 simp only[TJ,RR,SS,Nat.reduceEqDiff,reduceCtorEq, ↓reduceIte,Nat.reduceEqDiff, ↓reduceIte,h0,h1]
 refine Ahh_ (y1.bnd hb0) (hl0.ext0 y1) (λp hp=>by have:=hz3 p hp;omega) J J λs2 vin osn x2 hin hk=> ?_
 have y2:=y1.then0 x2 hb0
 refine QC_ (y2.bnd hb0) (hB0.ext0 y2) J J λs3 x3 oL hL=> ?_
 have y3:=y2.then0 x3 hb0
 have b3:=y3.bnd hb0
 have hU:b.length+3<capU:=A0 J
 have hlv:Bs s3 (.slice (some ⟨s2.next,0,none⟩) b.length (b.length+3)) b:= .inr ⟨s2.next,0,b.length+3,rfl,by rw[Nat.mod_eq_of_lt hU];omega,ER hU,λi u e=>(oL i u (by
  unfold C9 u8l
  rw[List.map_append,List.getElem?_append_left (List.getElem?_eq_some_iff.1 e).1]
  exact e)).at'⟩
 have hol:osn.length=ps.length:=by
  have:=congrArg List.length hk
  simpa using this
 have hto:Ar osn=Ar ps:=(OQ osn ps hk).2.1
 have hzo: ∀p∈osn,p.hs.length<=300:=λp hp=>by
  obtain⟨i,hi⟩:=List.getElem?_of_mem hp
  obtain⟨k1,k2⟩:=List.getElem?_eq_some_iff.1 hi
  have:=Ex k1
  rw[k2]at this
  omega
 have hido: ∀p∈osn,∀h∈p.hs,Byt h.1:=λp hp h hh=>by
  have:p.key∈ps.map PkI.key:=by rw[<-hk];exact List.mem_map_of_mem hp
  obtain⟨q,hq,e⟩:=List.mem_map.1 this
  have e2:q.hs=p.hs:=congrArg (λk=>k.2.2) e
  exact hid q hq h (by rw[e2];exact hh)
 have hin3:=hin.ext0 x3
 refine AiA_.u ?_
 simp only[Ln_,RR,SS,Nat.reduceEqDiff,reduceCtorEq, ↓reduceIte,Nat.reduceEqDiff, ↓reduceIte]
 refine W.mono (AfA_ b3 hin3 hido J J J) ?_
 rintro _ s4 ⟨x,rfl,x4,hX⟩
 rw[H4 hk]
 rw[AdG_ hk]at hX
 have y4:=y3.then0 x4 hb0
 have n34:s3.next<=s4.next:=x4.nxt
 rw[A3 (k:=0) rfl,A3 (k:=1) rfl]
 refine AgD_.u ?_
 simp only[SB_,RR,SS,Nat.reduceEqDiff,reduceCtorEq, ↓reduceIte,Nat.reduceEqDiff, ↓reduceIte,h0]
 refine W.mono (Yr_ (y4.bnd hb0) (hl0.ext0 y4) hid J J J) ?_
 rintro _ s5 ⟨z,rfl,x5,hZ⟩
 have y5:=y4.then0 x5 hb0
 have n45:s4.next<=s5.next:=x5.nxt
 rw[A3 (k:=0) rfl,A3 (k:=1) rfl]
 have z35:=x4.then0 x5 b3
 refine Acn_.u ?_
 simp only[FU_,RR,SS,Nat.reduceEqDiff,reduceCtorEq, ↓reduceIte,Nat.reduceEqDiff, ↓reduceIte]
 refine W.mono (Axy_ (y5.bnd hb0) (hlv.ext0 z35) hbb J J) ?_
 rintro _ s6 ⟨vp,os,e,bo,rfl,x6,hP,hW,hF,hl5,ht5,hR⟩
 have y6:=y5.then0 x6 hb0
 rw[A3 (k:=0) rfl,A3 (k:=1) rfl]
 refine Aek_.u ?_
 simp only[Nv_,RR,SS,Nat.reduceEqDiff,reduceCtorEq, ↓reduceIte,Nat.reduceEqDiff, ↓reduceIte,h1]
 refine W.mono (AqZ_ (y6.bnd hb0) (hB0.ext0 y6) hbb J J) ?_
 rintro _ s7 ⟨vq,os2,e2,rfl,x7,hP2,hR2⟩
 obtain⟨rfl,hkk⟩:=hR.same hR2
 have y7:=y6.then0 x7 hb0
 rw[A3 (k:=0) rfl,A3 (k:=1) rfl]
 refine Aum_.u ?_
 simp only[LV_,RR,SS,Nat.reduceEqDiff,reduceCtorEq, ↓reduceIte,Nat.reduceEqDiff, ↓reduceIte,h3]
 refine AnQ_ J ?_
 rw[A3 (k:=0) rfl,A3 (k:=1) rfl]
 refine All_.u ?_
 simp only[AV_,RR,SS,Nat.reduceEqDiff,reduceCtorEq, ↓reduceIte,Nat.reduceEqDiff, ↓reduceIte,h3]
 refine Adj_ (y7.bnd hb0) J λs8 x8=> ?_
 have y8:=y7.then0 x8 hb0
 rw[A3 (k:=0) rfl,A3 (k:=1) rfl]
 have z38:=((z35.then0 x6 b3).then0 x7 b3).then0 x8 b3
 refine Axe_.u ?_
 simp only[Bn_,RR,SS,Nat.reduceEqDiff,reduceCtorEq, ↓reduceIte,Nat.reduceEqDiff, ↓reduceIte,h0]
 refine M1 (y8.bnd hb0) (hin3.ext0 z38) J J J λs9 x9=> ?_
 have y9:=y8.then0 x9 hb0
 have z39:=z38.then0 x9 b3
 rw[H4 hk]
 refine Rb (y9.bnd hb0) (hl0.ext0 y9) J J J λs10 x10=> ?_
 have y10:=y9.then0 x10 hb0
 have z310:=z39.then0 x10 b3
 have b10:=y10.bnd hb0
 have z410:Ext Any Non s4 s10:=((((x5.then0 x6 (y4.bnd hb0)).then0 x7 (y4.bnd hb0)).then0 x8 (y4.bnd hb0)).then0 x9 (y4.bnd hb0)).then0 x10 (y4.bnd hb0)
 have z510:Ext Any Non s5 s10:=(((x6.then0 x7 (y5.bnd hb0)).then0 x8 (y5.bnd hb0)).then0 x9 (y5.bnd hb0)).then0 x10 (y5.bnd hb0)
 have z610:Ext Any Non s6 s10:=((x7.then0 x8 (y6.bnd hb0)).then0 x9 (y6.bnd hb0)).then0 x10 (y6.bnd hb0)
 have z710:Ext Any Non s7 s10:=(x8.then0 x9 (y7.bnd hb0)).then0 x10 (y7.bnd hb0)
 simp only[SS,Nat.reduceEqDiff,reduceCtorEq, ↓reduceIte,Ad,Ah,Ab,Ae,Ak,An,Al,Ag,decide_true,Nat.reduceEqDiff, ↓reduceIte]
 refine IE_ b10 (hX.ext0 z410).bs (hZ.ext0 z510) J λs11 x11 m11 n11=> ?_
 have y11:=y10.then0 x11 hb0
 simp only[SS,Nat.reduceEqDiff,reduceCtorEq, ↓reduceIte,Ad,Ah,Ab,Ae,Ak,An,Al,Ag,decide_true,Nat.reduceEqDiff, ↓reduceIte]
 have hzos: ∀p∈os,p.hs.length<=20000:=λp hp=>by
  obtain⟨i,hi⟩:=List.getElem?_of_mem hp
  obtain⟨k1,k2⟩:=List.getElem?_eq_some_iff.1 hi
  have:=Ex k1
  rw[k2]at this
  omega
 refine GK_ (N:=20000) (y11.bnd hb0) ((hP.ext0 z610).ext0 x11) ((hP2.ext0 z710).ext0 x11) hkk hzos al J J λs12 x12=> ?_
 have y12:=y11.then0 x12 hb0
 have b12:=y12.bnd hb0
 have z1012:=(x11.any b10).then0 x12 b10
 refine Yx_.u ?_
 simp only[VW_,RR,SS,Nat.reduceEqDiff,reduceCtorEq, ↓reduceIte,Nat.reduceEqDiff, ↓reduceIte]
 have hX12:ByO s12 x (bytR ps) s3.next:=(hX.ext0 z410).ext0 z1012
 refine Yn_ (n1:=s5.next) b12 hX12 (λnb hm=> ?_) λs13 x13=> ?_
 ·rcases hX with⟨rfl,_⟩|⟨nb',hm',_,_,_⟩
  ·cases hm.val
  ·have e:nb=nb':=by
    have h1:=hm.val
    rw[hm'.val]at h1
    cases h1
    rfl
   have:=hm'.lt
   omega
 have y13:Ext Any Non (s.cxN cxN) s13:=y12.trans x13 hb0 (λ_ _ _=>trivial) λy hy hg=>by
  have h1:y<s.next:=hy
  have h2:s.next<=s3.next:=y3.nxt
  omega
 have z313:Ext Any (λy=>s3.next<=y) s3 s13:=((z310.then0 z1012 b3).weak b3 (λ_ _ h=>h) λ_ _ h=>h.elim).trans x13 b3 (λ_ _ _=>trivial) λy _ hg=>hg.1
 have b13:=y13.bnd hb0
 refine AcU_.u ?_
 simp only[Gw_,RR,SS,Nat.reduceEqDiff,reduceCtorEq, ↓reduceIte,Nat.reduceEqDiff, ↓reduceIte]
 have hW12:PkW s5.next s12 os vp bo:=(hW.ext0 z610).ext0 z1012
 have hP12:PkR s12 vp os:=(hP.ext0 z610).ext0 z1012
 refine Anf_ (M:=20000) b13 (hP12.ext x13 λy hy hg=>by have:=hF y hy;omega) (hW12.ext x13 λy hy hg=>J) hzos al J (by have:(10*20000+40)*os.length<=(10*20000+40)*500:=Nat.mul_le_mul_left _ hl5;omega) λs14 x14=> ?_
 have y14:Ext Any Non (s.cxN cxN) s14:=y13.trans x14 hb0 (λ_ _ _=>trivial) λy hy hg=>by
  have h1:y<s.next:=hy
  have h2:s.next<=s3.next:=y3.nxt
  omega
 have z314:Ext Any (λy=>s3.next<=y) s3 s14:=z313.trans x14 b3 (λ_ _ _=>trivial) λy _ hg=>J
 have b14:=y14.bnd hb0
 refine Aiy_.u ?_
 simp only[SB,RR,SS,Nat.reduceEqDiff,reduceCtorEq, ↓reduceIte,Nat.reduceEqDiff, ↓reduceIte,h2]
 refine Agb_ b14 hm1 hm2 J λs15 x15=> ?_
 have y15:=y14.then0 x15 hb0
 refine Bl_ (y15.bnd hb0) J λs16 a' ha' x16=> ?_
 have y16:=y15.then0 x16 hb0
 have b16:=y16.bnd hb0
 have z1416:Ext Any Non s14 s16:=(x15.any b14).then0 x16 b14
 rw[R5,AfW_,ha',beq_self_eq_true]
 simp only[SS,Nat.reduceEqDiff,reduceCtorEq, ↓reduceIte,Ad,Ah,Ab,Ae,Ak,An,Al,Ag,Nat.reduceEqDiff, ↓reduceIte,decide_true,h0,Apk_,beq_self_eq_true]
 have hlt2:=hin3.lt
 have z316:Ext Any (λy=>s3.next<=y) s3 s16:=z314.trans z1416 b3 (λ_ _ _=>trivial) λ_ _ h=>h.elim
 have hin16:PkR s16 vin osn:=hin3.ext z316 λy hy hg=>by have:=hlt2 y hy;omega
 have hl16:PkR s16 vl ps:=hl0.ext0 y16
 refine GK_ (N:=300) b16 hin16 hl16 hk hzo al J J λs17 x17=> ?_
 have y17:=y16.then0 x17 hb0
 simp only[SS,Nat.reduceEqDiff,reduceCtorEq, ↓reduceIte,Ad,Ah,Ab,Ae,Ak,An,Al,Ag,Nat.reduceEqDiff, ↓reduceIte,h1]
 have oL17:Row s17 s2.next 0 (u8l (C9 b)):=λi u e=>((oL i u e).ext z316 λhg=>by
  have hi:i<(u8l (C9 b)).length:=(List.getElem?_eq_some_iff.1 e).1
  rw[AQ,Km]at hi
  omega).at'.ext x17 id
 refine Xl_ (y17.bnd hb0) (hB0.ext0 y17) J oL17 J λs18 x18=> ?_
 have y18:=y17.then0 x18 hb0
 simp only[SS,Nat.reduceEqDiff,reduceCtorEq, ↓reduceIte]
 refine W.orc ON_ (W.pure ?_)
 exact aB (rs:=[8]) (vs:=[.bool true]) rfl (.inl Avb_) J Rz Ry_ y18.cx Y rfl
theorem Ajj_:envS.P=Try.prog:=X
theorem AuH_:Try.prog.underlying 22=some (.slice 5):=X
theorem TJ_:Try.prog.underlying 5=some (.int .u8):=X
theorem Ie:Try.prog.underlying 3=some (.int .i64):=X
theorem YO:Try.prog.cellsOf 5=1:=X
open Go.RowKit Go.ChangeShapes Go.WideShapes
theorem Akw_ {H:Type}(d:DataW H):1<=Rows.uptoBulk d:=by
 unfold Rows.uptoBulk
 split<;>omega
theorem Kf_ {H:Type}: ∀l:List (DataW H),l.length<=Rows.uptoBulkAll l
 |[]=>Nat.zero_le _
 |d::l=>by
  unfold Rows.uptoBulkAll
  have:=Akw_ d
  have:=Kf_ l
  rw[List.length_cons]
  omega
mutual
theorem Adf_ {H:Type}{N:Nat}: ∀d:DataW H,Rows.uptoBulk d<=N->lensOk N d
 | .lit (.string l),h=>by
  unfold Rows.uptoBulk at h
  unfold lensOk
  omega
 | .lit (.bool _),_=>by unfold lensOk;trivial
 | .lit (.int _ _),_=>by unfold lensOk;trivial
 | .lit (.float _ _),_=>by unfold lensOk;trivial
 | .lit .nil,_=>by unfold lensOk;trivial
 | .nil,_=>by unfold lensOk;trivial
 | .ptr _,_=>by unfold lensOk;trivial
 | .slice es sp,h=>by
  unfold Rows.uptoBulk at h
  have:=Kf_ es
  unfold lensOk
  exact⟨J,Ku es J⟩
 | .agg ps,h=>by
  unfold Rows.uptoBulk at h
  unfold lensOk
  exact Ku ps J
 | .iface _ _,_=>by unfold lensOk;trivial
 | .map _,_=>by unfold lensOk;trivial
 | .held _,_=>by unfold lensOk;trivial
theorem Ku {H:Type}{N:Nat}: ∀l:List (DataW H),Rows.uptoBulkAll l<=N->F5 N l
 |[],_=>by unfold F5;trivial
 |d::l,h=>by
  unfold Rows.uptoBulkAll at h
  unfold F5
  exact⟨Adf_ d J,Ku l J⟩
end
theorem lens_small {H:Type}{ds:List (DataW H)}(h:Rows.uptoSmall H ds=true): ∀d∈ds,lensOk 1048576 d:=
 Iz (Ku ds (of_decide_eq_true h))
theorem AxF_ {P:Program}{N F:Nat}{s:St}{t e:TypeId}{us:List Value}(ht:P.underlying t=some (.slice e))(he:P.underlying e=some (.int .u8))(hc:P.cellsOf e=1)(h:AI P N s (F+2) t us): ∃v l,us=[v]/\Bs s v l/\Byt l/\l.length<=N:=by
 obtain⟨v,es,rfl,hE,_,hN,ha⟩:=AI.slice ht (by rw[hc];decide) h
 have h1: ∀i,i<es.length-> ∃n:Nat,n<256/\es[i]?=some [.int .u8 (n:Nat)]:=λi hi=>by
  obtain⟨_,hx⟩:=ha _ (List.getElem_mem hi)
  obtain⟨n,e1,e2⟩:=hx.int' he
  have h2:(0:Int)<=n/\n<=255:=by
   have e3:(decide ((0:Int)<=n)&&decide (n<=(255:Int)))=true:=e2
   rw[Bool.and_eq_true]at e3
   exact⟨of_decide_eq_true e3.1,of_decide_eq_true e3.2⟩
  exact⟨n.toNat,J,by rw[List.getElem?_eq_getElem hi,e1,Int.toNat_of_nonneg h2.1]⟩
 obtain⟨l,hl,hp⟩:=H8 h1
 refine⟨v,l,rfl, ?_,λx hx=> ?_,J⟩
 ·rcases hE with⟨rfl,rfl⟩|⟨b,c,rfl,hc1,hc2,hr⟩
  ·exact .inl ⟨rfl,List.eq_nil_of_length_eq_zero hl⟩
  ·rw[hc]at hc2 hr
   refine .inr ⟨b,0,c,by rw[hl],by rw[hl];exact hc1,hc2,λi x e=> ?_⟩
   obtain⟨n,e1,rfl⟩: ∃n,l[i]?=some n/\Value.int .u8 (n:Nat)=x:=by
    rw[List.getElem?_map]at e
    exact Option.map_eq_some_iff.1 e
   have:=hr i _ (hp i n e1).2 0 _ rfl
   rw[Nat.mul_one]at this
   rw[Nat.zero_add]
   exact this
 ·obtain⟨i,hi⟩:=List.getElem?_of_mem hx
  exact(hp i x hi).1
theorem ID_:Try.prog.cellsOf 3=1:=X
attribute [local irreducible] AI
theorem AI.arrayB {P:Program}{N F n:Nat}{s:St}{t e:TypeId}{us:List Value}(hu:P.underlying t=some (.array n e))(h:AI P N s (F+1) t us):us.length=P.cellsOf t/\ ∀i,i<n->AI P N s F e ((us.drop (i*P.cellsOf e)).take (P.cellsOf e)):=by
 unfold AI at h
 rw[hu]at h
 exact h
theorem AxJ_:Try.prog.underlying 26=some (.array 16 5):=X
theorem JA_:Try.prog.cellsOf 26=16:=X
theorem Wo_:Try.prog.underlying 36=some (.slice 35):=X
theorem Yc_:Jx Try.prog 35 [(26,0),(3,16),(3,17)]=true:=X
theorem P3:Try.prog.cellsOf 35=18:=X
theorem Zz_:Try.prog.cellsOf 35<1024:=by rw[P3];decide
theorem Avx_:Try.prog.cellsOf 36=1:=X
theorem AgP_:Try.prog.underlying 55=some (.slice 85):=X
theorem Axf_:Jx Try.prog 85 [(3,0),(3,1),(36,2)]=true:=X
theorem Og:Try.prog.cellsOf 85=3:=X
theorem Ate_:Try.prog.cellsOf 85<1024:=by rw[Og];decide
theorem ZQ_ {us:List Value}{l:List Nat}(hl:l.length=us.length)(h: ∀(i n:Nat),l[i]?=some n->us[i]?=some (Value.int .u8 (n:Nat))):us=u8l l:=by
 apply List.ext_getElem?
 intro i
 unfold u8l
 rw[List.getElem?_map]
 cases hq:l[i]? with
 |none=>
  have:=List.getElem?_eq_none_iff.1 hq
  rw[Option.map_none]
  exact List.getElem?_eq_none_iff.2 J
 |some n=>rw[h i n hq,Option.map_some]
theorem AqR_ {N F:Nat}{s:St}{us:List Value}(h:AI Try.prog N s (F+2) 26 us): ∃id,us=u8l id/\id.length=16/\Byt id:=by
 obtain⟨h1,h2⟩:=h.arrayB AxJ_
 rw[JA_]at h1
 rw[YO]at h2
 obtain⟨id,hl,hp⟩:=H8 (n:=16) (p:=λi (x:Nat)=>us[i]?=some (Value.int .u8 (x:Nat))/\x<256) λi hi=>by
  obtain⟨n,e1,e2⟩:=(h2 i hi).int' TJ_
  have h3:(0:Int)<=n/\n<=255:=by
   have e3:(decide ((0:Int)<=n)&&decide (n<=(255:Int)))=true:=e2
   rw[Bool.and_eq_true]at e3
   exact⟨of_decide_eq_true e3.1,of_decide_eq_true e3.2⟩
  refine⟨n.toNat, ?_,J⟩
  rw[Nat.mul_one]at e1
  have:((us.drop i).take 1)[0]?=some (.int .u8 n):=by rw[e1];rfl
  rw[List.getElem?_take,if_pos al,List.getElem?_drop,Nat.add_zero]at this
  rw[this,Int.toNat_of_nonneg h3.1]
 exact⟨id,ZQ_ J λi n h=>(hp i n h).1,hl,λx hx=>by
  obtain⟨i,hi⟩:=List.getElem?_of_mem hx
  exact(hp i x hi).2⟩
theorem X1 {s:St}{b:Nat}: ∀(hs:List HdI) (o:Nat),(∀h∈hs,h.1.length=16)->(∀i h,hs[i]?=some h->Row s b (o+i*18) (Av h))->Row s b o (A9 hs)
 |[],_,_,_=>λi v e=>by simp[A9]at e
 |h::hs,o,h16,hr=>λi v e=>by
  have e':(Av h++A9 hs)[i]?=some v:=e
  have hl:(Av h).length=18:=BN (h16 h am)
  rcases Nat.lt_or_ge i 18 with hi|hi
  ·rw[List.getElem?_append_left J]at e'
   have:=hr 0 h rfl i v e'
   rwa [Nat.zero_mul]at this
  ·rw[List.getElem?_append_right J,hl]at e'
   have:=X1 hs (o+18) (λx hx=>h16 x (by simp[hx])) (λj g e1=>by
    have:=hr (j+1) g e1
    rwa [show o+(j+1)*18=o+18+j*18 by omega]at this) (i-18) v e'
   rwa [show o+18+(i-18)=o+i by omega]at this
theorem YR {s:St}{b:Nat}: ∀(ps:List PkI) (o:Nat),(∀i p,ps[i]?=some p->Row s b (o+i*3) (pkC p))->Row s b o (pkCs ps)
 |[],_,_=>λi v e=>by simp[pkCs]at e
 |p::ps,o,hr=>λi v e=>by
  have e':(pkC p++pkCs ps)[i]?=some v:=e
  rcases Nat.lt_or_ge i 3 with hi|hi
  ·rw[List.getElem?_append_left (by exact hi)]at e'
   have:=hr 0 p rfl i v e'
   rwa [Nat.zero_mul]at this
  ·rw[List.getElem?_append_right (by exact hi)]at e'
   have:=YR ps (o+3) (λj g e1=>by
    have:=hr (j+1) g e1
    rwa [show o+(j+1)*3=o+3+j*3 by omega]at this) (i-3) v e'
   rwa [show o+3+(i-3)=o+i by omega]at this
theorem Aii_ {N F:Nat}{s:St}{us:List Value}(h:AI Try.prog N s (F+4) 36 us): ∃v hs,us=[v]/\HiR s v hs/\(∀h∈hs,h.1.length=16)/\hs.length<=N/\ ∀h∈hs,Byt h.1:=by
 obtain⟨v,es,rfl,hE,_,hN,ha⟩:=AI.slice (P:=Try.prog) (F:=F+3) (t:=36) (e:=35) Wo_ Zz_ h
 rw[P3]at hE
 have h1: ∀i,i<es.length-> ∃g:HdI,es[i]?=some (Av g)/\g.1.length=16/\Byt g.1:=λi hi=>by
  obtain⟨hx2,hx⟩:=ha _ (List.getElem_mem hi)
  rw[P3]at hx2
  obtain⟨_,hx⟩:=hx.struct Yc_
  have k1:=hx (26,0) am
  have k2:=hx (3,16) am
  have k3:=hx (3,17) am
  simp only[ID_,JA_]at k1 k2 k3
  obtain⟨id,e1,hid,hbt⟩:=AqR_ k1
  obtain⟨a,e2,_⟩:=k2.int' Ie
  obtain⟨z,e3,_⟩:=k3.int' Ie
  refine⟨(id,a,z), ?_,hid,hbt⟩
  rw[List.getElem?_eq_getElem hi]
  generalize es[i]=x at e1 e2 e3 hx2
  congr 1
  rw[List.drop_zero]at e1
  have d1:x=x.take 16++x.drop 16:=(List.take_append_drop 16 x).symm
  have d2:x.drop 16=(x.drop 16).take 1++(x.drop 16).drop 1:=(List.take_append_drop 1 _).symm
  have d3:(x.drop 16).drop 1=(x.drop 17).take 1:=by
   rw[List.drop_drop]
   exact(List.take_of_length_le (by rw[List.length_drop];omega)).symm
  rw[d1,d2,d3,e1,e2,e3]
  rfl
 obtain⟨hs,hl,hp⟩:=H8 h1
 have h16: ∀h∈hs,h.1.length=16:=λg hg=>by
  obtain⟨i,hi⟩:=List.getElem?_of_mem hg
  exact(hp i g hi).2.1
 refine⟨v,hs,rfl, ?_,h16,J,λg hg=>by
  obtain⟨i,hi⟩:=List.getElem?_of_mem hg
  exact(hp i g hi).2.2⟩
 rcases hE with⟨rfl,rfl⟩|⟨b,c,rfl,_,_,hr⟩
 ·exact .inl ⟨rfl,List.eq_nil_of_length_eq_zero hl⟩
 ·exact .inr ⟨b,0,c,by rw[hl],X1 hs 0 h16 λi g e=>by rw[Nat.zero_add];exact hr i _ (hp i g e).1⟩
theorem Adk_ {N F:Nat}{s:St}{us:List Value}(h:AI Try.prog N s (F+6) 55 us): ∃v ps,us=[v]/\PkR s v ps/\ps.length<=N/\(∀p∈ps,p.hs.length<=N)/\ ∀p∈ps,∀h∈p.hs,Byt h.1:=by
 obtain⟨v,es,rfl,hE,_,hN,ha⟩:=AI.slice (P:=Try.prog) (F:=F+5) (t:=55) (e:=85) AgP_ Ate_ h
 rw[Og]at hE
 have h1: ∀i,i<es.length-> ∃p:PkI,es[i]?=some (pkC p)/\HiR s p.v p.hs/\(∀h∈p.hs,h.1.length=16)/\p.hs.length<=N/\ ∀h∈p.hs,Byt h.1:=λi hi=>by
  obtain⟨hx2,hx⟩:=ha _ (List.getElem_mem hi)
  rw[Og]at hx2
  obtain⟨_,hx⟩:=hx.struct Axf_
  have k1:=hx (3,0) am
  have k2:=hx (3,1) am
  have k3:=hx (36,2) am
  simp only[ID_,Avx_]at k1 k2 k3
  obtain⟨n,e1,_⟩:=k1.int' Ie
  obtain⟨z,e2,_⟩:=k2.int' Ie
  obtain⟨w,hs,e3,g1,g2,g3,g4⟩:=Aii_ k3
  refine⟨⟨n,z,w,hs⟩, ?_,g1,g2,g3,g4⟩
  rw[List.getElem?_eq_getElem hi]
  generalize es[i]=x at e1 e2 e3 hx2
  match x,hx2,e1,e2,e3 with
  |[a,b,c],_,e1,e2,e3=>
   cases e1
   cases e2
   cases e3
   rfl
 obtain⟨ps,hl,hp⟩:=H8 h1
 have hm: ∀p∈ps,HiR s p.v p.hs/\(∀h∈p.hs,h.1.length=16)/\p.hs.length<=N/\ ∀h∈p.hs,Byt h.1:=λp hq=>by
  obtain⟨i,hi⟩:=List.getElem?_of_mem hq
  exact(hp i p hi).2
 refine⟨v,ps,rfl,⟨?_,λp hq=>(hm p hq).1,λp hq=>(hm p hq).2.1⟩,J,λp hq=>(hm p hq).2.2.1,λp hq=>(hm p hq).2.2.2⟩
 rcases hE with⟨rfl,rfl⟩|⟨b,c,rfl,_,_,hr⟩
 ·exact .inl ⟨rfl,List.eq_nil_of_length_eq_zero hl⟩
 ·exact .inr ⟨b,0,c,by rw[hl],YR ps 0 λi p e=>by rw[Nat.zero_add];exact hr i _ (hp i p e).1⟩
theorem ZO_:Try.prog.underlying 9=some .string:=X
theorem IS_:Try.f9.params.toList=[55,22,3,9]:=X
theorem AgW_:envS.orc.get 9=none:=X
theorem Arz_:envS.ext.get 9=none:=X
theorem AhI_:[55,22,3,9].all (DO Try.prog 8)=true:=X
theorem Abk_:aggT Try.prog 55=false:=X
theorem Afb_:aggT Try.prog 22=false:=X
theorem AcP_:aggT Try.prog 3=false:=X
theorem XL_:aggT Try.prog 9=false:=X
set_option maxRecDepth 1000000 in
theorem walkBytes {H:Type}{enc:TypeId×Value->H}{w:World}{base:Nat}{args:Array Value}{ds:List (DataW H)}{ps:List MemPlace}(hN: ∀d∈ds,lensOk 1048576 d)(hA:DataW.TrodAll enc Try.prog w 0 (λ_=>true) true Try.f9.params.toList args.toList ds ps)
  (hv: ∀(j:Nat) t v,Try.f9.params[j]?=some t->args[j]?=some v->Value.okWide Try.prog w .any base t v):Calls Try.prog 9 args w λe w'=>e= .returned (.bool true)/\Below w.heap.size w w':=by
 have hv': ∀(j:Nat) t v,[55,22,3,9][j]?=some t->args.toList[j]?=some v->Value.okWide Try.prog w .any base t v:=λj t v e1 e2=>by
  rw[<-IS_]at e1
  rw[Array.getElem?_toList]at e1 e2
  exact hv j t v e1 e2
 rw[IS_]at hA
 have hE:envS.P=Try.prog:=Ajj_
 have h:=Abi_ (E:=envS) (fuel:=2000000001) (f:=9) (F:=8) (N:=1048576) (v:= .bool true) (ts:=[55,22,3,9]) Ajk_ AgW_ Arz_ rfl (by rw[hE];exact hA) (by rw[hE];exact hv') (by rw[hE];exact AhI_) (.inr hN) (λm nx us hus hu=>by
  rw[hE]at hu
  match us,hus,hu with
  |[u0,u1,u2,u3],_,hu=>
   have k0:=(hu 0 _ u0 rfl rfl).one Abk_
   have k1:=(hu 1 _ u1 rfl rfl).one Afb_
   have k2:=(hu 2 _ u2 rfl rfl).one AcP_
   have k3:=(hu 3 _ u3 rfl rfl).one XL_
   obtain⟨v,ps,e0,hp,hpl,hpz,hpb⟩:=Adk_ (F:=2) k0
   obtain⟨vb,b,e1,hB,hby,hbz⟩:=AxF_ AuH_ TJ_ YO k1
   obtain⟨y,e2,hy⟩:=k2.int' Ie
   obtain⟨a,e3⟩:=k3.string' ZO_
   have h3:(-9223372036854775808:Int)<=y/\y<=9223372036854775807:=by
    have e4:(decide ((-9223372036854775808:Int)<=y)&&decide (y<=(9223372036854775807:Int)))=true:=hy
    rw[Bool.and_eq_true]at e4
    exact⟨of_decide_eq_true e4.1,of_decide_eq_true e4.2⟩
   cases e0
   cases e1
   cases e2
   cases e3
   exact Ahz_ (Nat.zero_le _) hp hpb hpz hB hby hbz h3.1 h3.2 J)
 rw[hE]at h
 exact h
