import Derived.Test.YtofanlcjeohcjaaIAg17
import Derived.Test.YtofanlcjeohcjaaIAg14
import Derived.Test.YtofanlcjeohcjaaIAg07
import Derived.KernelRfl
noncomputable section
namespace Go.Proofs.Ytofanlcjeohcjaa.Am
open Go.RowKit
section
variable {P:Program}{E:Env}{s:St}{t:Nat}
def E8 (P:Program)(t:Nat):Bool:=match P.underlying t with
 |some (.struct fs)=>(match fs.toList with
  | [f0, f1, f2] => f0.name != "_" && f1.name != "_" && f2.name != "_" && Nat.beq f0.offset 0 && Nat.beq f1.offset 16 && Nat.beq f2.offset 17 && !P.stoodInHeld t && !P.eqGuardType P.depth t &&
   (match P.underlying f0.type,P.info? f0.type,P.underlying f1.type,P.underlying f2.type with
   |some (.array 16 e),some i0,some (.int .i64),some (.int .i64)=>Nat.beq i0.size 16&&(match P.underlying e,P.info? e with|some (.int .u8),some i=>Nat.beq i.size 1|_,_=>false)
   |_,_,_,_=>false)
  |_=>false)
 |_=>false
theorem Pv_ {cs:Array Value}{off e:Nat}{i:TypeInfo}(hu:P.underlying t=some (.array 16 e))(hi:P.info? t=some i)(hz:i.size=16):semP P (part t cs off)=some (.agg (cs.extract off (off+16))):=by
 unfold part isAgg
 rw[B3,B3,Hk hu]
 simp -implicitDefEqProofs only[Option.bind_some,DM,if_true,B3,Yl hi,hz]
theorem Yn {d:Nat}{a:Int}(hu:P.underlying t=some (.int .i64)):semP P (Op.equalIn (d+1) t (.int .i64 a) (.int .i64 a))=some true:=by
 simp -implicitDefEqProofs only[Op.equalIn,B3,Hk hu,Option.bind_some,if_true,DM,beq_self_eq_true]
theorem Na_ {xo yo:Operand}{cs cs':Array Value}(hg:P.eqGuardType P.depth t=false):semP P (eqGuard .neq t xo yo (.agg cs) (.agg cs'))=some ():=by
 have hp:semP P program=some P:=rfl
 unfold eqGuard
 simp -implicitDefEqProofs only[Bool.not_true,Bool.not_false,Bool.false_eq_true,if_false,if_true,B3,hp,Option.bind_some,hg,DM]
theorem WQ_ (h:E8 P t=true):P.eqGuardType P.depth t=false:=by
 unfold E8 at h
 split at h
 ·split at h
  ·simp -implicitDefEqProofs only[Bool.and_eq_true,bne_iff_ne,ne_eq,Bool.not_eq_true']at h
   exact h.1.2
  ·cases h
 ·cases h
end
theorem NX_:E8 envS.P 35=true:=by kernel_rfl
def Ec:Nat:=Bw Try.f26
abbrev Mh_:Nat:=26
def Ew_:Code:=Try.f26.body.getD .skip
theorem X6:envS.fn.get 26=some Try.f26:=by kernel_rfl
theorem Zi_ {a0 a1:Value}{n:Nat}{s:St}{Q:Value→St→Prop}(h: ∀tm,T.get tm 0=some a0→T.get tm 1=some a1→W (runF envS n ⟨26,26,Ec,tm,[.code Ew_], .run, .normal,none⟩) (s.cxN cxN) fun p s1=>Q p.1 (s1.cxN s.cx)):W (AJ envS (runF envS n) 26 [a0,a1]) s Q:=
 W.call (by kernel_rfl) (by kernel_rfl) X6 (by kernel_rfl) rfl rfl (by simp) (h _ (by kernel_rfl) (by kernel_rfl))
theorem Aej_:Try.f26.results.toList=[.tmp 4]:=by kernel_rfl
def Rr:List Item:=skim 64 [.code Ew_]
def Kq:List Item:=skim 64 Rr.tail
theorem AdI_:skim 64 Rr.tail=Kq:=by kernel_rfl
def KN:List Item:=skim 64 Kq.tail
theorem NW_:skim 64 Kq.tail=KN:=by kernel_rfl
def MI:List Item:=skim 64 (brF KN)
theorem Vm_:skim 64 (brF KN)=MI:=by kernel_rfl
def GW:List Item:=skim 64 MI.tail
theorem AdO_:skim 64 MI.tail=GW:=by kernel_rfl
def GB:List Item:=skim 64 GW.tail
theorem Fd_:skim 64 GW.tail=GB:=by kernel_rfl
def JH:List Item:=skim 64 (brT GB)
theorem JP_:skim 64 (brT GB)=JH:=by kernel_rfl
def Kw:List Item:=skim 64 (brF GB)
theorem Yf_:skim 64 (brF GB)=Kw:=by kernel_rfl
def Lf:List Item:=skim 64 JH.tail
theorem Kv_:skim 64 JH.tail=Lf:=by kernel_rfl
def TJ:List Item:=skim 64 Kw.tail
theorem Iz_:skim 64 Kw.tail=TJ:=by kernel_rfl
def TD:List Item:=skim 64 (brF Lf)
theorem Zq_:skim 64 (brF Lf)=TD:=by kernel_rfl
theorem Xs_:skim 64 TD.tail=GW:=by kernel_rfl
def ES_ (E:Env)(call round:Ag)(tm:T Value):M (T Value):=
 mv (some (.bool false)) fun v4=>
 setF 4 v4 tm fun tm1=>
 M.pure tm1
theorem Sm_:RegEq 26 26 Ec Rr ES_:=⟨by kernel_rfl,fun _ _ _ _ _ _ _ _ _=>by kernel_rfl⟩
def Ft_ (E:Env)(call round:Ag)(tm:T Value):M (T Value):=
 mv (T.get tm 0) fun v6=>
 M.bind (oS (seqO [(some v6)]) fun l=>A7 E .len [36] l) fun v7=>
 mv (T.get tm 1) fun v8=>
 M.bind (oS (seqO [(some v8)]) fun l=>A7 E .len [36] l) fun v9=>
 M.bind (oS (some v7) fun a=>oS (some v9) fun b=>Cl.get (aBin E .neq 3 (.tmp 7) (.tmp 9)) a b) fun v10=>
 setF 10 v10 tm fun tm1=>
 M.pure tm1
theorem Ox_:RegEq 26 26 Ec Kq Ft_:=⟨by kernel_rfl,fun _ _ _ _ _ _ _ _ _=>by kernel_rfl⟩
theorem OU_:Bg KN=some 10:=by kernel_rfl
def Fh_ (E:Env)(call round:Ag)(tm:T Value):M (T Value):=
 mv (some (.int .i64 0)) fun v5=>
 setF 5 v5 tm fun tm1=>
 M.pure tm1
theorem Ie_:RegEq 26 26 Ec MI Fh_:=⟨by kernel_rfl,fun _ _ _ _ _ _ _ _ _=>by kernel_rfl⟩
def QI (E:Env)(call round:Ag)(tm:T Value):M (T Value):=
 mv (T.get tm 5) fun v11=>
 mv (T.get tm 0) fun v12=>
 M.bind (oS (seqO [(some v12)]) fun l=>A7 E .len [36] l) fun v13=>
 M.bind (oS (some v11) fun a=>oS (some v13) fun b=>Cl.get (aBin E .lss 3 (.tmp 11) (.tmp 13)) a b) fun v14=>
 setF 14 v14 tm fun tm1=>
 M.pure tm1
theorem Fr_:RegEq 26 26 Ec GW QI:=⟨by kernel_rfl,fun _ _ _ _ _ _ _ _ _=>by kernel_rfl⟩
theorem Wq:Bg GB=some 14:=by kernel_rfl
def X7 (E:Env)(call round:Ag)(tm:T Value):M ((Rho×T Value)×List OpLog):=
 M.bind (apartO (oS (T.get tm 0) fun a=>M.pure a)) fun p0=>
 M.bind (apartO (oS (T.get tm 5) fun a=>M.pure a)) fun p1=>
 M.bind (apartO (oS (some p0.1) fun a=>oS (some p1.1) fun b=>Bo E 36 a b)) fun p2=>
 M.bind (apartO (oS (some p2.1) fun a=>AE E 35 a)) fun p3=>
 M.bind (apartO (oS (T.get tm 1) fun a=>M.pure a)) fun p4=>
 M.bind (apartO (oS (T.get tm 5) fun a=>M.pure a)) fun p5=>
 M.bind (apartO (oS (some p4.1) fun a=>oS (some p5.1) fun b=>Bo E 36 a b)) fun p6=>
 M.bind (apartO (oS (some p6.1) fun a=>AE E 35 a)) fun p7=>
 M.pure (([p7.1,p6.1,p5.1,p4.1,p3.1,p2.1,p1.1,p0.1],tm),[p7.2,p6.2,p5.2,p4.2,p3.2,p2.2,p1.2,p0.2])
theorem RU_:DrawEq 26 26 Ec JH [0,0,3,7,0,0,48,112,255] X7:=⟨by kernel_rfl,by kernel_rfl,fun _ _ _ _ _ _ _ _ _=>by kernel_rfl⟩
theorem HY_ (E:Env)(call round:Ag)(x17 x18 x19 x20 x21 x22 x23 x24:Value)(tm:T Value)(s:St):BP call round (Ct E Ec 26 (hdC JH)) [x24,x23,x22,x21,x20,x19,x18,x17] tm s=(M.bind (oS (some x20) fun a=>oS (some x24) fun b=>Cl.get (aBin E .neq 35 (.tmp 20) (.tmp 24)) a b) fun v25=>setT 25 v25 tm fun tm1=>M.pure tm1) s:=by kernel_rfl
def Uk (E:Env)(call round:Ag)(tm:T Value):M (T Value):=
 mv (some (.bool true)) fun v4=>
 setF 4 v4 tm fun tm1=>
 M.pure tm1
theorem MV_:RegEq 26 26 Ec Kw Uk:=⟨by kernel_rfl,fun _ _ _ _ _ _ _ _ _=>by kernel_rfl⟩
theorem AeB_:Bg Lf=some 25:=by kernel_rfl
theorem KY_: ∃k,TJ= .code .ret::k:=⟨TJ.tail,by kernel_rfl⟩
def EI_ (E:Env)(call round:Ag)(tm:T Value):M (T Value):=
 mv (T.get tm 5) fun v15=>
 M.bind (oS (some v15) fun a=>oS (some (.int .i64 1)) fun b=>Cl.get (aBin E .add 3 (.tmp 15) (.const (.int .i64 1))) a b) fun v16=>
 mv (some v16) fun v5=>
 setF 5 v5 tm fun tm1=>
 M.pure tm1
theorem SW_:RegEq 26 26 Ec TD EI_:=⟨by kernel_rfl,fun _ _ _ _ _ _ _ _ _=>by kernel_rfl⟩
def ES:Nat:=Bw Try.f33
abbrev QH_:Nat:=16
def Ch_:Code:=Try.f33.body.getD .skip
theorem Eu_:envS.fn.get 33=some Try.f33:=by kernel_rfl
theorem Ko_ {a0 a1:Value}{n:Nat}{s:St}{Q:Value→St→Prop}(h: ∀tm,T.get tm 0=some a0→T.get tm 1=some a1→W (runF envS n ⟨33,16,ES,tm,[.code Ch_], .run, .normal,none⟩) (s.cxN cxN) fun p s1=>Q p.1 (s1.cxN s.cx)):W (AJ envS (runF envS n) 33 [a0,a1]) s Q:=
 W.call (by kernel_rfl) (by kernel_rfl) Eu_ (by kernel_rfl) rfl rfl (by simp) (h _ (by kernel_rfl) (by kernel_rfl))
theorem Rs_:Try.f33.results.toList=[.tmp 4]:=by kernel_rfl
def QT:List Item:=skim 64 [.code Ch_]
def NF:List Item:=skim 64 QT.tail
theorem Lw_:skim 64 QT.tail=NF:=by kernel_rfl
def L7:List Item:=skim 64 NF.tail
theorem Ia_:skim 64 NF.tail=L7:=by kernel_rfl
def Kj:List Item:=skim 64 (brF L7)
theorem Afd_:skim 64 (brF L7)=Kj:=by kernel_rfl
def Na:List Item:=skim 64 Kj.tail
theorem AfL_:skim 64 Kj.tail=Na:=by kernel_rfl
def Ic:List Item:=skim 64 Na.tail
theorem Dq_:skim 64 Na.tail=Ic:=by kernel_rfl
def Pu:List Item:=skim 64 (brT Ic)
theorem AeX_:skim 64 (brT Ic)=Pu:=by kernel_rfl
def GV:List Item:=skim 64 (brF Ic)
theorem Kl_:skim 64 (brF Ic)=GV:=by kernel_rfl
theorem UD_:skim 64 Pu.tail=GV:=by kernel_rfl
def T2:List Item:=skim 64 GV.tail
theorem Nv_:skim 64 GV.tail=T2:=by kernel_rfl
def YN (E:Env)(call round:Ag)(tm:T Value):M (T Value):=
 mv (some (.int .i64 0)) fun v4=>
 setF 4 v4 tm fun tm1=>
 M.pure tm1
theorem NB_:RegEq 33 16 ES QT YN:=⟨by kernel_rfl,fun _ _ _ _ _ _ _ _ _=>by kernel_rfl⟩
def Yu (E:Env)(call round:Ag)(tm:T Value):M (T Value):=
 mv (T.get tm 1) fun v5=>
 M.bind (oS (some v5) fun a=>oS (some (.int .i64 1)) fun b=>Cl.get (aBin E .lss 3 (.tmp 5) (.const (.int .i64 1))) a b) fun v6=>
 setF 6 v6 tm fun tm1=>
 M.pure tm1
theorem HW_:RegEq 33 16 ES NF Yu:=⟨by kernel_rfl,fun _ _ _ _ _ _ _ _ _=>by kernel_rfl⟩
theorem Abo_:Bg L7=some 6:=by kernel_rfl
def Y5 (E:Env)(call round:Ag)(tm:T Value):M (T Value):=
 mv (T.get tm 0) fun v7=>
 mv (T.get tm 1) fun v8=>
 M.bind (oS (some v7) fun a=>oS (some v8) fun b=>Cl.get (aBin E .rem 3 (.tmp 7) (.tmp 8)) a b) fun v9=>
 mv (some v9) fun v0=>
 setF 0 v0 tm fun tm1=>
 M.pure tm1
theorem Uv_:RegEq 33 16 ES Kj Y5:=⟨by kernel_rfl,fun _ _ _ _ _ _ _ _ _=>by kernel_rfl⟩
def W3 (E:Env)(call round:Ag)(tm:T Value):M (T Value):=
 mv (T.get tm 0) fun v10=>
 M.bind (oS (some v10) fun a=>oS (some (.int .i64 0)) fun b=>Cl.get (aBin E .lss 3 (.tmp 10) (.const (.int .i64 0))) a b) fun v11=>
 setF 11 v11 tm fun tm1=>
 M.pure tm1
theorem Nk_:RegEq 33 16 ES Na W3:=⟨by kernel_rfl,fun _ _ _ _ _ _ _ _ _=>by kernel_rfl⟩
theorem AO_:Bg Ic=some 11:=by kernel_rfl
def Yi (E:Env)(call round:Ag)(tm:T Value):M (T Value):=
 mv (T.get tm 0) fun v12=>
 mv (T.get tm 1) fun v13=>
 M.bind (oS (some v12) fun a=>oS (some v13) fun b=>Cl.get (aBin E .add 3 (.tmp 12) (.tmp 13)) a b) fun v14=>
 mv (some v14) fun v0=>
 setF 0 v0 tm fun tm1=>
 M.pure tm1
theorem Abg_:RegEq 33 16 ES Pu Yi:=⟨by kernel_rfl,fun _ _ _ _ _ _ _ _ _=>by kernel_rfl⟩
def EE_ (E:Env)(call round:Ag)(tm:T Value):M (T Value):=
 mv (T.get tm 0) fun v15=>
 mv (some v15) fun v4=>
 setF 4 v4 tm fun tm1=>
 M.pure tm1
theorem GD_:RegEq 33 16 ES GV EE_:=⟨by kernel_rfl,fun _ _ _ _ _ _ _ _ _=>by kernel_rfl⟩
theorem Abq_: ∃k,T2= .code .ret::k:=⟨T2.tail,by kernel_rfl⟩
theorem D3:slN envS 36=some 18:=by kernel_rfl
def HsR (s:St)(v:Value)(hs:List Hd):Prop:=(v= .slice none 0 0∧hs=[])∨ ∃b o c,v= .slice (some ⟨b,o,none⟩) hs.length c∧Row s b o (B0 hs)
def HsF (v:Value)(x:Nat):Prop:=match v with| .slice (some a) n _=>In a.block a.off (n*18) x|_=>False
theorem HsR.same {s s':St}{v:Value}{hs:List Hd}(h:HsR s v hs)(hm:s'.mem=s.mem)(hn:s'.next=s.next):HsR s' v hs:=by
 rcases h with h|⟨b,o,c,h0,h3⟩
 ·exact .inl h
 ·exact .inr ⟨b,o,c,h0,fun i v e=>(h3 i v e).same hm hn⟩
theorem HsR.len {s s':St}{v:Value}{hs:List Hd}(h:HsR s v hs)(Q:Value→St→Prop):W (A7 envS .len [36] [v]) s' Q=Q (.int .i64 (hs.length:Nat)) s':=by
 rcases h with⟨rfl,rfl⟩|⟨b,o,c,rfl,_⟩
 ·exact Cc D3 Q
 ·exact Cc D3 Q
theorem CO_ (l:List Hd)(m:List Hd):B0 (l++m)=B0 l++B0 m:=by
 induction l with
 |nil=>rfl
 |cons h l ih=>show BS h++B0 (l++m)=(BS h++B0 l)++B0 m;rw[ih,List.append_assoc]
theorem Eo_ {hs:List Hd}(h16: ∀h∈hs,h.1.length=16){i:Nat}(hi:i<hs.length){j:Nat}(hj:j<18):(B0 hs)[i*18+j]?=(BS hs[i])[j]?:=by
 have e:hs=hs.take i++hs[i]::hs.drop (i+1):=by rw[List.getElem_cons_drop,List.take_append_drop]
 have hl:(B0 (hs.take i)).length=i*18:=by
  rw[XE fun h hh=>h16 h (List.mem_of_mem_take hh),List.length_take]
  congr 1;omega
 have h18:(BS hs[i]).length=18:=Fv (h16 _ (List.getElem_mem hi))
 conv=>lhs;rw[e,CO_]
 rw[List.getElem?_append_right (by omega),hl,show i*18+j-i*18=j by omega]
 show(BS hs[i]++B0 (hs.drop (i+1)))[j]?=_
 rw[List.getElem?_append_left (by omega)]
theorem HsR.at {s:St}{v:Value}{hs:List Hd}(h:HsR s v hs)(h16: ∀h∈hs,h.1.length=16){i:Nat}(hi:i<hs.length): ∃b o c,v= .slice (some ⟨b,o,none⟩) hs.length c∧Row s b (o+i*18) (BS hs[i])∧(∀x,In b (o+i*18) 18 x→HsF v x):=by
 rcases h with⟨rfl,rfl⟩|⟨b,o,c,rfl,h3⟩
 ·simp at hi
 ·refine⟨b,o,c,rfl,fun j u e=> ?_,fun x hx=>⟨by have:=hx.1;show b+o≤x;omega,by
   have h2:x<b+(o+i*18)+18:=hx.2
   show x<b+o+hs.length*18
   have:(i+1)*18≤hs.length*18:=Nat.mul_le_mul_right 18 hi
   omega⟩⟩
  have hj:j<18:=by
   have:=(List.getElem?_eq_some_iff.1 e).1
   rwa [Fv (h16 _ (List.getElem_mem hi))]at this
  have:=h3 (i*18+j) u (by rw[Eo_ h16 hi hj];exact e)
  rwa [show o+(i*18+j)=o+i*18+j by omega]at this
theorem DI (l:List Value):cellsOf (.agg l.toArray)=l:=rfl
theorem Bs.len' {E:Env}{s s':St}{t sz:Nat}{v:Value}{l:List Nat}(h:Bs s v l)(ht:slN E t=some sz)(Q:Value→St→Prop):W (A7 E .len [t] [v]) s' Q=Q (.int .i64 (l.length:Nat)) s':=by
 obtain⟨p,c,rfl⟩:=h.sl
 exact Cc ht Q
theorem JI_ {s:St}{call round:Ag}{f:Nat}{a:Value}{l:List Value}(Q:Value→St→Prop):W (Bh call round (.func (.func f) #[] #[a]) l) s Q=W (call f (l++[a])) s Q:=by
 show W (call f ([]++(l++[a]))) s Q=_
 rw[List.nil_append]
abbrev Any:Nat→Prop:=fun _=>True
theorem Ext.any {F G:Nat→Prop}{s s1:St}(h:Ext F G s s1)(hb:s.lim≤s.next):Ext Any G s s1:=h.weak hb (fun _ _ _=>trivial) fun _ _ h=>h
theorem Ext.then0 {F:Nat→Prop}{s s1 s2:St}(h:Ext Any Non s s1)(k:Ext F Non s1 s2)(hb:s.lim≤s.next):Ext Any Non s s2:=h.trans k hb (fun _ _ _=>trivial) fun _ _ h=>h
theorem Ext.thenRd {s s1:St}(h:Ext Any Non s s1)(hb:s.lim≤s.next)(l:Nat):Ext Any Non s (s1.rdN l):=h.then0 (Ext.rdN (F:=Any) s1 l fun _=>trivial) hb
abbrev HdI:Type:=List Nat×Int×Int
def Bx (h:HdI):List Value:=u8l h.1++[.int .i64 h.2.1, .int .i64 h.2.2]
theorem Fg {h:HdI}(h16:h.1.length=16):(Bx h).length=18:=by
 unfold Bx
 rw[List.length_append,By,h16]
 rfl
theorem CG_ (h:HdI):(Bx h).all oneCell=true:=by
 unfold Bx
 rw[List.all_append,CE]
 rfl
def Ck:List HdI→List Value
 |[]=>[]
 |h::l=>Bx h++Ck l
theorem Ig: ∀{l:List HdI},(∀h∈l,h.1.length=16)→(Ck l).length=l.length*18
 |[],_=>rfl
 |h::l,hl=>by
  unfold Ck
  rw[List.length_append,Fg (hl h (by simp)),Ig fun x hx=>hl x (by simp[hx]),List.length_cons]
  omega
theorem Wt: ∀l:List HdI,(Ck l).all oneCell=true
 |[]=>rfl
 |h::l=>by
  show(Bx h++Ck l).all oneCell=true
  rw[List.all_append,CG_,Wt l]
  rfl
theorem JW {h:HdI}(h16:h.1.length=16):(Bx h)[16]?=some (.int .i64 h.2.1)∧(Bx h)[17]?=some (.int .i64 h.2.2):=by
 unfold Bx
 have:(u8l h.1).length=16:=by rw[By];exact h16
 constructor
 ·rw[List.getElem?_append_right (by omega),this];rfl
 ·rw[List.getElem?_append_right (by omega),this];rfl
def toI (h:Hd):HdI:=(h.1,(h.2.1:Int),(h.2.2:Int))
theorem Yq: ∀l:List Hd,Ck (l.map toI)=B0 l
 |[]=>rfl
 |h::l=>by show Bx (toI h)++Ck (l.map toI)=BS h++B0 l;rw[Yq l];rfl
section
variable {P:Program}{E:Env}{s:St}{t:Nat}
theorem IP_ {h:HdI}(h16:h.1.length=16):(Bx h).toArray.extract 0 (0+16)=(u8l h.1).toArray:=by
 apply Array.ext'
 rw[Array.toList_extract]
 simp only[List.extract,Nat.zero_add,List.drop_zero,Nat.sub_zero]
 unfold Bx
 rw[List.take_left' (by rw[By];exact h16)]
theorem Adg_ {h:HdI}(h16:h.1.length=16):(Bx h).toArray[16]?=some (.int .i64 h.2.1)∧(Bx h).toArray[17]?=some (.int .i64 h.2.2):=by
 rw[List.getElem?_toArray,List.getElem?_toArray]
 exact JW h16
theorem AdL_ (d:Nat){h:HdI}(h16:h.1.length=16)(hT:E8 P t=true):semP P (Op.equalIn (d+3) t (.agg (Bx h).toArray) (.agg (Bx h).toArray))=some true:=by
 unfold E8 at hT
 split at hT
 ·rename_i fs hu
  split at hT
  ·rename_i f0 f1 f2 hfs
   simp only[Bool.and_eq_true,bne_iff_ne,ne_eq,Bool.not_eq_true']at hT
   obtain⟨⟨⟨⟨⟨⟨⟨⟨n0,n1⟩,n2⟩,o0⟩,o1⟩,o2⟩,st⟩,_⟩,rest⟩:=hT
   split at rest
   ·rename_i e i0 u0 i0' u1 u2
    rw[Bool.and_eq_true]at rest
    obtain⟨z0,rest⟩:=rest
    split at rest
    ·rename_i ie ue hie
     have o0:=Nat.eq_of_beq_eq_true o0
     have o1:=Nat.eq_of_beq_eq_true o1
     have o2:=Nat.eq_of_beq_eq_true o2
     have z0:=Nat.eq_of_beq_eq_true z0
     have z1:=Nat.eq_of_beq_eq_true rest
     obtain⟨hc1,hc2⟩:=Adg_ h16
     have hp:semP P program=some P:=rfl
     rw[show d+3=(d+2)+1 from rfl]
     unfold Op.equalIn
     simp only[B3,Hk hu,Option.bind_some,hp,st,Bool.false_eq_true,if_false]
     rw[←Array.forIn_toList,hfs]
     simp only[List.forIn_cons,List.forIn_nil,n0,n1,n2,not_false_eq_true,if_true,B3,o0,o1,o2,ne_eq]
     rw[Pv_ u0 i0' z0,IP_ h16]
     simp only[Option.bind_some]
     rw[show d+2=d+2 from rfl,Cr_ d h.1 h.1 u0 hie z1 ue h16 h16]
     simp only[Option.bind_some,decide_true,Bool.not_true,Bool.false_eq_true,if_false,DM,B3]
     rw[MO u1 hc1]
     simp only[Option.bind_some]
     rw[show d+2=(d+1)+1 from rfl,Yn u1]
     simp only[Option.bind_some,Bool.not_true,Bool.false_eq_true,if_false,DM,B3]
     rw[MO u2 hc2]
     simp only[Option.bind_some]
     rw[Yn u2]
     simp only[Option.bind_some,Bool.not_true,Bool.false_eq_true,if_false,DM,B3]
    ·cases rest
   ·cases rest
  ·cases hT
 ·cases hT
theorem Oq_ (h:HdI):plain (.agg (Bx h).toArray)=true:=by
 show(Bx h).toArray.toList.all (BG 3)=true
 rw[List.all_eq_true]
 intro v hv
 have hv':v∈Bx h:=hv
 unfold Bx at hv'
 rcases List.mem_append.1 hv' with hv|hv
 ·obtain⟨n,_,rfl⟩:=List.mem_map.1 hv
  rfl
 ·simp only[List.mem_cons,List.not_mem_nil,or_false]at hv
  rcases hv with rfl|rfl<;>rfl
theorem LF_ {h:HdI}{xo yo:Operand}(h16:h.1.length=16)(hT:E8 E.P t=true):Cl.get (aBin E .neq t xo yo) (.agg (Bx h).toArray) (.agg (Bx h).toArray) s= .some (.bool false) s:=by
 show Bz E .neq t xo yo (.agg (Bx h).toArray) (.agg (Bx h).toArray) s=_
 unfold Bz
 rw[Oq_]
 show M.on (semP E.P (do eqGuard .neq t xo yo (.agg (Bx h).toArray) (.agg (Bx h).toArray);binOp .neq t (.agg (Bx h).toArray) (.agg (Bx h).toArray))) pV s=_
 rw[B3,Na_ (WQ_ hT)]
 show M.on (semP E.P (do pure (.bool (!(←Op.equalIn (9997+3) t (.agg (Bx h).toArray) (.agg (Bx h).toArray)))))) pV s=_
 rw[B3,AdL_ 9997 h16 hT]
 rfl
theorem Acu_ {h:HdI}{xo yo:Operand}(h16:h.1.length=16)(hT:E8 E.P t=true)(Q:Value→St→Prop):W (Cl.get (aBin E .neq t xo yo) (.agg (Bx h).toArray) (.agg (Bx h).toArray)) s Q=Q (.bool false) s:=BB (LF_ h16 hT)
end
def HiR (s:St)(v:Value)(hs:List HdI):Prop:=(v= .slice none 0 0∧hs=[])∨ ∃b o c,v= .slice (some ⟨b,o,none⟩) hs.length c∧Row s b o (Ck hs)
def HiF (v:Value)(x:Nat):Prop:=match v with| .slice (some a) n _=>In a.block a.off (n*18) x|_=>False
theorem HiR.same {s s':St}{v:Value}{hs:List HdI}(h:HiR s v hs)(hm:s'.mem=s.mem)(hn:s'.next=s.next):HiR s' v hs:=by
 rcases h with h|⟨b,o,c,h0,h3⟩
 ·exact .inl h
 ·exact .inr ⟨b,o,c,h0,fun i v e=>(h3 i v e).same hm hn⟩
theorem HiR.len {s s':St}{v:Value}{hs:List HdI}(h:HiR s v hs)(Q:Value→St→Prop):W (A7 envS .len [36] [v]) s' Q=Q (.int .i64 (hs.length:Nat)) s':=by
 rcases h with⟨rfl,rfl⟩|⟨b,o,c,rfl,_⟩
 ·exact Cc D3 Q
 ·exact Cc D3 Q
theorem SH_ (l:List HdI)(m:List HdI):Ck (l++m)=Ck l++Ck m:=by
 induction l with
 |nil=>rfl
 |cons h l ih=>show Bx h++Ck (l++m)=(Bx h++Ck l)++Ck m;rw[ih,List.append_assoc]
theorem Afg_ {hs:List HdI}(h16: ∀h∈hs,h.1.length=16){i:Nat}(hi:i<hs.length){j:Nat}(hj:j<18):(Ck hs)[i*18+j]?=(Bx hs[i])[j]?:=by
 have e:hs=hs.take i++hs[i]::hs.drop (i+1):=by rw[List.getElem_cons_drop,List.take_append_drop]
 have hl:(Ck (hs.take i)).length=i*18:=by
  rw[Ig fun h hh=>h16 h (List.mem_of_mem_take hh),List.length_take]
  congr 1;omega
 have h18:(Bx hs[i]).length=18:=Fg (h16 _ (List.getElem_mem hi))
 conv=>lhs;rw[e,SH_]
 rw[List.getElem?_append_right (by omega),hl,show i*18+j-i*18=j by omega]
 show(Bx hs[i]++Ck (hs.drop (i+1)))[j]?=_
 rw[List.getElem?_append_left (by omega)]
theorem HiR.at {s:St}{v:Value}{hs:List HdI}(h:HiR s v hs)(h16: ∀h∈hs,h.1.length=16){i:Nat}(hi:i<hs.length): ∃b o c,v= .slice (some ⟨b,o,none⟩) hs.length c∧Row s b (o+i*18) (Bx hs[i])∧(∀x,In b (o+i*18) 18 x→HiF v x):=by
 rcases h with⟨rfl,rfl⟩|⟨b,o,c,rfl,h3⟩
 ·simp at hi
 ·refine⟨b,o,c,rfl,fun j u e=> ?_,fun x hx=>⟨by have:=hx.1;show b+o≤x;omega,by
   have h2:x<b+(o+i*18)+18:=hx.2
   show x<b+o+hs.length*18
   have:(i+1)*18≤hs.length*18:=Nat.mul_le_mul_right 18 hi
   omega⟩⟩
  have hj:j<18:=by
   have:=(List.getElem?_eq_some_iff.1 e).1
   rwa [Fg (h16 _ (List.getElem_mem hi))]at this
  have:=h3 (i*18+j) u (by rw[Afg_ h16 hi hj];exact e)
  rwa [show o+(i*18+j)=o+i*18+j by omega]at this
theorem AcE_ {va vb:Value}{hs:List HdI}{F:Nat→Prop}(hFa: ∀x,HiF va x→F x)(hFb: ∀x,HiF vb x→F x){Q:Value×FrameMode→St→Prop}{s0:St}(hb0:s0.lim≤s0.next)(ha:HiR s0 va hs)(hb:HiR s0 vb hs)(h16: ∀h∈hs,h.1.length=16)(hz:hs.length≤4611686018427387904)(hcx:s0.cx= .cx none (some []))(q: ∀s1,Ext F Non s0 s1→s1.mem=s0.mem→s1.next=s0.next→Q (.bool true, .run) s1):
  ∀(k i n:Nat) (tm:T Value) (s:St) (td:List Item),i+k=hs.length→7*k+20≤n→skim 64 td=GW→Ext F Non s0 s→s.mem=s0.mem→s.next=s0.next→
  T.get tm 0=some va→T.get tm 1=some vb→T.get tm 5=some (.int .i64 (i:Nat))→
  W (runF envS n ⟨26,Mh_,Ec,tm,td, .run, .normal,none⟩) s Q:=by
 intro k
 induction k with
 |zero=>
  intro i n tm s td hi hn hT hx hm hnx h0 h1 h5
  refine Fr_.w hT (by omega) ?_
  simp only[QI,Ac,W_oS,W_on,Aa,W_mv,Ab,Ap,T.get_set,Af,Ae,Ao,Al,Ad,Ai,reduceIte,Ah,Av,As,Au,Ak,Aq,Ar,Aw,Aj,An,Nat.reduceEqDiff,reduceCtorEq, ↓reduceIte,AD,AL,AC,AK,AT,AP,AQ,AM,h0,h5]
  rw[ha.len]
  simp only[Ac,W_oS,W_on,Aa,W_mv,Ab,Ap,T.get_set,Af,Ae,Ao,Al,Ad,Ai,reduceIte,Ah,Av,As,Au,Ak,Aq,Ar,Aw,Aj,An,Nat.reduceEqDiff,reduceCtorEq, ↓reduceIte,AD,AL,AC,AK,AT,AP,AQ,AM]
  refine W.cond (v:=false) Fd_ Wq (by simp[T.get_set];omega) (by omega) (fun h=>by cases h) fun _=> ?_
  refine MV_.w Yf_ (by omega) ?_
  simp only[Uk,Ac,W_oS,W_on,Aa,W_mv,Ab,Ap,T.get_set,Af,Ae,Ao,Al,Ad,Ai,reduceIte,Ah,Av,As,Au,Ak,Aq,Ar,Aw,Aj,An,Nat.reduceEqDiff,reduceCtorEq, ↓reduceIte]
  refine W.end' (rs:=[4]) (vs:=[.bool true]) Iz_ (.inl KY_) (by omega) X6 Aej_ (hx.cx.trans hcx) (by simp[T.get_set]) ?_
  exact q s hx hm hnx
 |succ k ih=>
  intro i n tm s td hi hn hT hx hm hnx h0 h1 h5
  have hil:i<hs.length:=by omega
  have hI:(Bx hs[i]).length=18:=Fg (h16 _ (List.getElem_mem hil))
  obtain⟨ba,oa,ca,rfl,ga,fa⟩:=ha.at h16 hil
  obtain⟨bb,ob,cb,rfl,gb,fb⟩:=hb.at h16 hil
  refine Fr_.w hT (by omega) ?_
  simp only[QI,Ac,W_oS,W_on,Aa,W_mv,Ab,Ap,T.get_set,Af,Ae,Ao,Al,Ad,Ai,reduceIte,Ah,Av,As,Au,Ak,Aq,Ar,Aw,Aj,An,Nat.reduceEqDiff,reduceCtorEq, ↓reduceIte,AD,AL,AC,AK,AT,AP,AQ,AM,h0,h5]
  rw[Cc D3]
  simp only[Ac,W_oS,W_on,Aa,W_mv,Ab,Ap,T.get_set,Af,Ae,Ao,Al,Ad,Ai,reduceIte,Ah,Av,As,Au,Ak,Aq,Ar,Aw,Aj,An,Nat.reduceEqDiff,reduceCtorEq, ↓reduceIte,AD,AL,AC,AK,AT,AP,AQ,AM]
  refine W.cond (v:=true) Fd_ Wq (by simp[T.get_set];omega) (by omega) (fun _=> ?_) fun h=>by cases h
  refine RU_.w JP_ (by omega) ?_
  simp only[X7,T.get_set,Nat.reduceEqDiff, ↓reduceIte,h0,h1,h5,CF,Bm]
  rw[W_dq fun s Q=>BC (s:=s) D3 hil Q]
  refine W.dloadA H3 (fun j u e=>(ga j u e).same hm hnx) hI fun m1 rd1 e1 hr1=> ?_
  subst e1
  simp only[Bm]
  rw[W_dq fun s Q=>BC (s:=s) D3 hil Q]
  refine W.dloadA H3 (fun j u e=>(gb j u e).same hm hnx) hI fun m2 rd2 e2 hr2=> ?_
  subst e2
  rw[Aa]
  refine⟨Dj (by simp) (by simp), ?_⟩
  refine W.cast (HY_ _ _ _ _ _ _ _ _ _ _ _ _ _) ?_
  simp only[Ac,W_oS,W_on,Aa,W_mv,Ab,Ap,T.get_set,Af,Ae,Ao,Al,Ad,Ai,reduceIte,Ah,Av,As,Au,Ak,Aq,Ar,Aw,Aj,An,Nat.reduceEqDiff,reduceCtorEq, ↓reduceIte]
  rw[Acu_ (h16 _ (List.getElem_mem hil)) NX_]
  generalize hs':(⟨(dSt s.mem s.next).mem,(dSt s.mem s.next).next,s.lim,_,_,s.cx⟩:St)=s'
  have hx':Ext F Non s0 s':=by
   rw[←hs']
   refine hx.trans (Ext.draw (F:=F) (Nat.le_refl _) (fun _ _=>rfl) (by simp) (by
    simp only[List.mem_cons,List.not_mem_nil,or_false]
    rintro m (rfl|rfl|rfl|rfl|rfl|rfl|rfl|rfl) x hx _<;>first|(exact hFa _ (fa _ (hr1 _ hx)))|(exact hFb _ (fb _ (hr2 _ hx)))|(cases hx))) hb0 (fun _ _ h=>h) fun _ _ h=>h
  have hm':s'.mem=s0.mem:=by rw[←hs'];exact hm
  have hn':s'.next=s0.next:=by rw[←hs'];exact hnx
  refine W.cond (v:=false) Kv_ AeB_ (by simp[T.get_set]) (by omega) (fun h=>by cases h) fun _=> ?_
  refine SW_.w Zq_ (by omega) ?_
  have ei:wrap64 ((i:Nat)+1:Int)=((i+1:Nat):Int):=by
   rw[Bq (by omega) (by omega)];simp
  simp only[EI_,Ac,W_oS,W_on,Aa,W_mv,Ab,Ap,T.get_set,Af,Ae,Ao,Al,Ad,Ai,reduceIte,Ah,Av,As,Au,Ak,Aq,Ar,Aw,Aj,An,Nat.reduceEqDiff,reduceCtorEq, ↓reduceIte,AD,h5,ei]
  exact ih (i+1) _ _ _ _ (by omega) (by omega) Xs_ hx' hm' hn' (by simp[T.get_set,h0]) (by simp[T.get_set,h1]) (by simp[T.get_set])
theorem Gh_ {va vb:Value}{hs:List HdI}{n:Nat}{s:St}{Q:Value→St→Prop}(hbd:s.lim≤s.next)(ha:HiR s va hs)(hb:HiR s vb hs)(h16: ∀h∈hs,h.1.length=16)(hz:hs.length≤4611686018427387904)(hn:7*hs.length+40≤n)
  (q: ∀s1,Ext (fun x=>HiF va x∨HiF vb x) Non s s1→s1.mem=s.mem→s1.next=s.next→Q (.bool true) s1):W (AJ envS (runF envS n) 26 [va,vb]) s Q:=by
 refine Zi_ fun tm h0 h1=> ?_
 have ha':HiR (s.cxN cxN) va hs:=ha.same rfl rfl
 have hb':HiR (s.cxN cxN) vb hs:=hb.same rfl rfl
 refine Sm_.w rfl (by omega) ?_
 simp only[ES_,Ac,W_oS,W_on,Aa,W_mv,Ab,Ap,T.get_set,Af,Ae,Ao,Al,Ad,Ai,reduceIte,Ah,Av,As,Au,Ak,Aq,Ar,Aw,Aj,An,Nat.reduceEqDiff,reduceCtorEq, ↓reduceIte]
 refine Ox_.w AdI_ (by omega) ?_
 simp only[Ft_,Ac,W_oS,W_on,Aa,W_mv,Ab,Ap,T.get_set,Af,Ae,Ao,Al,Ad,Ai,reduceIte,Ah,Av,As,Au,Ak,Aq,Ar,Aw,Aj,An,Nat.reduceEqDiff,reduceCtorEq, ↓reduceIte,AD,AL,AC,AK,AT,AP,AQ,AM,h0,h1]
 rw[ha'.len,hb'.len]
 simp only[Ac,W_oS,W_on,Aa,W_mv,Ab,Ap,T.get_set,Af,Ae,Ao,Al,Ad,Ai,reduceIte,Ah,Av,As,Au,Ak,Aq,Ar,Aw,Aj,An,Nat.reduceEqDiff,reduceCtorEq, ↓reduceIte,AD,AL,AC,AK,AT,AP,AQ,AM]
 refine W.cond (v:=false) NW_ OU_ (by simp[T.get_set]) (by omega) (fun h=>by cases h) fun _=> ?_
 refine Ie_.w Vm_ (by omega) ?_
 simp only[Fh_,Ac,W_oS,W_on,Aa,W_mv,Ab,Ap,T.get_set,Af,Ae,Ao,Al,Ad,Ai,reduceIte,Ah,Av,As,Au,Ak,Aq,Ar,Aw,Aj,An,Nat.reduceEqDiff,reduceCtorEq, ↓reduceIte]
 exact AcE_ (s0:=s.cxN cxN) (F:=fun x=>HiF va x∨HiF vb x) (fun _ h=> .inl h) (fun _ h=> .inr h) hbd ha' hb' h16 hz rfl (fun s1 x1 m1 n1=>q _ x1.cx' m1 n1) hs.length 0 _ _ _ _ (by omega) (by omega) AdO_ (Ext.refl _) rfl rfl (by simp[T.get_set,h0]) (by simp[T.get_set,h1]) (by simp[T.get_set])
theorem HsR.toI {s:St}{v:Value}{hs:List Hd}(h:HsR s v hs):HiR s v (hs.map toI):=by
 rcases h with⟨rfl,rfl⟩|⟨b,o,c,rfl,h3⟩
 ·exact .inl ⟨rfl,rfl⟩
 ·exact .inr ⟨b,o,c,by rw[List.length_map],by rw[Yq];exact h3⟩
theorem HiR.ext {F G:Nat→Prop}{s s':St}{v:Value}{hs:List HdI}(h:HiR s v hs)(h16: ∀h∈hs,h.1.length=16)(e:Ext F G s s')(hG: ∀x,HiF v x→ ¬G x):HiR s' v hs:=by
 rcases h with h|⟨b,o,c,h0,h3⟩
 ·exact .inl h
 ·refine .inr ⟨b,o,c,h0,h3.ext e fun i hi=>hG _ ?_⟩
  rw[Ig h16]at hi
  rw[h0]
  exact⟨by show b+o≤b+(o+i);omega,by show b+(o+i)<b+o+hs.length*18;omega⟩
theorem HiR.ext0 {F:Nat→Prop}{s s':St}{v:Value}{hs:List HdI}(h:HiR s v hs)(e:Ext F Non s s'):HiR s' v hs:=by
 rcases h with h|⟨b,o,c,h0,h3⟩
 ·exact .inl h
 ·exact .inr ⟨b,o,c,h0,h3.ext0 e⟩
theorem HiR.lt {s:St}{v:Value}{hs:List HdI}(h:HiR s v hs)(h16: ∀h∈hs,h.1.length=16): ∀x,HiF v x→x<s.next:=by
 intro x hx
 rcases h with⟨rfl,_⟩|⟨b,o,c,rfl,h3⟩
 ·exact hx.elim
 ·have h1:b+o≤x:=hx.1
  have h2:x<b+o+hs.length*18:=hx.2
  have hl:x-(b+o)<(Ck hs).length:=by rw[Ig h16];omega
  have:=(h3 (x-(b+o)) _ (List.getElem?_eq_getElem hl)).1
  omega
theorem HiR.one {s:St}{v:Value}{hs:List HdI}(h:HiR s v hs):oneCell v=true:=by
 rcases h with⟨rfl,_⟩|⟨b,o,c,rfl,_⟩<;>rfl
theorem Ch:slN envS 55=some 3:=by kernel_rfl
theorem C3:tyS envS 85=some (3,true):=by kernel_rfl
theorem L0:Dd envS 85=some [.int .i64 0, .int .i64 0, .slice none 0 0]:=by kernel_rfl
theorem DU:fldN envS 85 0=some (0,1,false):=by kernel_rfl
theorem Fb:fldN envS 85 1=some (1,1,false):=by kernel_rfl
theorem EJ:fldN envS 85 2=some (2,1,false):=by kernel_rfl
theorem AfP_:elT envS 55=some (3,40,[.int .i64 0, .int .i64 0, .slice none 0 0]):=by kernel_rfl
theorem Ou_:appT envS 55 55=some (3,40,false,[.int .i64 0, .int .i64 0, .slice none 0 0]):=by kernel_rfl
structure PkI where
 num:Int
 size:Int
 v:Value
 hs:List HdI
def pkC (p:PkI):List Value:=[.int .i64 p.num, .int .i64 p.size,p.v]
def pkCs:List PkI→List Value
 |[]=>[]
 |p::l=>pkC p++pkCs l
theorem Ta: ∀l:List PkI,(pkCs l).length=l.length*3
 |[]=>rfl
 |p::l=>by
  show(pkC p++pkCs l).length=_
  rw[List.length_append,Ta l,List.length_cons]
  show 3+_=_
  omega
theorem Fw_ (l m:List PkI):pkCs (l++m)=pkCs l++pkCs m:=by
 induction l with
 |nil=>rfl
 |cons h l ih=>show pkC h++pkCs (l++m)=(pkC h++pkCs l)++pkCs m;rw[ih,List.append_assoc]
theorem JL_ {ps:List PkI}{i:Nat}(hi:i<ps.length){j:Nat}(hj:j<3):(pkCs ps)[i*3+j]?=(pkC ps[i])[j]?:=by
 have e:ps=ps.take i++ps[i]::ps.drop (i+1):=by rw[List.getElem_cons_drop,List.take_append_drop]
 have hl:(pkCs (ps.take i)).length=i*3:=by
  rw[Ta,List.length_take]
  congr 1;omega
 conv=>lhs;rw[e,Fw_]
 rw[List.getElem?_append_right (by omega),hl,show i*3+j-i*3=j by omega]
 show(pkC ps[i]++pkCs (ps.drop (i+1)))[j]?=_
 rw[List.getElem?_append_left (show j<3 from hj)]
structure PkR (s:St)(v:Value)(ps:List PkI):Prop where
 row:(v= .slice none 0 0∧ps=[])∨ ∃b o c,v= .slice (some ⟨b,o,none⟩) ps.length c∧Row s b o (pkCs ps)
 hs: ∀p∈ps,HiR s p.v p.hs
 h16: ∀p∈ps,∀h∈p.hs,h.1.length=16
def PkF (v:Value)(ps:List PkI)(x:Nat):Prop:=(match v with| .slice (some a) n _=>In a.block a.off (n*3) x|_=>False)∨ ∃p∈ps,HiF p.v x
theorem PkR.same {s s':St}{v:Value}{ps:List PkI}(h:PkR s v ps)(hm:s'.mem=s.mem)(hn:s'.next=s.next):PkR s' v ps:=by
 refine⟨?_,fun p hp=>(h.hs p hp).same hm hn,h.h16⟩
 rcases h.row with h|⟨b,o,c,h0,h3⟩
 ·exact .inl h
 ·exact .inr ⟨b,o,c,h0,fun i v e=>(h3 i v e).same hm hn⟩
theorem PkR.ext {F G:Nat→Prop}{s s':St}{v:Value}{ps:List PkI}(h:PkR s v ps)(e:Ext F G s s')(hG: ∀x,PkF v ps x→ ¬G x):PkR s' v ps:=by
 refine⟨?_,fun p hp=>(h.hs p hp).ext (h.h16 p hp) e fun x hx=>hG x (.inr ⟨p,hp,hx⟩),h.h16⟩
 rcases h.row with h|⟨b,o,c,h0,h3⟩
 ·exact .inl h
 ·refine .inr ⟨b,o,c,h0,h3.ext e fun i hi=>hG _ (.inl ?_)⟩
  rw[Ta]at hi
  rw[h0]
  exact⟨by show b+o≤_;omega,by show b+(o+i)<b+o+ps.length*3;omega⟩
theorem PkR.ext0 {F:Nat→Prop}{s s':St}{v:Value}{ps:List PkI}(h:PkR s v ps)(e:Ext F Non s s'):PkR s' v ps:=h.ext e fun _ _=>id
theorem PkR.len {s s':St}{v:Value}{ps:List PkI}(h:PkR s v ps)(Q:Value→St→Prop):W (A7 envS .len [55] [v]) s' Q=Q (.int .i64 (ps.length:Nat)) s':=by
 rcases h.row with⟨rfl,rfl⟩|⟨b,o,c,rfl,_⟩
 ·exact Cc Ch Q
 ·exact Cc Ch Q
theorem PkR.one {s:St}{v:Value}{ps:List PkI}(h:PkR s v ps):oneCell v=true:=by
 rcases h.row with⟨rfl,_⟩|⟨b,o,c,rfl,_⟩<;>rfl
theorem PkR.at {s:St}{v:Value}{ps:List PkI}(h:PkR s v ps){i:Nat}(hi:i<ps.length): ∃b o c,v= .slice (some ⟨b,o,none⟩) ps.length c∧Row s b (o+i*3) (pkC ps[i])∧HiR s ps[i].v ps[i].hs∧(∀h∈ps[i].hs,h.1.length=16)∧(∀x,In b (o+i*3) 3 x→PkF v ps x)∧(∀x,HiF ps[i].v x→PkF v ps x):=by
 have hm:=List.getElem_mem hi
 rcases h.row with⟨rfl,rfl⟩|⟨b,o,c,rfl,h3⟩
 ·simp at hi
 ·refine⟨b,o,c,rfl,fun j u e=> ?_,h.hs _ hm,h.h16 _ hm,fun x hx=> .inl ⟨by have:=hx.1;show b+o≤x;omega,by
   have h2:x<b+(o+i*3)+3:=hx.2
   show x<b+o+ps.length*3
   have:(i+1)*3≤ps.length*3:=Nat.mul_le_mul_right 3 hi
   omega⟩,fun x hx=> .inr ⟨_,hm,hx⟩⟩
  have hj:j<3:=(List.getElem?_eq_some_iff.1 e).1
  have:=h3 (i*3+j) u (by rw[JL_ hi hj];exact e)
  rwa [show o+(i*3+j)=o+i*3+j by omega]at this
theorem OB {s:St}{p:PkI}(h:HiR s p.v p.hs):(pkC p).all oneCell=true:=by
 have:=h.one
 unfold pkC
 simp[oneCell]at this ⊢
 exact this
end Go.Proofs.Ytofanlcjeohcjaa.Am
end
