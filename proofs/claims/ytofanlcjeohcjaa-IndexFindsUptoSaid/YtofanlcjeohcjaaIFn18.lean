import Derived.Test.YtofanlcjeohcjaaIFn17
import Derived.Test.YtofanlcjeohcjaaIFn14
import Derived.Test.YtofanlcjeohcjaaIFn07
import Derived.KernelRfl
noncomputable section
namespace Go.Proofs.Ytofanlcjeohcjaa.Am
open Go.RowKit
section
variable {P:Program}{E:Env}{s:St}{t:Nat}
def Ex (P:Program)(t:Nat):Bool:=match P.underlying t with
 |some (.struct fs)=>(match fs.toList with
  | [f0, f1, f2] => f0.name != "_" && f1.name != "_" && f2.name != "_" && Nat.beq f0.offset 0 && Nat.beq f1.offset 16 && Nat.beq f2.offset 17 && !P.stoodInHeld t && !P.eqGuardType P.depth t &&
   (match P.underlying f0.type,P.info? f0.type,P.underlying f1.type,P.underlying f2.type with
   |some (.array 16 e),some i0,some (.int .i64),some (.int .i64)=>Nat.beq i0.size 16&&(match P.underlying e,P.info? e with|some (.int .u8),some i=>Nat.beq i.size 1|_,_=>false)
   |_,_,_,_=>false)
  |_=>false)
 |_=>false
theorem Gk_ {cs:Array Value}{off e:Nat}{i:TypeInfo}(hu:P.underlying t=some (.array 16 e))(hi:P.info? t=some i)(hz:i.size=16):semP P (part t cs off)=some (.agg (cs.extract off (off+16))):=by
 unfold part isAgg
 rw[By,By,Dr hu]
 simp -implicitDefEqProofs only[Option.bind_some,Cz,if_true,By,ME hi,hz]
theorem RV {d:Nat}{a:Int}(hu:P.underlying t=some (.int .i64)):semP P (Op.equalIn (d+1) t (.int .i64 a) (.int .i64 a))=some true:=by
 simp -implicitDefEqProofs only[Op.equalIn,By,Dr hu,Option.bind_some,if_true,Cz,beq_self_eq_true]
theorem BK_ {xo yo:Operand}{cs cs':Array Value}(hg:P.eqGuardType P.depth t=false):semP P (eqGuard .neq t xo yo (.agg cs) (.agg cs'))=some ():=by
 have hp:semP P program=some P:=rfl
 unfold eqGuard
 simp -implicitDefEqProofs only[Bool.not_true,Bool.not_false,Bool.false_eq_true,if_false,if_true,By,hp,Option.bind_some,hg,Cz]
theorem Et_ (h:Ex P t=true):P.eqGuardType P.depth t=false:=by
 unfold Ex at h
 split at h
 ·split at h
  ·simp -implicitDefEqProofs only[Bool.and_eq_true,bne_iff_ne,ne_eq,Bool.not_eq_true']at h
   exact h.1.2
  ·cases h
 ·cases h
end
theorem Qa:Ex envS.P 35=true:=by kernel_rfl
def Dk:Nat:=BU Try.f26
abbrev Kb_:Nat:=26
def Vv:Code:=Try.f26.body.getD .skip
theorem Qr:envS.fn.get 26=some Try.f26:=by kernel_rfl
theorem IF_ {a0 a1:Value}{n:Nat}{s:St}{Q:Value→St→Prop}(h: ∀tm,T.get tm 0=some a0→T.get tm 1=some a1→W (runF envS n ⟨26,26,Dk,tm,[.code Vv], .run, .normal,none⟩) (s.cxN cxN) fun p s1=>Q p.1 (s1.cxN s.cx)):W (A2 envS (runF envS n) 26 [a0,a1]) s Q:=
 W.call (by kernel_rfl) (by kernel_rfl) Qr (by kernel_rfl) rfl rfl (by simp) (h _ (by kernel_rfl) (by kernel_rfl))
theorem YC:Try.f26.results.toList=[.tmp 4]:=by kernel_rfl
def Lp:List Item:=skim 64 [.code Vv]
def I6:List Item:=skim 64 Lp.tail
theorem Js_:skim 64 Lp.tail=I6:=by kernel_rfl
def Kz:List Item:=skim 64 I6.tail
theorem ZB:skim 64 I6.tail=Kz:=by kernel_rfl
def JS:List Item:=skim 64 (brF Kz)
theorem Xj:skim 64 (brF Kz)=JS:=by kernel_rfl
def F9:List Item:=skim 64 JS.tail
theorem II_:skim 64 JS.tail=F9:=by kernel_rfl
def FP:List Item:=skim 64 F9.tail
theorem Vs:skim 64 F9.tail=FP:=by kernel_rfl
def GW:List Item:=skim 64 (brT FP)
theorem Gt_:skim 64 (brT FP)=GW:=by kernel_rfl
def Jp:List Item:=skim 64 (brF FP)
theorem KY_:skim 64 (brF FP)=Jp:=by kernel_rfl
def I3:List Item:=skim 64 GW.tail
theorem FJ_:skim 64 GW.tail=I3:=by kernel_rfl
def Ni:List Item:=skim 64 Jp.tail
theorem JT_:skim 64 Jp.tail=Ni:=by kernel_rfl
def KY:List Item:=skim 64 (brF I3)
theorem FF_:skim 64 (brF I3)=KY:=by kernel_rfl
theorem Dl_:skim 64 KY.tail=F9:=by kernel_rfl
def Oz (E:Env)(call round:Aw)(tm:T Value):M (T Value):=
 mv (some (.bool false)) fun v4=>
 setF 4 v4 tm fun tm1=>
 M.pure tm1
theorem Gd_:RegEq 26 26 Dk Lp Oz:=⟨by kernel_rfl,fun _ _ _ _ _ _ _ _ _=>by kernel_rfl⟩
def S5 (E:Env)(call round:Aw)(tm:T Value):M (T Value):=
 mv (T.get tm 0) fun v6=>
 M.bind (oS (seqO [(some v6)]) fun l=>Bi E .len [36] l) fun v7=>
 mv (T.get tm 1) fun v8=>
 M.bind (oS (seqO [(some v8)]) fun l=>Bi E .len [36] l) fun v9=>
 M.bind (oS (some v7) fun a=>oS (some v9) fun b=>Cl.get (aBin E .neq 3 (.tmp 7) (.tmp 9)) a b) fun v10=>
 setF 10 v10 tm fun tm1=>
 M.pure tm1
theorem KL_:RegEq 26 26 Dk I6 S5:=⟨by kernel_rfl,fun _ _ _ _ _ _ _ _ _=>by kernel_rfl⟩
theorem CS_:BB Kz=some 10:=by kernel_rfl
def Vw (E:Env)(call round:Aw)(tm:T Value):M (T Value):=
 mv (some (.int .i64 0)) fun v5=>
 setF 5 v5 tm fun tm1=>
 M.pure tm1
theorem Hf_:RegEq 26 26 Dk JS Vw:=⟨by kernel_rfl,fun _ _ _ _ _ _ _ _ _=>by kernel_rfl⟩
def My (E:Env)(call round:Aw)(tm:T Value):M (T Value):=
 mv (T.get tm 5) fun v11=>
 mv (T.get tm 0) fun v12=>
 M.bind (oS (seqO [(some v12)]) fun l=>Bi E .len [36] l) fun v13=>
 M.bind (oS (some v11) fun a=>oS (some v13) fun b=>Cl.get (aBin E .lss 3 (.tmp 11) (.tmp 13)) a b) fun v14=>
 setF 14 v14 tm fun tm1=>
 M.pure tm1
theorem UP:RegEq 26 26 Dk F9 My:=⟨by kernel_rfl,fun _ _ _ _ _ _ _ _ _=>by kernel_rfl⟩
theorem UH:BB FP=some 14:=by kernel_rfl
def Q1 (E:Env)(call round:Aw)(tm:T Value):M ((Rho×T Value)×List OpLog):=
 M.bind (apartO (oS (T.get tm 0) fun a=>M.pure a)) fun p0=>
 M.bind (apartO (oS (T.get tm 5) fun a=>M.pure a)) fun p1=>
 M.bind (apartO (oS (some p0.1) fun a=>oS (some p1.1) fun b=>Bk E 36 a b)) fun p2=>
 M.bind (apartO (oS (some p2.1) fun a=>A4 E 35 a)) fun p3=>
 M.bind (apartO (oS (T.get tm 1) fun a=>M.pure a)) fun p4=>
 M.bind (apartO (oS (T.get tm 5) fun a=>M.pure a)) fun p5=>
 M.bind (apartO (oS (some p4.1) fun a=>oS (some p5.1) fun b=>Bk E 36 a b)) fun p6=>
 M.bind (apartO (oS (some p6.1) fun a=>A4 E 35 a)) fun p7=>
 M.pure (([p7.1,p6.1,p5.1,p4.1,p3.1,p2.1,p1.1,p0.1],tm),[p7.2,p6.2,p5.2,p4.2,p3.2,p2.2,p1.2,p0.2])
theorem CJ_:DrawEq 26 26 Dk GW [0,0,3,7,0,0,48,112,255] Q1:=⟨by kernel_rfl,by kernel_rfl,fun _ _ _ _ _ _ _ _ _=>by kernel_rfl⟩
theorem Bc_ (E:Env)(call round:Aw)(x17 x18 x19 x20 x21 x22 x23 x24:Value)(tm:T Value)(s:St):BJ call round (CP E Dk 26 (hdC GW)) [x24,x23,x22,x21,x20,x19,x18,x17] tm s=(M.bind (oS (some x20) fun a=>oS (some x24) fun b=>Cl.get (aBin E .neq 35 (.tmp 20) (.tmp 24)) a b) fun v25=>setT 25 v25 tm fun tm1=>M.pure tm1) s:=by kernel_rfl
def O0 (E:Env)(call round:Aw)(tm:T Value):M (T Value):=
 mv (some (.bool true)) fun v4=>
 setF 4 v4 tm fun tm1=>
 M.pure tm1
theorem Ei_:RegEq 26 26 Dk Jp O0:=⟨by kernel_rfl,fun _ _ _ _ _ _ _ _ _=>by kernel_rfl⟩
theorem CD_:BB I3=some 25:=by kernel_rfl
theorem AG_: ∃k,Ni= .code .ret::k:=⟨Ni.tail,by kernel_rfl⟩
def Ux (E:Env)(call round:Aw)(tm:T Value):M (T Value):=
 mv (T.get tm 5) fun v15=>
 M.bind (oS (some v15) fun a=>oS (some (.int .i64 1)) fun b=>Cl.get (aBin E .add 3 (.tmp 15) (.const (.int .i64 1))) a b) fun v16=>
 mv (some v16) fun v5=>
 setF 5 v5 tm fun tm1=>
 M.pure tm1
theorem YH:RegEq 26 26 Dk KY Ux:=⟨by kernel_rfl,fun _ _ _ _ _ _ _ _ _=>by kernel_rfl⟩
theorem CM:slN envS 36=some 18:=by kernel_rfl
def HsR (s:St)(v:Value)(hs:List Hd):Prop:=(v= .slice none 0 0∧hs=[])∨ ∃b o c,v= .slice (some ⟨b,o,none⟩) hs.length c∧Row s b o (BX hs)
def HsF (v:Value)(x:Nat):Prop:=match v with| .slice (some a) n _=>In a.block a.off (n*18) x|_=>False
theorem HsR.same {s s':St}{v:Value}{hs:List Hd}(h:HsR s v hs)(hm:s'.mem=s.mem)(hn:s'.next=s.next):HsR s' v hs:=by
 rcases h with h|⟨b,o,c,h0,h3⟩
 ·exact .inl h
 ·exact .inr ⟨b,o,c,h0,fun i v e=>(h3 i v e).same hm hn⟩
theorem HsR.len {s s':St}{v:Value}{hs:List Hd}(h:HsR s v hs)(Q:Value→St→Prop):W (Bi envS .len [36] [v]) s' Q=Q (.int .i64 (hs.length:Nat)) s':=by
 rcases h with⟨rfl,rfl⟩|⟨b,o,c,rfl,_⟩
 ·exact Ck CM Q
 ·exact Ck CM Q
theorem UI (l:List Hd)(m:List Hd):BX (l++m)=BX l++BX m:=by
 induction l with
 |nil=>rfl
 |cons h l ih=>show Da h++BX (l++m)=(Da h++BX l)++BX m;rw[ih,List.append_assoc]
theorem RU {hs:List Hd}(h16: ∀h∈hs,h.1.length=16){i:Nat}(hi:i<hs.length){j:Nat}(hj:j<18):(BX hs)[i*18+j]?=(Da hs[i])[j]?:=by
 have e:hs=hs.take i++hs[i]::hs.drop (i+1):=by rw[List.getElem_cons_drop,List.take_append_drop]
 have hl:(BX (hs.take i)).length=i*18:=by
  rw[Q8 fun h hh=>h16 h (List.mem_of_mem_take hh),List.length_take]
  congr 1;omega
 have h18:(Da hs[i]).length=18:=KP (h16 _ (List.getElem_mem hi))
 conv=>lhs;rw[e,UI]
 rw[List.getElem?_append_right (by omega),hl,show i*18+j-i*18=j by omega]
 show(Da hs[i]++BX (hs.drop (i+1)))[j]?=_
 rw[List.getElem?_append_left (by omega)]
theorem HsR.at {s:St}{v:Value}{hs:List Hd}(h:HsR s v hs)(h16: ∀h∈hs,h.1.length=16){i:Nat}(hi:i<hs.length): ∃b o c,v= .slice (some ⟨b,o,none⟩) hs.length c∧Row s b (o+i*18) (Da hs[i])∧(∀x,In b (o+i*18) 18 x→HsF v x):=by
 rcases h with⟨rfl,rfl⟩|⟨b,o,c,rfl,h3⟩
 ·simp at hi
 ·refine⟨b,o,c,rfl,fun j u e=> ?_,fun x hx=>⟨by have:=hx.1;show b+o≤x;omega,by
   have h2:x<b+(o+i*18)+18:=hx.2
   show x<b+o+hs.length*18
   have:(i+1)*18≤hs.length*18:=Nat.mul_le_mul_right 18 hi
   omega⟩⟩
  have hj:j<18:=by
   have:=(List.getElem?_eq_some_iff.1 e).1
   rwa [KP (h16 _ (List.getElem_mem hi))]at this
  have:=h3 (i*18+j) u (by rw[RU h16 hi hj];exact e)
  rwa [show o+(i*18+j)=o+i*18+j by omega]at this
theorem Cx (l:List Value):cellsOf (.agg l.toArray)=l:=rfl
abbrev Any:Nat→Prop:=fun _=>True
theorem Ext.any {F G:Nat→Prop}{s s1:St}(h:Ext F G s s1)(hb:s.lim≤s.next):Ext Any G s s1:=h.weak hb (fun _ _ _=>trivial) fun _ _ h=>h
theorem Ext.then0 {F:Nat→Prop}{s s1 s2:St}(h:Ext Any Non s s1)(k:Ext F Non s1 s2)(hb:s.lim≤s.next):Ext Any Non s s2:=h.trans k hb (fun _ _ _=>trivial) fun _ _ h=>h
theorem Ext.thenRd {s s1:St}(h:Ext Any Non s s1)(hb:s.lim≤s.next)(l:Nat):Ext Any Non s (s1.rdN l):=h.then0 (Ext.rdN (F:=Any) s1 l fun _=>trivial) hb
abbrev HdI:Type:=List Nat×Int×Int
def AP (h:HdI):List Value:=u8l h.1++[.int .i64 h.2.1, .int .i64 h.2.2]
theorem Cg {h:HdI}(h16:h.1.length=16):(AP h).length=18:=by
 unfold AP
 rw[List.length_append,Bp,h16]
 rfl
theorem De (h:HdI):(AP h).all oneCell=true:=by
 unfold AP
 rw[List.all_append,I7]
 rfl
def BN:List HdI→List Value
 |[]=>[]
 |h::l=>AP h++BN l
theorem Gp: ∀{l:List HdI},(∀h∈l,h.1.length=16)→(BN l).length=l.length*18
 |[],_=>rfl
 |h::l,hl=>by
  unfold BN
  rw[List.length_append,Cg (hl h (by simp)),Gp fun x hx=>hl x (by simp[hx]),List.length_cons]
  omega
theorem Tb: ∀l:List HdI,(BN l).all oneCell=true
 |[]=>rfl
 |h::l=>by
  show(AP h++BN l).all oneCell=true
  rw[List.all_append,De,Tb l]
  rfl
theorem V2 {h:HdI}(h16:h.1.length=16):(AP h)[16]?=some (.int .i64 h.2.1)∧(AP h)[17]?=some (.int .i64 h.2.2):=by
 unfold AP
 have:(u8l h.1).length=16:=by rw[Bp];exact h16
 constructor
 ·rw[List.getElem?_append_right (by omega),this];rfl
 ·rw[List.getElem?_append_right (by omega),this];rfl
def toI (h:Hd):HdI:=(h.1,(h.2.1:Int),(h.2.2:Int))
theorem SE: ∀l:List Hd,BN (l.map toI)=BX l
 |[]=>rfl
 |h::l=>by show AP (toI h)++BN (l.map toI)=Da h++BX l;rw[SE l];rfl
section
variable {P:Program}{E:Env}{s:St}{t:Nat}
theorem Kg_ {h:HdI}(h16:h.1.length=16):(AP h).toArray.extract 0 (0+16)=(u8l h.1).toArray:=by
 apply Array.ext'
 rw[Array.toList_extract]
 simp only[List.extract,Nat.zero_add,List.drop_zero,Nat.sub_zero]
 unfold AP
 rw[List.take_left' (by rw[Bp];exact h16)]
theorem Hi_ {h:HdI}(h16:h.1.length=16):(AP h).toArray[16]?=some (.int .i64 h.2.1)∧(AP h).toArray[17]?=some (.int .i64 h.2.2):=by
 rw[List.getElem?_toArray,List.getElem?_toArray]
 exact V2 h16
theorem Dx_ (d:Nat){h:HdI}(h16:h.1.length=16)(hT:Ex P t=true):semP P (Op.equalIn (d+3) t (.agg (AP h).toArray) (.agg (AP h).toArray))=some true:=by
 unfold Ex at hT
 split at hT
 ·rename_i fs hu
  split at hT
  ·rename_i f0 f1 f2 hfs
   simp only[Bool.and_eq_true,bne_iff_ne,ne_eq,Bool.not_eq_true']at hT
   obtain⟨⟨⟨⟨⟨⟨⟨⟨n0,n1⟩,n2⟩,o0⟩,o1⟩,o2⟩,st⟩,_⟩,rest⟩:=hT
   split at rest
   ·rename_i e i0 u0 i0' u1 u2
    rw[Bool.and_eq_true]at rest
    obtain⟨z0,rest⟩:=rest
    split at rest
    ·rename_i ie ue hie
     have o0:=Nat.eq_of_beq_eq_true o0
     have o1:=Nat.eq_of_beq_eq_true o1
     have o2:=Nat.eq_of_beq_eq_true o2
     have z0:=Nat.eq_of_beq_eq_true z0
     have z1:=Nat.eq_of_beq_eq_true rest
     obtain⟨hc1,hc2⟩:=Hi_ h16
     have hp:semP P program=some P:=rfl
     rw[show d+3=(d+2)+1 from rfl]
     unfold Op.equalIn
     simp only[By,Dr hu,Option.bind_some,hp,st,Bool.false_eq_true,if_false]
     rw[←Array.forIn_toList,hfs]
     simp only[List.forIn_cons,List.forIn_nil,n0,n1,n2,not_false_eq_true,if_true,By,o0,o1,o2,ne_eq]
     rw[Gk_ u0 i0' z0,Kg_ h16]
     simp only[Option.bind_some]
     rw[show d+2=d+2 from rfl,KL d h.1 h.1 u0 hie z1 ue h16 h16]
     simp only[Option.bind_some,decide_true,Bool.not_true,Bool.false_eq_true,if_false,Cz,By]
     rw[Hv u1 hc1]
     simp only[Option.bind_some]
     rw[show d+2=(d+1)+1 from rfl,RV u1]
     simp only[Option.bind_some,Bool.not_true,Bool.false_eq_true,if_false,Cz,By]
     rw[Hv u2 hc2]
     simp only[Option.bind_some]
     rw[RV u2]
     simp only[Option.bind_some,Bool.not_true,Bool.false_eq_true,if_false,Cz]
    ·cases rest
   ·cases rest
  ·cases hT
 ·cases hT
theorem Z2 (h:HdI):plain (.agg (AP h).toArray)=true:=by
 show(AP h).toArray.toList.all (Bq 3)=true
 rw[List.all_eq_true]
 intro v hv
 have hv':v∈AP h:=hv
 unfold AP at hv'
 rcases List.mem_append.1 hv' with hv|hv
 ·obtain⟨n,_,rfl⟩:=List.mem_map.1 hv
  rfl
 ·simp only[List.mem_cons,List.not_mem_nil,or_false]at hv
  rcases hv with rfl|rfl<;>rfl
theorem Fv_ {h:HdI}{xo yo:Operand}(h16:h.1.length=16)(hT:Ex E.P t=true):Cl.get (aBin E .neq t xo yo) (.agg (AP h).toArray) (.agg (AP h).toArray) s= .some (.bool false) s:=by
 show Bm E .neq t xo yo (.agg (AP h).toArray) (.agg (AP h).toArray) s=_
 unfold Bm
 rw[Z2]
 show M.on (semP E.P (do eqGuard .neq t xo yo (.agg (AP h).toArray) (.agg (AP h).toArray);binOp .neq t (.agg (AP h).toArray) (.agg (AP h).toArray))) pV s=_
 rw[By,BK_ (Et_ hT)]
 show M.on (semP E.P (do pure (.bool (!(←Op.equalIn (9997+3) t (.agg (AP h).toArray) (.agg (AP h).toArray)))))) pV s=_
 rw[By,Dx_ 9997 h16 hT]
 rfl
theorem Qm {h:HdI}{xo yo:Operand}(h16:h.1.length=16)(hT:Ex E.P t=true)(Q:Value→St→Prop):W (Cl.get (aBin E .neq t xo yo) (.agg (AP h).toArray) (.agg (AP h).toArray)) s Q=Q (.bool false) s:=BK (Fv_ h16 hT)
end
def HiR (s:St)(v:Value)(hs:List HdI):Prop:=(v= .slice none 0 0∧hs=[])∨ ∃b o c,v= .slice (some ⟨b,o,none⟩) hs.length c∧Row s b o (BN hs)
def HiF (v:Value)(x:Nat):Prop:=match v with| .slice (some a) n _=>In a.block a.off (n*18) x|_=>False
theorem HiR.same {s s':St}{v:Value}{hs:List HdI}(h:HiR s v hs)(hm:s'.mem=s.mem)(hn:s'.next=s.next):HiR s' v hs:=by
 rcases h with h|⟨b,o,c,h0,h3⟩
 ·exact .inl h
 ·exact .inr ⟨b,o,c,h0,fun i v e=>(h3 i v e).same hm hn⟩
theorem HiR.len {s s':St}{v:Value}{hs:List HdI}(h:HiR s v hs)(Q:Value→St→Prop):W (Bi envS .len [36] [v]) s' Q=Q (.int .i64 (hs.length:Nat)) s':=by
 rcases h with⟨rfl,rfl⟩|⟨b,o,c,rfl,_⟩
 ·exact Ck CM Q
 ·exact Ck CM Q
theorem CG_ (l:List HdI)(m:List HdI):BN (l++m)=BN l++BN m:=by
 induction l with
 |nil=>rfl
 |cons h l ih=>show AP h++BN (l++m)=(AP h++BN l)++BN m;rw[ih,List.append_assoc]
theorem HN_ {hs:List HdI}(h16: ∀h∈hs,h.1.length=16){i:Nat}(hi:i<hs.length){j:Nat}(hj:j<18):(BN hs)[i*18+j]?=(AP hs[i])[j]?:=by
 have e:hs=hs.take i++hs[i]::hs.drop (i+1):=by rw[List.getElem_cons_drop,List.take_append_drop]
 have hl:(BN (hs.take i)).length=i*18:=by
  rw[Gp fun h hh=>h16 h (List.mem_of_mem_take hh),List.length_take]
  congr 1;omega
 have h18:(AP hs[i]).length=18:=Cg (h16 _ (List.getElem_mem hi))
 conv=>lhs;rw[e,CG_]
 rw[List.getElem?_append_right (by omega),hl,show i*18+j-i*18=j by omega]
 show(AP hs[i]++BN (hs.drop (i+1)))[j]?=_
 rw[List.getElem?_append_left (by omega)]
theorem HiR.at {s:St}{v:Value}{hs:List HdI}(h:HiR s v hs)(h16: ∀h∈hs,h.1.length=16){i:Nat}(hi:i<hs.length): ∃b o c,v= .slice (some ⟨b,o,none⟩) hs.length c∧Row s b (o+i*18) (AP hs[i])∧(∀x,In b (o+i*18) 18 x→HiF v x):=by
 rcases h with⟨rfl,rfl⟩|⟨b,o,c,rfl,h3⟩
 ·simp at hi
 ·refine⟨b,o,c,rfl,fun j u e=> ?_,fun x hx=>⟨by have:=hx.1;show b+o≤x;omega,by
   have h2:x<b+(o+i*18)+18:=hx.2
   show x<b+o+hs.length*18
   have:(i+1)*18≤hs.length*18:=Nat.mul_le_mul_right 18 hi
   omega⟩⟩
  have hj:j<18:=by
   have:=(List.getElem?_eq_some_iff.1 e).1
   rwa [Cg (h16 _ (List.getElem_mem hi))]at this
  have:=h3 (i*18+j) u (by rw[HN_ h16 hi hj];exact e)
  rwa [show o+(i*18+j)=o+i*18+j by omega]at this
theorem BW_ {va vb:Value}{hs:List HdI}{F:Nat→Prop}(hFa: ∀x,HiF va x→F x)(hFb: ∀x,HiF vb x→F x){Q:Value×FrameMode→St→Prop}{s0:St}(hb0:s0.lim≤s0.next)(ha:HiR s0 va hs)(hb:HiR s0 vb hs)(h16: ∀h∈hs,h.1.length=16)(hz:hs.length≤4611686018427387904)(hcx:s0.cx= .cx none (some []))(q: ∀s1,Ext F Non s0 s1→s1.mem=s0.mem→s1.next=s0.next→Q (.bool true, .run) s1):
  ∀(k i n:Nat) (tm:T Value) (s:St) (td:List Item),i+k=hs.length→7*k+20≤n→skim 64 td=F9→Ext F Non s0 s→s.mem=s0.mem→s.next=s0.next→
  T.get tm 0=some va→T.get tm 1=some vb→T.get tm 5=some (.int .i64 (i:Nat))→
  W (runF envS n ⟨26,Kb_,Dk,tm,td, .run, .normal,none⟩) s Q:=by
 intro k
 induction k with
 |zero=>
  intro i n tm s td hi hn hT hx hm hnx h0 h1 h5
  refine UP.w hT (by omega) ?_
  simp only[My,Ac,W_oS,Aa,W_mv,Ab,Ae,Ad,Af,h0,h5]
  rw[ha.len]
  simp only[A5]
  refine W.cond (v:=false) Vs UH (by simp[T.get_set];omega) (by omega) (fun h=>by cases h) fun _=> ?_
  refine Ei_.w KY_ (by omega) ?_
  simp only[O0,Aa,W_mv,Ab]
  refine W.end' (rs:=[4]) (vs:=[.bool true]) JT_ (.inl AG_) (by omega) Qr YC (hx.cx.trans hcx) (by simp[T.get_set]) ?_
  exact q s hx hm hnx
 |succ k ih=>
  intro i n tm s td hi hn hT hx hm hnx h0 h1 h5
  have hil:i<hs.length:=by omega
  have hI:(AP hs[i]).length=18:=Cg (h16 _ (List.getElem_mem hil))
  obtain⟨ba,oa,ca,rfl,ga,fa⟩:=ha.at h16 hil
  obtain⟨bb,ob,cb,rfl,gb,fb⟩:=hb.at h16 hil
  refine UP.w hT (by omega) ?_
  simp only[My,Ac,W_oS,Aa,W_mv,Ab,Ae,Ad,Af,h0,h5]
  rw[Ck CM]
  simp only[A5]
  refine W.cond (v:=true) Vs UH (by simp[T.get_set];omega) (by omega) (fun _=> ?_) fun h=>by cases h
  refine CJ_.w Gt_ (by omega) ?_
  simp only[Q1,T.get_set,Nat.reduceEqDiff, ↓reduceIte,h0,h1,h5,Dd,B8]
  rw[W_dq fun s Q=>Bx (s:=s) CM hil Q]
  refine W.dloadA B1 (fun j u e=>(ga j u e).same hm hnx) hI fun m1 rd1 e1 hr1=> ?_
  subst e1
  simp only[B8]
  rw[W_dq fun s Q=>Bx (s:=s) CM hil Q]
  refine W.dloadA B1 (fun j u e=>(gb j u e).same hm hnx) hI fun m2 rd2 e2 hr2=> ?_
  subst e2
  rw[Aa]
  refine⟨H0 (by simp) (by simp), ?_⟩
  refine W.cast (Bc_ _ _ _ _ _ _ _ _ _ _ _ _ _) ?_
  simp only[Ac,W_oS,Aa,Ag]
  rw[Qm (h16 _ (List.getElem_mem hil)) Qa]
  generalize hs':(⟨(dSt s.mem s.next).mem,(dSt s.mem s.next).next,s.lim,_,_,s.cx⟩:St)=s'
  have hx':Ext F Non s0 s':=by
   rw[←hs']
   refine hx.trans (Ext.draw (F:=F) (Nat.le_refl _) (fun _ _=>rfl) (by simp) (by
    simp only[List.mem_cons,List.not_mem_nil,or_false]
    rintro m (rfl|rfl|rfl|rfl|rfl|rfl|rfl|rfl) x hx _<;>first|(exact hFa _ (fa _ (hr1 _ hx)))|(exact hFb _ (fb _ (hr2 _ hx)))|(cases hx))) hb0 (fun _ _ h=>h) fun _ _ h=>h
  have hm':s'.mem=s0.mem:=by rw[←hs'];exact hm
  have hn':s'.next=s0.next:=by rw[←hs'];exact hnx
  refine W.cond (v:=false) FJ_ CD_ (by simp[T.get_set]) (by omega) (fun h=>by cases h) fun _=> ?_
  refine YH.w FF_ (by omega) ?_
  have ei:wrap64 ((i:Nat)+1:Int)=((i+1:Nat):Int):=by
   rw[B5 (by omega) (by omega)];simp
  simp only[Ux,Ac,W_oS,Aa,W_mv,Ab,T.get_set,reduceIte,Nat.reduceEqDiff, ↓reduceIte,A8,h5,ei]
  exact ih (i+1) _ _ _ _ (by omega) (by omega) Dl_ hx' hm' hn' (by simp[T.get_set,h0]) (by simp[T.get_set,h1]) (by simp[T.get_set])
theorem FN_ {va vb:Value}{hs:List HdI}{n:Nat}{s:St}{Q:Value→St→Prop}(hbd:s.lim≤s.next)(ha:HiR s va hs)(hb:HiR s vb hs)(h16: ∀h∈hs,h.1.length=16)(hz:hs.length≤4611686018427387904)(hn:7*hs.length+40≤n)
  (q: ∀s1,Ext (fun x=>HiF va x∨HiF vb x) Non s s1→s1.mem=s.mem→s1.next=s.next→Q (.bool true) s1):W (A2 envS (runF envS n) 26 [va,vb]) s Q:=by
 refine IF_ fun tm h0 h1=> ?_
 have ha':HiR (s.cxN cxN) va hs:=ha.same rfl rfl
 have hb':HiR (s.cxN cxN) vb hs:=hb.same rfl rfl
 refine Gd_.w rfl (by omega) ?_
 simp only[Oz,Aa,W_mv,Ab]
 refine KL_.w Js_ (by omega) ?_
 simp only[S5,Ac,W_oS,Aa,W_mv,Ab,T.get_set,Ae,Ad,Af,reduceIte,Nat.reduceEqDiff,reduceCtorEq, ↓reduceIte,h0,h1]
 rw[ha'.len,hb'.len]
 simp only[A6]
 refine W.cond (v:=false) ZB CS_ (by simp[T.get_set]) (by omega) (fun h=>by cases h) fun _=> ?_
 refine Hf_.w Xj (by omega) ?_
 simp only[Vw,Aa,W_mv,Ab]
 exact BW_ (s0:=s.cxN cxN) (F:=fun x=>HiF va x∨HiF vb x) (fun _ h=> .inl h) (fun _ h=> .inr h) hbd ha' hb' h16 hz rfl (fun s1 x1 m1 n1=>q _ x1.cx' m1 n1) hs.length 0 _ _ _ _ (by omega) (by omega) II_ (Ext.refl _) rfl rfl (by simp[T.get_set,h0]) (by simp[T.get_set,h1]) (by simp[T.get_set])
theorem HsR.toI {s:St}{v:Value}{hs:List Hd}(h:HsR s v hs):HiR s v (hs.map toI):=by
 rcases h with⟨rfl,rfl⟩|⟨b,o,c,rfl,h3⟩
 ·exact .inl ⟨rfl,rfl⟩
 ·exact .inr ⟨b,o,c,by rw[List.length_map],by rw[SE];exact h3⟩
theorem HiR.ext {F G:Nat→Prop}{s s':St}{v:Value}{hs:List HdI}(h:HiR s v hs)(h16: ∀h∈hs,h.1.length=16)(e:Ext F G s s')(hG: ∀x,HiF v x→ ¬G x):HiR s' v hs:=by
 rcases h with h|⟨b,o,c,h0,h3⟩
 ·exact .inl h
 ·refine .inr ⟨b,o,c,h0,h3.ext e fun i hi=>hG _ ?_⟩
  rw[Gp h16]at hi
  rw[h0]
  exact⟨by show b+o≤b+(o+i);omega,by show b+(o+i)<b+o+hs.length*18;omega⟩
theorem HiR.ext0 {F:Nat→Prop}{s s':St}{v:Value}{hs:List HdI}(h:HiR s v hs)(e:Ext F Non s s'):HiR s' v hs:=by
 rcases h with h|⟨b,o,c,h0,h3⟩
 ·exact .inl h
 ·exact .inr ⟨b,o,c,h0,h3.ext0 e⟩
theorem HiR.lt {s:St}{v:Value}{hs:List HdI}(h:HiR s v hs)(h16: ∀h∈hs,h.1.length=16): ∀x,HiF v x→x<s.next:=by
 intro x hx
 rcases h with⟨rfl,_⟩|⟨b,o,c,rfl,h3⟩
 ·exact hx.elim
 ·have h1:b+o≤x:=hx.1
  have h2:x<b+o+hs.length*18:=hx.2
  have hl:x-(b+o)<(BN hs).length:=by rw[Gp h16];omega
  have:=(h3 (x-(b+o)) _ (List.getElem?_eq_getElem hl)).1
  omega
theorem HiR.one {s:St}{v:Value}{hs:List HdI}(h:HiR s v hs):oneCell v=true:=by
 rcases h with⟨rfl,_⟩|⟨b,o,c,rfl,_⟩<;>rfl
theorem BL:slN envS 55=some 3:=by kernel_rfl
theorem KS:tyS envS 85=some (3,true):=by kernel_rfl
theorem Uw:ER envS 85=some [.int .i64 0, .int .i64 0, .slice none 0 0]:=by kernel_rfl
theorem Kb:fldN envS 85 0=some (0,1,false):=by kernel_rfl
theorem SH:fldN envS 85 1=some (1,1,false):=by kernel_rfl
theorem Cr:fldN envS 85 2=some (2,1,false):=by kernel_rfl
theorem Go_:elT envS 55=some (3,40,[.int .i64 0, .int .i64 0, .slice none 0 0]):=by kernel_rfl
theorem Zt:appT envS 55 55=some (3,40,false,[.int .i64 0, .int .i64 0, .slice none 0 0]):=by kernel_rfl
structure PkI where
 num:Int
 size:Int
 v:Value
 hs:List HdI
def pkC (p:PkI):List Value:=[.int .i64 p.num, .int .i64 p.size,p.v]
def pkCs:List PkI→List Value
 |[]=>[]
 |p::l=>pkC p++pkCs l
theorem EU: ∀l:List PkI,(pkCs l).length=l.length*3
 |[]=>rfl
 |p::l=>by
  show(pkC p++pkCs l).length=_
  rw[List.length_append,EU l,List.length_cons]
  show 3+_=_
  omega
theorem AX_ (l m:List PkI):pkCs (l++m)=pkCs l++pkCs m:=by
 induction l with
 |nil=>rfl
 |cons h l ih=>show pkC h++pkCs (l++m)=(pkC h++pkCs l)++pkCs m;rw[ih,List.append_assoc]
theorem F3 {ps:List PkI}{i:Nat}(hi:i<ps.length){j:Nat}(hj:j<3):(pkCs ps)[i*3+j]?=(pkC ps[i])[j]?:=by
 have e:ps=ps.take i++ps[i]::ps.drop (i+1):=by rw[List.getElem_cons_drop,List.take_append_drop]
 have hl:(pkCs (ps.take i)).length=i*3:=by
  rw[EU,List.length_take]
  congr 1;omega
 conv=>lhs;rw[e,AX_]
 rw[List.getElem?_append_right (by omega),hl,show i*3+j-i*3=j by omega]
 show(pkC ps[i]++pkCs (ps.drop (i+1)))[j]?=_
 rw[List.getElem?_append_left (show j<3 from hj)]
structure PkR (s:St)(v:Value)(ps:List PkI):Prop where
 row:(v= .slice none 0 0∧ps=[])∨ ∃b o c,v= .slice (some ⟨b,o,none⟩) ps.length c∧Row s b o (pkCs ps)
 hs: ∀p∈ps,HiR s p.v p.hs
 h16: ∀p∈ps,∀h∈p.hs,h.1.length=16
def PkF (v:Value)(ps:List PkI)(x:Nat):Prop:=(match v with| .slice (some a) n _=>In a.block a.off (n*3) x|_=>False)∨ ∃p∈ps,HiF p.v x
theorem PkR.same {s s':St}{v:Value}{ps:List PkI}(h:PkR s v ps)(hm:s'.mem=s.mem)(hn:s'.next=s.next):PkR s' v ps:=by
 refine⟨?_,fun p hp=>(h.hs p hp).same hm hn,h.h16⟩
 rcases h.row with h|⟨b,o,c,h0,h3⟩
 ·exact .inl h
 ·exact .inr ⟨b,o,c,h0,fun i v e=>(h3 i v e).same hm hn⟩
theorem PkR.ext {F G:Nat→Prop}{s s':St}{v:Value}{ps:List PkI}(h:PkR s v ps)(e:Ext F G s s')(hG: ∀x,PkF v ps x→ ¬G x):PkR s' v ps:=by
 refine⟨?_,fun p hp=>(h.hs p hp).ext (h.h16 p hp) e fun x hx=>hG x (.inr ⟨p,hp,hx⟩),h.h16⟩
 rcases h.row with h|⟨b,o,c,h0,h3⟩
 ·exact .inl h
 ·refine .inr ⟨b,o,c,h0,h3.ext e fun i hi=>hG _ (.inl ?_)⟩
  rw[EU]at hi
  rw[h0]
  exact⟨by show b+o≤_;omega,by show b+(o+i)<b+o+ps.length*3;omega⟩
theorem PkR.ext0 {F:Nat→Prop}{s s':St}{v:Value}{ps:List PkI}(h:PkR s v ps)(e:Ext F Non s s'):PkR s' v ps:=h.ext e fun _ _=>id
theorem PkR.len {s s':St}{v:Value}{ps:List PkI}(h:PkR s v ps)(Q:Value→St→Prop):W (Bi envS .len [55] [v]) s' Q=Q (.int .i64 (ps.length:Nat)) s':=by
 rcases h.row with⟨rfl,rfl⟩|⟨b,o,c,rfl,_⟩
 ·exact Ck BL Q
 ·exact Ck BL Q
theorem PkR.one {s:St}{v:Value}{ps:List PkI}(h:PkR s v ps):oneCell v=true:=by
 rcases h.row with⟨rfl,_⟩|⟨b,o,c,rfl,_⟩<;>rfl
theorem PkR.at {s:St}{v:Value}{ps:List PkI}(h:PkR s v ps){i:Nat}(hi:i<ps.length): ∃b o c,v= .slice (some ⟨b,o,none⟩) ps.length c∧Row s b (o+i*3) (pkC ps[i])∧HiR s ps[i].v ps[i].hs∧(∀h∈ps[i].hs,h.1.length=16)∧(∀x,In b (o+i*3) 3 x→PkF v ps x)∧(∀x,HiF ps[i].v x→PkF v ps x):=by
 have hm:=List.getElem_mem hi
 rcases h.row with⟨rfl,rfl⟩|⟨b,o,c,rfl,h3⟩
 ·simp at hi
 ·refine⟨b,o,c,rfl,fun j u e=> ?_,h.hs _ hm,h.h16 _ hm,fun x hx=> .inl ⟨by have:=hx.1;show b+o≤x;omega,by
   have h2:x<b+(o+i*3)+3:=hx.2
   show x<b+o+ps.length*3
   have:(i+1)*3≤ps.length*3:=Nat.mul_le_mul_right 3 hi
   omega⟩,fun x hx=> .inr ⟨_,hm,hx⟩⟩
  have hj:j<3:=(List.getElem?_eq_some_iff.1 e).1
  have:=h3 (i*3+j) u (by rw[F3 hi hj];exact e)
  rwa [show o+(i*3+j)=o+i*3+j by omega]at this
end Go.Proofs.Ytofanlcjeohcjaa.Am
end
