import Derived.Test.YtofanlcjeohcjaaIBk18
import Derived.Test.YtofanlcjeohcjaaIBk15
import Derived.Test.YtofanlcjeohcjaaIBk07
import Derived.KernelRfl
noncomputable section
namespace Go.Proofs.Ytofanlcjeohcjaa.Am
open Go.RowKit
section
variable {P:Program}{E:Env}{s:St}{t:Nat}
def FC (P:Program)(t:Nat):Bool:=match P.underlying t with
 |some (.struct fs)=>(match fs.toList with
  | [f0, f1, f2] => f0.name != "_" && f1.name != "_" && f2.name != "_" && Nat.beq f0.offset 0 && Nat.beq f1.offset 16 && Nat.beq f2.offset 17 && !P.stoodInHeld t && !P.eqGuardType P.depth t &&
   (match P.underlying f0.type,P.info? f0.type,P.underlying f1.type,P.underlying f2.type with
   |some (.array 16 e),some i0,some (.int .i64),some (.int .i64)=>Nat.beq i0.size 16&&(match P.underlying e,P.info? e with|some (.int .u8),some i=>Nat.beq i.size 1|_,_=>false)
   |_,_,_,_=>false)
  |_=>false)
 |_=>false
theorem Akl_ {cs:Array Value}{off e:Nat}{i:TypeInfo}(hu:P.underlying t=some (.array 16 e))(hi:P.info? t=some i)(hz:i.size=16):semP P (part t cs off)=some (.agg (cs.extract off (off+16))):=by
 unfold part isAgg
 rw[Cs,Cs,Ho hu]
 simp -implicitDefEqProofs only[Option.bind_some,D0,if_true,Cs,Iz_ hi,hz]
theorem ZU {d:Nat}{a:Int}(hu:P.underlying t=some (.int .i64)):semP P (Op.equalIn (d+1) t (.int .i64 a) (.int .i64 a))=some true:=by
 simp -implicitDefEqProofs only[Op.equalIn,Cs,Ho hu,Option.bind_some,if_true,D0,beq_self_eq_true]
theorem AdD_ {xo yo:Operand}{cs cs':Array Value}(hg:P.eqGuardType P.depth t=false):semP P (eqGuard .neq t xo yo (.agg cs) (.agg cs'))=some ():=by
 have hp:semP P program=some P:=rfl
 unfold eqGuard
 simp -implicitDefEqProofs only[Bool.not_true,Bool.not_false,Bool.false_eq_true,if_false,if_true,Cs,hp,Option.bind_some,hg,D0]
theorem TD_ (h:FC P t=true):P.eqGuardType P.depth t=false:=by
 unfold FC at h
 split at h
 ·split at h
  ·simp -implicitDefEqProofs only[Bool.and_eq_true,bne_iff_ne,ne_eq,Bool.not_eq_true']at h
   exact h.1.2
  ·cases h
 ·cases h
end
theorem Sq_:FC envS.P 35=true:=by kernel_rfl
def Vm:Nat:=Ba Try.f19
def Cc_:Code:=Try.f19.body.getD .skip
theorem XY:envS.fn.get 19=some Try.f19:=by kernel_rfl
theorem Yk_ {a0 a1:Value}{n:Nat}{s:St}{Q:Value->St->Prop}(h: ∀tm,T.get tm 0=some a0->T.get tm 1=some a1->W (runF envS n ⟨19,10,Vm,tm,[.code Cc_], .run, .normal,none⟩) (s.cxN cxN) λp s1=>Q p.1 (s1.cxN s.cx)):W (Ay envS (runF envS n) 19 [a0,a1]) s Q:=
 W.call (by kernel_rfl) (by kernel_rfl) XY (by kernel_rfl) rfl rfl (by simp) (h _ (by kernel_rfl) (by kernel_rfl))
theorem Afy_:Try.f19.results.toList=[.tmp 4]:=by kernel_rfl
def Tc:List Item:=skim 64 [.code Cc_]
def MU:List Item:=skim 64 Tc.tail
theorem XQ_:skim 64 Tc.tail=MU:=by kernel_rfl
def TZ:List Item:=skim 64 MU.tail
theorem Vm_:skim 64 MU.tail=TZ:=by kernel_rfl
def JR_ (E:Env)(call round:Ad)(tm:T Value):M (T Value):=
 mv (some (.bool false)) λv4=>
 setF 4 v4 tm λtm1=>
 M.pure tm1
theorem Os_:RegEq 19 10 Vm Tc JR_:=⟨by kernel_rfl,λ_ _ _ _ _ _ _ _ _=>by kernel_rfl⟩
def IH_ (E:Env)(call round:Ad)(tm:T Value):M (T Value):=
 mv (T.get tm 0) λv5=>
 M.bind (oS (some v5) λa=>Cy E 22 9 a) λv6=>
 mv (T.get tm 1) λv7=>
 M.bind (oS (some v7) λa=>Cy E 22 9 a) λv8=>
 M.bind (oS (some v6) λa=>oS (some v8) λb=>Cl.get (aBin E .eql 9 (.tmp 6) (.tmp 8)) a b) λv9=>
 mv (some v9) λv4=>
 setF 4 v4 tm λtm1=>
 M.pure tm1
theorem AfP_:RegEq 19 10 Vm MU IH_:=⟨by kernel_rfl,λ_ _ _ _ _ _ _ _ _=>by kernel_rfl⟩
theorem Ahp_: ∃k,TZ= .code .ret::k:=⟨TZ.tail,by kernel_rfl⟩
def Em:Nat:=Ba Try.f26
abbrev PH_:Nat:=26
def EH_:Code:=Try.f26.body.getD .skip
theorem BM_:envS.fn.get 26=some Try.f26:=by kernel_rfl
theorem Oz_ {a0 a1:Value}{n:Nat}{s:St}{Q:Value->St->Prop}(h: ∀tm,T.get tm 0=some a0->T.get tm 1=some a1->W (runF envS n ⟨26,26,Em,tm,[.code EH_], .run, .normal,none⟩) (s.cxN cxN) λp s1=>Q p.1 (s1.cxN s.cx)):W (Ay envS (runF envS n) 26 [a0,a1]) s Q:=
 W.call (by kernel_rfl) (by kernel_rfl) BM_ (by kernel_rfl) rfl rfl (by simp) (h _ (by kernel_rfl) (by kernel_rfl))
theorem So_:Try.f26.results.toList=[.tmp 4]:=by kernel_rfl
def Tt:List Item:=skim 64 [.code EH_]
def L9:List Item:=skim 64 Tt.tail
theorem VG_:skim 64 Tt.tail=L9:=by kernel_rfl
def KS:List Item:=skim 64 L9.tail
theorem YB_:skim 64 L9.tail=KS:=by kernel_rfl
def M0:List Item:=skim 64 (brF KS)
theorem Afi_:skim 64 (brF KS)=M0:=by kernel_rfl
def HF:List Item:=skim 64 M0.tail
theorem Le_:skim 64 M0.tail=HF:=by kernel_rfl
def Il:List Item:=skim 64 HF.tail
theorem ES_:skim 64 HF.tail=Il:=by kernel_rfl
def Kv:List Item:=skim 64 (brT Il)
theorem AaF_:skim 64 (brT Il)=Kv:=by kernel_rfl
def NA:List Item:=skim 64 (brF Il)
theorem Mb_:skim 64 (brF Il)=NA:=by kernel_rfl
def Pd:List Item:=skim 64 Kv.tail
theorem AgZ_:skim 64 Kv.tail=Pd:=by kernel_rfl
def TB:List Item:=skim 64 NA.tail
theorem RI_:skim 64 NA.tail=TB:=by kernel_rfl
def TR:List Item:=skim 64 (brF Pd)
theorem MI_:skim 64 (brF Pd)=TR:=by kernel_rfl
theorem AaM_:skim 64 TR.tail=HF:=by kernel_rfl
def Cq_ (E:Env)(call round:Ad)(tm:T Value):M (T Value):=
 mv (some (.bool false)) λv4=>
 setF 4 v4 tm λtm1=>
 M.pure tm1
theorem Lb_:RegEq 26 26 Em Tt Cq_:=⟨by kernel_rfl,λ_ _ _ _ _ _ _ _ _=>by kernel_rfl⟩
def Ij_ (E:Env)(call round:Ad)(tm:T Value):M (T Value):=
 mv (T.get tm 0) λv6=>
 M.bind (oS (seqO [(some v6)]) λl=>A6 E .len [36] l) λv7=>
 mv (T.get tm 1) λv8=>
 M.bind (oS (seqO [(some v8)]) λl=>A6 E .len [36] l) λv9=>
 M.bind (oS (some v7) λa=>oS (some v9) λb=>Cl.get (aBin E .neq 3 (.tmp 7) (.tmp 9)) a b) λv10=>
 setF 10 v10 tm λtm1=>
 M.pure tm1
theorem AiR_:RegEq 26 26 Em L9 Ij_:=⟨by kernel_rfl,λ_ _ _ _ _ _ _ _ _=>by kernel_rfl⟩
theorem Sg_:A5 KS=some 10:=by kernel_rfl
def Wt (E:Env)(call round:Ad)(tm:T Value):M (T Value):=
 mv (some (.int .i64 0)) λv5=>
 setF 5 v5 tm λtm1=>
 M.pure tm1
theorem AdQ_:RegEq 26 26 Em M0 Wt:=⟨by kernel_rfl,λ_ _ _ _ _ _ _ _ _=>by kernel_rfl⟩
def Tu (E:Env)(call round:Ad)(tm:T Value):M (T Value):=
 mv (T.get tm 5) λv11=>
 mv (T.get tm 0) λv12=>
 M.bind (oS (seqO [(some v12)]) λl=>A6 E .len [36] l) λv13=>
 M.bind (oS (some v11) λa=>oS (some v13) λb=>Cl.get (aBin E .lss 3 (.tmp 11) (.tmp 13)) a b) λv14=>
 setF 14 v14 tm λtm1=>
 M.pure tm1
theorem JA_:RegEq 26 26 Em HF Tu:=⟨by kernel_rfl,λ_ _ _ _ _ _ _ _ _=>by kernel_rfl⟩
theorem Jk_:A5 Il=some 14:=by kernel_rfl
def Zs (E:Env)(call round:Ad)(tm:T Value):M ((Rho×T Value)×List OpLog):=
 M.bind (apartO (oS (T.get tm 0) λa=>M.pure a)) λp0=>
 M.bind (apartO (oS (T.get tm 5) λa=>M.pure a)) λp1=>
 M.bind (apartO (oS (some p0.1) λa=>oS (some p1.1) λb=>Bt E 36 a b)) λp2=>
 M.bind (apartO (oS (some p2.1) λa=>AD E 35 a)) λp3=>
 M.bind (apartO (oS (T.get tm 1) λa=>M.pure a)) λp4=>
 M.bind (apartO (oS (T.get tm 5) λa=>M.pure a)) λp5=>
 M.bind (apartO (oS (some p4.1) λa=>oS (some p5.1) λb=>Bt E 36 a b)) λp6=>
 M.bind (apartO (oS (some p6.1) λa=>AD E 35 a)) λp7=>
 M.pure (([p7.1,p6.1,p5.1,p4.1,p3.1,p2.1,p1.1,p0.1],tm),[p7.2,p6.2,p5.2,p4.2,p3.2,p2.2,p1.2,p0.2])
theorem RP_:DrawEq 26 26 Em Kv [0,0,3,7,0,0,48,112,255] Zs:=⟨by kernel_rfl,by kernel_rfl,λ_ _ _ _ _ _ _ _ _=>by kernel_rfl⟩
theorem Aaa_ (E:Env)(call round:Ad)(x17 x18 x19 x20 x21 x22 x23 x24:Value)(tm:T Value)(s:St):Bm call round (BM E Em 26 (hdC Kv)) [x24,x23,x22,x21,x20,x19,x18,x17] tm s=(M.bind (oS (some x20) λa=>oS (some x24) λb=>Cl.get (aBin E .neq 35 (.tmp 20) (.tmp 24)) a b) λv25=>setT 25 v25 tm λtm1=>M.pure tm1) s:=by kernel_rfl
def Gb_ (E:Env)(call round:Ad)(tm:T Value):M (T Value):=
 mv (some (.bool true)) λv4=>
 setF 4 v4 tm λtm1=>
 M.pure tm1
theorem Ahw_:RegEq 26 26 Em NA Gb_:=⟨by kernel_rfl,λ_ _ _ _ _ _ _ _ _=>by kernel_rfl⟩
theorem KM_:A5 Pd=some 25:=by kernel_rfl
theorem Aeg_: ∃k,TB= .code .ret::k:=⟨TB.tail,by kernel_rfl⟩
def YW (E:Env)(call round:Ad)(tm:T Value):M (T Value):=
 mv (T.get tm 5) λv15=>
 M.bind (oS (some v15) λa=>oS (some (.int .i64 1)) λb=>Cl.get (aBin E .add 3 (.tmp 15) (.const (.int .i64 1))) a b) λv16=>
 mv (some v16) λv5=>
 setF 5 v5 tm λtm1=>
 M.pure tm1
theorem Afw_:RegEq 26 26 Em TR YW:=⟨by kernel_rfl,λ_ _ _ _ _ _ _ _ _=>by kernel_rfl⟩
def E3:Nat:=Ba Try.f33
abbrev ZQ_:Nat:=16
def JX_:Code:=Try.f33.body.getD .skip
theorem WG:envS.fn.get 33=some Try.f33:=by kernel_rfl
theorem AeH_ {a0 a1:Value}{n:Nat}{s:St}{Q:Value->St->Prop}(h: ∀tm,T.get tm 0=some a0->T.get tm 1=some a1->W (runF envS n ⟨33,16,E3,tm,[.code JX_], .run, .normal,none⟩) (s.cxN cxN) λp s1=>Q p.1 (s1.cxN s.cx)):W (Ay envS (runF envS n) 33 [a0,a1]) s Q:=
 W.call (by kernel_rfl) (by kernel_rfl) WG (by kernel_rfl) rfl rfl (by simp) (h _ (by kernel_rfl) (by kernel_rfl))
theorem AeE_:Try.f33.results.toList=[.tmp 4]:=by kernel_rfl
def QT:List Item:=skim 64 [.code JX_]
def OX:List Item:=skim 64 QT.tail
theorem Abx_:skim 64 QT.tail=OX:=by kernel_rfl
def LA:List Item:=skim 64 OX.tail
theorem NW_:skim 64 OX.tail=LA:=by kernel_rfl
def LR:List Item:=skim 64 (brF LA)
theorem Yi_:skim 64 (brF LA)=LR:=by kernel_rfl
def Mr:List Item:=skim 64 LR.tail
theorem XM_:skim 64 LR.tail=Mr:=by kernel_rfl
def IL:List Item:=skim 64 Mr.tail
theorem Wu:skim 64 Mr.tail=IL:=by kernel_rfl
def VD:List Item:=skim 64 (brT IL)
theorem Agd_:skim 64 (brT IL)=VD:=by kernel_rfl
def Ix:List Item:=skim 64 (brF IL)
theorem AjK_:skim 64 (brF IL)=Ix:=by kernel_rfl
theorem Xc_:skim 64 VD.tail=Ix:=by kernel_rfl
def TQ:List Item:=skim 64 Ix.tail
theorem AiZ_:skim 64 Ix.tail=TQ:=by kernel_rfl
def Ya (E:Env)(call round:Ad)(tm:T Value):M (T Value):=
 mv (some (.int .i64 0)) λv4=>
 setF 4 v4 tm λtm1=>
 M.pure tm1
theorem Aar_:RegEq 33 16 E3 QT Ya:=⟨by kernel_rfl,λ_ _ _ _ _ _ _ _ _=>by kernel_rfl⟩
def WF (E:Env)(call round:Ad)(tm:T Value):M (T Value):=
 mv (T.get tm 1) λv5=>
 M.bind (oS (some v5) λa=>oS (some (.int .i64 1)) λb=>Cl.get (aBin E .lss 3 (.tmp 5) (.const (.int .i64 1))) a b) λv6=>
 setF 6 v6 tm λtm1=>
 M.pure tm1
theorem NA_:RegEq 33 16 E3 OX WF:=⟨by kernel_rfl,λ_ _ _ _ _ _ _ _ _=>by kernel_rfl⟩
theorem Abg_:A5 LA=some 6:=by kernel_rfl
def Iq_ (E:Env)(call round:Ad)(tm:T Value):M (T Value):=
 mv (T.get tm 0) λv7=>
 mv (T.get tm 1) λv8=>
 M.bind (oS (some v7) λa=>oS (some v8) λb=>Cl.get (aBin E .rem 3 (.tmp 7) (.tmp 8)) a b) λv9=>
 mv (some v9) λv0=>
 setF 0 v0 tm λtm1=>
 M.pure tm1
theorem AcJ_:RegEq 33 16 E3 LR Iq_:=⟨by kernel_rfl,λ_ _ _ _ _ _ _ _ _=>by kernel_rfl⟩
def Bt_ (E:Env)(call round:Ad)(tm:T Value):M (T Value):=
 mv (T.get tm 0) λv10=>
 M.bind (oS (some v10) λa=>oS (some (.int .i64 0)) λb=>Cl.get (aBin E .lss 3 (.tmp 10) (.const (.int .i64 0))) a b) λv11=>
 setF 11 v11 tm λtm1=>
 M.pure tm1
theorem YX_:RegEq 33 16 E3 Mr Bt_:=⟨by kernel_rfl,λ_ _ _ _ _ _ _ _ _=>by kernel_rfl⟩
theorem XW:A5 IL=some 11:=by kernel_rfl
def W6 (E:Env)(call round:Ad)(tm:T Value):M (T Value):=
 mv (T.get tm 0) λv12=>
 mv (T.get tm 1) λv13=>
 M.bind (oS (some v12) λa=>oS (some v13) λb=>Cl.get (aBin E .add 3 (.tmp 12) (.tmp 13)) a b) λv14=>
 mv (some v14) λv0=>
 setF 0 v0 tm λtm1=>
 M.pure tm1
theorem PQ_:RegEq 33 16 E3 VD W6:=⟨by kernel_rfl,λ_ _ _ _ _ _ _ _ _=>by kernel_rfl⟩
def Az_ (E:Env)(call round:Ad)(tm:T Value):M (T Value):=
 mv (T.get tm 0) λv15=>
 mv (some v15) λv4=>
 setF 4 v4 tm λtm1=>
 M.pure tm1
theorem Kt_:RegEq 33 16 E3 Ix Az_:=⟨by kernel_rfl,λ_ _ _ _ _ _ _ _ _=>by kernel_rfl⟩
theorem Alk_: ∃k,TQ= .code .ret::k:=⟨TQ.tail,by kernel_rfl⟩
theorem D5:slN envS 36=some 18:=by kernel_rfl
def HsR (s:St)(v:Value)(hs:List Hd):Prop:=(v= .slice none 0 0/\hs=[])\/ ∃b o c,v= .slice (some ⟨b,o,none⟩) hs.length c/\Row s b o (Cj hs)
def HsF (v:Value)(x:Nat):Prop:=match v with| .slice (some a) n _=>In a.block a.off (n*18) x|_=>False
theorem HsR.same {s s':St}{v:Value}{hs:List Hd}(h:HsR s v hs)(hm:s'.mem=s.mem)(hn:s'.next=s.next):HsR s' v hs:=by
 rcases h with h|⟨b,o,c,h0,h3⟩
 ·exact .inl h
 ·exact .inr ⟨b,o,c,h0,λi v e=>(h3 i v e).same hm hn⟩
theorem HsR.len {s s':St}{v:Value}{hs:List Hd}(h:HsR s v hs)(Q:Value->St->Prop):W (A6 envS .len [36] [v]) s' Q=Q (.int .i64 (hs.length:Nat)) s':=by
 rcases h with⟨rfl,rfl⟩|⟨b,o,c,rfl,_⟩
 ·exact Cc D5 Q
 ·exact Cc D5 Q
theorem WD (l:List Hd)(m:List Hd):Cj (l++m)=Cj l++Cj m:=by
 induction l with
 |nil=>rfl
 |cons h l ih=>show Dj h++Cj (l++m)=(Dj h++Cj l)++Cj m;rw[ih,List.append_assoc]
theorem He_ {hs:List Hd}(h16: ∀h∈hs,h.1.length=16){i:Nat}(hi:i<hs.length){j:Nat}(hj:j<18):(Cj hs)[i*18+j]?=(Dj hs[i])[j]?:=by
 have e:hs=hs.take i++hs[i]::hs.drop (i+1):=by rw[List.getElem_cons_drop,List.take_append_drop]
 have hl:(Cj (hs.take i)).length=i*18:=by
  rw[FK_ λh hh=>h16 h (List.mem_of_mem_take hh),List.length_take]
  congr 1;omega
 have h18:(Dj hs[i]).length=18:=O3 (h16 _ (List.getElem_mem hi))
 conv=>lhs;rw[e,WD]
 rw[List.getElem?_append_right (by omega),hl,show i*18+j-i*18=j by omega]
 show(Dj hs[i]++Cj (hs.drop (i+1)))[j]?=_
 rw[List.getElem?_append_left (by omega)]
theorem HsR.at {s:St}{v:Value}{hs:List Hd}(h:HsR s v hs)(h16: ∀h∈hs,h.1.length=16){i:Nat}(hi:i<hs.length): ∃b o c,v= .slice (some ⟨b,o,none⟩) hs.length c/\Row s b (o+i*18) (Dj hs[i])/\(∀x,In b (o+i*18) 18 x->HsF v x):=by
 rcases h with⟨rfl,rfl⟩|⟨b,o,c,rfl,h3⟩
 ·simp at hi
 ·refine⟨b,o,c,rfl,λj u e=> ?_,λx hx=>⟨by have:=hx.1;show b+o<=x;omega,by
   have h2:x<b+(o+i*18)+18:=hx.2
   show x<b+o+hs.length*18
   have:(i+1)*18<=hs.length*18:=Nat.mul_le_mul_right 18 hi
   omega⟩⟩
  have hj:j<18:=by
   have:=(List.getElem?_eq_some_iff.1 e).1
   rwa [O3 (h16 _ (List.getElem_mem hi))]at this
  have:=h3 (i*18+j) u (by rw[He_ h16 hi hj];exact e)
  rwa [show o+(i*18+j)=o+i*18+j by omega]at this
theorem Dx (l:List Value):cellsOf (.agg l.toArray)=l:=rfl
theorem Bs.len' {E:Env}{s s':St}{t sz:Nat}{v:Value}{l:List Nat}(h:Bs s v l)(ht:slN E t=some sz)(Q:Value->St->Prop):W (A6 E .len [t] [v]) s' Q=Q (.int .i64 (l.length:Nat)) s':=by
 obtain⟨p,c,rfl⟩:=h.sl
 exact Cc ht Q
abbrev Any:Nat->Prop:=λ_=>True
theorem Ext.any {F G:Nat->Prop}{s s1:St}(h:Ext F G s s1)(hb:s.lim<=s.next):Ext Any G s s1:=h.weak hb (λ_ _ _=>trivial) λ_ _ h=>h
theorem Ext.then0 {F:Nat->Prop}{s s1 s2:St}(h:Ext Any Non s s1)(k:Ext F Non s1 s2)(hb:s.lim<=s.next):Ext Any Non s s2:=h.trans k hb (λ_ _ _=>trivial) λ_ _ h=>h
theorem Ext.thenRd {s s1:St}(h:Ext Any Non s s1)(hb:s.lim<=s.next)(l:Nat):Ext Any Non s (s1.rdN l):=h.then0 (Ext.rdN (F:=Any) s1 l λ_=>trivial) hb
abbrev HdI:Type:=List Nat×Int×Int
def A9 (h:HdI):List Value:=u8l h.1++[.int .i64 h.2.1, .int .i64 h.2.2]
theorem C6 {h:HdI}(h16:h.1.length=16):(A9 h).length=18:=by
 unfold A9
 rw[List.length_append,Bu,h16]
 rfl
theorem Qn (h:HdI):(A9 h).all oneCell=true:=by
 unfold A9
 rw[List.all_append,DI]
 rfl
def BN:List HdI->List Value
 |[]=>[]
 |h::l=>A9 h++BN l
theorem Po: ∀{l:List HdI},(∀h∈l,h.1.length=16)->(BN l).length=l.length*18
 |[],_=>rfl
 |h::l,hl=>by
  unfold BN
  rw[List.length_append,C6 (hl h (by simp)),Po λx hx=>hl x (by simp[hx]),List.length_cons]
  omega
theorem IW {h:HdI}(h16:h.1.length=16):(A9 h)[16]?=some (.int .i64 h.2.1)/\(A9 h)[17]?=some (.int .i64 h.2.2):=by
 unfold A9
 have:(u8l h.1).length=16:=by rw[Bu];exact h16
 constructor
 ·rw[List.getElem?_append_right (by omega),this];rfl
 ·rw[List.getElem?_append_right (by omega),this];rfl
def toI (h:Hd):HdI:=(h.1,(h.2.1:Int),(h.2.2:Int))
theorem Dh_: ∀l:List Hd,BN (l.map toI)=Cj l
 |[]=>rfl
 |h::l=>by show A9 (toI h)++BN (l.map toI)=Dj h++Cj l;rw[Dh_ l];rfl
section
variable {P:Program}{E:Env}{s:St}{t:Nat}
theorem Oa_ {h:HdI}(h16:h.1.length=16):(A9 h).toArray.extract 0 (0+16)=(u8l h.1).toArray:=by
 apply Array.ext'
 rw[Array.toList_extract]
 simp only[List.extract,Nat.zero_add,List.drop_zero,Nat.sub_zero]
 unfold A9
 rw[List.take_left' (by rw[Bu];exact h16)]
theorem Vu_ {h:HdI}(h16:h.1.length=16):(A9 h).toArray[16]?=some (.int .i64 h.2.1)/\(A9 h).toArray[17]?=some (.int .i64 h.2.2):=by
 rw[List.getElem?_toArray,List.getElem?_toArray]
 exact IW h16
theorem NK_ (d:Nat){h:HdI}(h16:h.1.length=16)(hT:FC P t=true):semP P (Op.equalIn (d+3) t (.agg (A9 h).toArray) (.agg (A9 h).toArray))=some true:=by
 unfold FC at hT
 split at hT
 ·rename_i fs hu
  split at hT
  ·rename_i f0 f1 f2 hfs
   simp only[Bool.and_eq_true,bne_iff_ne,ne_eq,Bool.not_eq_true']at hT
   obtain⟨⟨⟨⟨⟨⟨⟨⟨n0,n1⟩,n2⟩,o0⟩,o1⟩,o2⟩,st⟩,_⟩,rest⟩:=hT
   split at rest
   ·rename_i e i0 u0 i0' u1 u2
    rw[Bool.and_eq_true]at rest
    obtain⟨z0,rest⟩:=rest
    split at rest
    ·rename_i ie ue hie
     have o0:=Nat.eq_of_beq_eq_true o0
     have o1:=Nat.eq_of_beq_eq_true o1
     have o2:=Nat.eq_of_beq_eq_true o2
     have z0:=Nat.eq_of_beq_eq_true z0
     have z1:=Nat.eq_of_beq_eq_true rest
     obtain⟨hc1,hc2⟩:=Vu_ h16
     have hp:semP P program=some P:=rfl
     rw[show d+3=(d+2)+1 from rfl]
     unfold Op.equalIn
     simp only[Cs,Ho hu,Option.bind_some,hp,st,Bool.false_eq_true,if_false]
     rw[<-Array.forIn_toList,hfs]
     simp only[List.forIn_cons,List.forIn_nil,n0,n1,n2,not_false_eq_true,if_true,Cs,o0,o1,o2,ne_eq]
     rw[Akl_ u0 i0' z0,Oa_ h16]
     simp only[Option.bind_some]
     rw[show d+2=d+2 from rfl,QN_ d h.1 h.1 u0 hie z1 ue h16 h16]
     simp only[Option.bind_some,decide_true,Bool.not_true,Bool.false_eq_true,if_false,D0,Cs]
     rw[Oc u1 hc1]
     simp only[Option.bind_some]
     rw[show d+2=(d+1)+1 from rfl,ZU u1]
     simp only[Option.bind_some,Bool.not_true,Bool.false_eq_true,if_false,D0,Cs]
     rw[Oc u2 hc2]
     simp only[Option.bind_some]
     rw[ZU u2]
     simp only[Option.bind_some,Bool.not_true,Bool.false_eq_true,if_false,D0]
    ·cases rest
   ·cases rest
  ·cases hT
 ·cases hT
theorem Ps_ (h:HdI):plain (.agg (A9 h).toArray)=true:=by
 show(A9 h).toArray.toList.all (Bz 3)=true
 rw[List.all_eq_true]
 intro v hv
 have hv':v∈A9 h:=hv
 unfold A9 at hv'
 rcases List.mem_append.1 hv' with hv|hv
 ·obtain⟨n,_,rfl⟩:=List.mem_map.1 hv
  rfl
 ·simp only[List.mem_cons,List.not_mem_nil,or_false]at hv
  rcases hv with rfl|rfl<;>rfl
theorem Ait_ {h:HdI}{xo yo:Operand}(h16:h.1.length=16)(hT:FC E.P t=true):Cl.get (aBin E .neq t xo yo) (.agg (A9 h).toArray) (.agg (A9 h).toArray) s= .some (.bool false) s:=by
 show Bi E .neq t xo yo (.agg (A9 h).toArray) (.agg (A9 h).toArray) s=_
 unfold Bi
 rw[Ps_]
 show M.on (semP E.P (do eqGuard .neq t xo yo (.agg (A9 h).toArray) (.agg (A9 h).toArray);binOp .neq t (.agg (A9 h).toArray) (.agg (A9 h).toArray))) pV s=_
 rw[Cs,AdD_ (TD_ hT)]
 show M.on (semP E.P (do pure (.bool (!(<-Op.equalIn (9997+3) t (.agg (A9 h).toArray) (.agg (A9 h).toArray)))))) pV s=_
 rw[Cs,NK_ 9997 h16 hT]
 rfl
theorem Aev_ {h:HdI}{xo yo:Operand}(h16:h.1.length=16)(hT:FC E.P t=true)(Q:Value->St->Prop):W (Cl.get (aBin E .neq t xo yo) (.agg (A9 h).toArray) (.agg (A9 h).toArray)) s Q=Q (.bool false) s:=Bd (Ait_ h16 hT)
end
def HiR (s:St)(v:Value)(hs:List HdI):Prop:=(v= .slice none 0 0/\hs=[])\/ ∃b o c,v= .slice (some ⟨b,o,none⟩) hs.length c/\Row s b o (BN hs)
def HiF (v:Value)(x:Nat):Prop:=match v with| .slice (some a) n _=>In a.block a.off (n*18) x|_=>False
theorem HiR.same {s s':St}{v:Value}{hs:List HdI}(h:HiR s v hs)(hm:s'.mem=s.mem)(hn:s'.next=s.next):HiR s' v hs:=by
 rcases h with h|⟨b,o,c,h0,h3⟩
 ·exact .inl h
 ·exact .inr ⟨b,o,c,h0,λi v e=>(h3 i v e).same hm hn⟩
theorem HiR.len {s s':St}{v:Value}{hs:List HdI}(h:HiR s v hs)(Q:Value->St->Prop):W (A6 envS .len [36] [v]) s' Q=Q (.int .i64 (hs.length:Nat)) s':=by
 rcases h with⟨rfl,rfl⟩|⟨b,o,c,rfl,_⟩
 ·exact Cc D5 Q
 ·exact Cc D5 Q
theorem Acl_ (l:List HdI)(m:List HdI):BN (l++m)=BN l++BN m:=by
 induction l with
 |nil=>rfl
 |cons h l ih=>show A9 h++BN (l++m)=(A9 h++BN l)++BN m;rw[ih,List.append_assoc]
theorem RK_ {hs:List HdI}(h16: ∀h∈hs,h.1.length=16){i:Nat}(hi:i<hs.length){j:Nat}(hj:j<18):(BN hs)[i*18+j]?=(A9 hs[i])[j]?:=by
 have e:hs=hs.take i++hs[i]::hs.drop (i+1):=by rw[List.getElem_cons_drop,List.take_append_drop]
 have hl:(BN (hs.take i)).length=i*18:=by
  rw[Po λh hh=>h16 h (List.mem_of_mem_take hh),List.length_take]
  congr 1;omega
 have h18:(A9 hs[i]).length=18:=C6 (h16 _ (List.getElem_mem hi))
 conv=>lhs;rw[e,Acl_]
 rw[List.getElem?_append_right (by omega),hl,show i*18+j-i*18=j by omega]
 show(A9 hs[i]++BN (hs.drop (i+1)))[j]?=_
 rw[List.getElem?_append_left (by omega)]
theorem HiR.at {s:St}{v:Value}{hs:List HdI}(h:HiR s v hs)(h16: ∀h∈hs,h.1.length=16){i:Nat}(hi:i<hs.length): ∃b o c,v= .slice (some ⟨b,o,none⟩) hs.length c/\Row s b (o+i*18) (A9 hs[i])/\(∀x,In b (o+i*18) 18 x->HiF v x):=by
 rcases h with⟨rfl,rfl⟩|⟨b,o,c,rfl,h3⟩
 ·simp at hi
 ·refine⟨b,o,c,rfl,λj u e=> ?_,λx hx=>⟨by have:=hx.1;show b+o<=x;omega,by
   have h2:x<b+(o+i*18)+18:=hx.2
   show x<b+o+hs.length*18
   have:(i+1)*18<=hs.length*18:=Nat.mul_le_mul_right 18 hi
   omega⟩⟩
  have hj:j<18:=by
   have:=(List.getElem?_eq_some_iff.1 e).1
   rwa [C6 (h16 _ (List.getElem_mem hi))]at this
  have:=h3 (i*18+j) u (by rw[RK_ h16 hi hj];exact e)
  rwa [show o+(i*18+j)=o+i*18+j by omega]at this
theorem TE_ {va vb:Value}{hs:List HdI}{F:Nat->Prop}(hFa: ∀x,HiF va x->F x)(hFb: ∀x,HiF vb x->F x){Q:Value×FrameMode->St->Prop}{s0:St}(hb0:s0.lim<=s0.next)(ha:HiR s0 va hs)(hb:HiR s0 vb hs)(h16: ∀h∈hs,h.1.length=16)(hz:hs.length<=4611686018427387904)(hcx:s0.cx= .cx none (some []))(q: ∀s1,Ext F Non s0 s1->s1.mem=s0.mem->s1.next=s0.next->Q (.bool true, .run) s1):
  ∀(k i n:Nat) (tm:T Value) (s:St) (td:List Item),i+k=hs.length->7*k+20<=n->skim 64 td=HF->Ext F Non s0 s->s.mem=s0.mem->s.next=s0.next->
  T.get tm 0=some va->T.get tm 1=some vb->T.get tm 5=some (.int .i64 (i:Nat))->
  W (runF envS n ⟨26,PH_,Em,tm,td, .run, .normal,none⟩) s Q:=by
 intro k
 induction k with
 |zero=>
  intro i n tm s td hi hn hT hx hm hnx h0 h1 h5
  refine JA_.w hT (by omega) ?_
  simp only[Tu,Ac,W_oS,Aa,W_mv,Ab,Ag,Af,Ae,h0,h5]
  rw[ha.len]
  simp only[Bg]
  refine W.cond (v:=false) ES_ Jk_ (by simp[aA];omega) (by omega) (λh=>by cases h) λ_=> ?_
  refine Ahw_.w Mb_ (by omega) ?_
  simp only[Gb_,Aa,W_mv,Ab]
  refine aG (rs:=[4]) (vs:=[.bool true]) RI_ (.inl Aeg_) (by omega) BM_ So_ (hx.cx.trans hcx) (by simp[aA]) ?_
  exact q s hx hm hnx
 |succ k ih=>
  intro i n tm s td hi hn hT hx hm hnx h0 h1 h5
  have hil:i<hs.length:=by omega
  have hI:(A9 hs[i]).length=18:=C6 (h16 _ (List.getElem_mem hil))
  obtain⟨ba,oa,ca,rfl,ga,fa⟩:=ha.at h16 hil
  obtain⟨bb,ob,cb,rfl,gb,fb⟩:=hb.at h16 hil
  refine JA_.w hT (by omega) ?_
  simp only[Tu,Ac,W_oS,Aa,W_mv,Ab,Ag,Af,Ae,h0,h5]
  rw[Cc D5]
  simp only[Bg]
  refine W.cond (v:=true) ES_ Jk_ (by simp[aA];omega) (by omega) (λ_=> ?_) λh=>by cases h
  refine RP_.w AaF_ (by omega) ?_
  simp only[Zs,aA,Nat.reduceEqDiff, ↓reduceIte,h0,h1,h5,BW,Br]
  rw[W_dq λs Q=>BX (s:=s) D5 hil Q]
  refine W.dloadA Fu (λj u e=>(ga j u e).same hm hnx) hI λm1 rd1 e1 hr1=> ?_
  subst e1
  simp only[Br]
  rw[W_dq λs Q=>BX (s:=s) D5 hil Q]
  refine W.dloadA Fu (λj u e=>(gb j u e).same hm hnx) hI λm2 rd2 e2 hr2=> ?_
  subst e2
  rw[Aa]
  refine⟨D9 (by simp) (by simp), ?_⟩
  refine W.cast (Aaa_ _ _ _ _ _ _ _ _ _ _ _ _ _) ?_
  simp only[Ac,W_oS,Aa,Ar]
  rw[Aev_ (h16 _ (List.getElem_mem hil)) Sq_]
  generalize hs':(⟨(dSt s.mem s.next).mem,(dSt s.mem s.next).next,s.lim,_,_,s.cx⟩:St)=s'
  have hx':Ext F Non s0 s':=by
   rw[<-hs']
   refine hx.trans (Ext.draw (F:=F) (Nat.le_refl _) (λ_ _=>rfl) (by simp) (by
    simp only[List.mem_cons,List.not_mem_nil,or_false]
    rintro m (rfl|rfl|rfl|rfl|rfl|rfl|rfl|rfl) x hx _<;>first|(exact hFa _ (fa _ (hr1 _ hx)))|(exact hFb _ (fb _ (hr2 _ hx)))|(cases hx))) hb0 (λ_ _ h=>h) λ_ _ h=>h
  have hm':s'.mem=s0.mem:=by rw[<-hs'];exact hm
  have hn':s'.next=s0.next:=by rw[<-hs'];exact hnx
  refine W.cond (v:=false) AgZ_ KM_ (by simp[aA]) (by omega) (λh=>by cases h) λ_=> ?_
  refine Afw_.w MI_ (by omega) ?_
  have ei:wrap64 ((i:Nat)+1:Int)=((i+1:Nat):Int):=by
   rw[Bq (by omega) (by omega)];simp
  simp only[YW,Ac,W_oS,Aa,W_mv,Ab,aA,Nat.reduceEqDiff, ↓reduceIte,BG,h5,ei]
  exact ih (i+1) _ _ _ _ (by omega) (by omega) AaM_ hx' hm' hn' (by simp[aA,h0]) (by simp[aA,h1]) (by simp[aA])
theorem Aeq_ {va vb:Value}{hs:List HdI}{n:Nat}{s:St}{Q:Value->St->Prop}(hbd:s.lim<=s.next)(ha:HiR s va hs)(hb:HiR s vb hs)(h16: ∀h∈hs,h.1.length=16)(hz:hs.length<=4611686018427387904)(hn:7*hs.length+40<=n)
  (q: ∀s1,Ext (λx=>HiF va x\/HiF vb x) Non s s1->s1.mem=s.mem->s1.next=s.next->Q (.bool true) s1):W (Ay envS (runF envS n) 26 [va,vb]) s Q:=by
 refine Oz_ λtm h0 h1=> ?_
 have ha':HiR (s.cxN cxN) va hs:=ha.same rfl rfl
 have hb':HiR (s.cxN cxN) vb hs:=hb.same rfl rfl
 refine Lb_.w rfl (by omega) ?_
 simp only[Cq_,Aa,W_mv,Ab]
 refine AiR_.w VG_ (by omega) ?_
 simp only[Ij_,Ac,W_oS,Aa,W_mv,Ab,aA,Ag,Af,Ae,Nat.reduceEqDiff,reduceCtorEq, ↓reduceIte,h0,h1]
 rw[ha'.len,hb'.len]
 simp only[Co]
 refine W.cond (v:=false) YB_ Sg_ (by simp[aA]) (by omega) (λh=>by cases h) λ_=> ?_
 refine AdQ_.w Afi_ (by omega) ?_
 simp only[Wt,Aa,W_mv,Ab]
 exact TE_ (s0:=s.cxN cxN) (F:=λx=>HiF va x\/HiF vb x) (λ_ h=> .inl h) (λ_ h=> .inr h) hbd ha' hb' h16 hz rfl (λs1 x1 m1 n1=>q _ x1.cx' m1 n1) hs.length 0 _ _ _ _ (by omega) (by omega) Le_ (Ext.refl _) rfl rfl (by simp[aA,h0]) (by simp[aA,h1]) (by simp[aA])
theorem HsR.toI {s:St}{v:Value}{hs:List Hd}(h:HsR s v hs):HiR s v (hs.map toI):=by
 rcases h with⟨rfl,rfl⟩|⟨b,o,c,rfl,h3⟩
 ·exact .inl ⟨rfl,rfl⟩
 ·exact .inr ⟨b,o,c,by rw[List.length_map],by rw[Dh_];exact h3⟩
theorem HiR.ext {F G:Nat->Prop}{s s':St}{v:Value}{hs:List HdI}(h:HiR s v hs)(h16: ∀h∈hs,h.1.length=16)(e:Ext F G s s')(hG: ∀x,HiF v x-> ¬G x):HiR s' v hs:=by
 rcases h with h|⟨b,o,c,h0,h3⟩
 ·exact .inl h
 ·refine .inr ⟨b,o,c,h0,h3.ext e λi hi=>hG _ ?_⟩
  rw[Po h16]at hi
  rw[h0]
  exact⟨by show b+o<=b+(o+i);omega,by show b+(o+i)<b+o+hs.length*18;omega⟩
theorem HiR.ext0 {F:Nat->Prop}{s s':St}{v:Value}{hs:List HdI}(h:HiR s v hs)(e:Ext F Non s s'):HiR s' v hs:=by
 rcases h with h|⟨b,o,c,h0,h3⟩
 ·exact .inl h
 ·exact .inr ⟨b,o,c,h0,h3.ext0 e⟩
theorem HiR.lt {s:St}{v:Value}{hs:List HdI}(h:HiR s v hs)(h16: ∀h∈hs,h.1.length=16): ∀x,HiF v x->x<s.next:=by
 intro x hx
 rcases h with⟨rfl,_⟩|⟨b,o,c,rfl,h3⟩
 ·exact hx.elim
 ·have h1:b+o<=x:=hx.1
  have h2:x<b+o+hs.length*18:=hx.2
  have hl:x-(b+o)<(BN hs).length:=by rw[Po h16];omega
  have:=(h3 (x-(b+o)) _ (List.getElem?_eq_getElem hl)).1
  omega
theorem HiR.one {s:St}{v:Value}{hs:List HdI}(h:HiR s v hs):oneCell v=true:=by
 rcases h with⟨rfl,_⟩|⟨b,o,c,rfl,_⟩<;>rfl
theorem CZ:slN envS 55=some 3:=by kernel_rfl
theorem C9:tyS envS 85=some (3,true):=by kernel_rfl
theorem G9:D8 envS 85=some [.int .i64 0, .int .i64 0, .slice none 0 0]:=by kernel_rfl
theorem Fr:fldN envS 85 0=some (0,1,false):=by kernel_rfl
theorem FL:fldN envS 85 1=some (1,1,false):=by kernel_rfl
theorem Eg:fldN envS 85 2=some (2,1,false):=by kernel_rfl
theorem Sf_:elT envS 55=some (3,40,[.int .i64 0, .int .i64 0, .slice none 0 0]):=by kernel_rfl
theorem KL_:appT envS 55 55=some (3,40,false,[.int .i64 0, .int .i64 0, .slice none 0 0]):=by kernel_rfl
structure PkI where
 num:Int
 size:Int
 v:Value
 hs:List HdI
def pkC (p:PkI):List Value:=[.int .i64 p.num, .int .i64 p.size,p.v]
def pkCs:List PkI->List Value
 |[]=>[]
 |p::l=>pkC p++pkCs l
theorem U4: ∀l:List PkI,(pkCs l).length=l.length*3
 |[]=>rfl
 |p::l=>by
  show(pkC p++pkCs l).length=_
  rw[List.length_append,U4 l,List.length_cons]
  show 3+_=_
  omega
theorem WR (l m:List PkI):pkCs (l++m)=pkCs l++pkCs m:=by
 induction l with
 |nil=>rfl
 |cons h l ih=>show pkC h++pkCs (l++m)=(pkC h++pkCs l)++pkCs m;rw[ih,List.append_assoc]
theorem XZ_ {ps:List PkI}{i:Nat}(hi:i<ps.length){j:Nat}(hj:j<3):(pkCs ps)[i*3+j]?=(pkC ps[i])[j]?:=by
 have e:ps=ps.take i++ps[i]::ps.drop (i+1):=by rw[List.getElem_cons_drop,List.take_append_drop]
 have hl:(pkCs (ps.take i)).length=i*3:=by
  rw[U4,List.length_take]
  congr 1;omega
 conv=>lhs;rw[e,WR]
 rw[List.getElem?_append_right (by omega),hl,show i*3+j-i*3=j by omega]
 show(pkC ps[i]++pkCs (ps.drop (i+1)))[j]?=_
 rw[List.getElem?_append_left (show j<3 from hj)]
structure PkR (s:St)(v:Value)(ps:List PkI):Prop where
 row:(v= .slice none 0 0/\ps=[])\/ ∃b o c,v= .slice (some ⟨b,o,none⟩) ps.length c/\Row s b o (pkCs ps)
 hs: ∀p∈ps,HiR s p.v p.hs
 h16: ∀p∈ps,∀h∈p.hs,h.1.length=16
def PkF (v:Value)(ps:List PkI)(x:Nat):Prop:=(match v with| .slice (some a) n _=>In a.block a.off (n*3) x|_=>False)\/ ∃p∈ps,HiF p.v x
theorem PkR.same {s s':St}{v:Value}{ps:List PkI}(h:PkR s v ps)(hm:s'.mem=s.mem)(hn:s'.next=s.next):PkR s' v ps:=by
 refine⟨?_,λp hp=>(h.hs p hp).same hm hn,h.h16⟩
 rcases h.row with h|⟨b,o,c,h0,h3⟩
 ·exact .inl h
 ·exact .inr ⟨b,o,c,h0,λi v e=>(h3 i v e).same hm hn⟩
theorem PkR.ext {F G:Nat->Prop}{s s':St}{v:Value}{ps:List PkI}(h:PkR s v ps)(e:Ext F G s s')(hG: ∀x,PkF v ps x-> ¬G x):PkR s' v ps:=by
 refine⟨?_,λp hp=>(h.hs p hp).ext (h.h16 p hp) e λx hx=>hG x (.inr ⟨p,hp,hx⟩),h.h16⟩
 rcases h.row with h|⟨b,o,c,h0,h3⟩
 ·exact .inl h
 ·refine .inr ⟨b,o,c,h0,h3.ext e λi hi=>hG _ (.inl ?_)⟩
  rw[U4]at hi
  rw[h0]
  exact⟨by show b+o<=_;omega,by show b+(o+i)<b+o+ps.length*3;omega⟩
theorem PkR.ext0 {F:Nat->Prop}{s s':St}{v:Value}{ps:List PkI}(h:PkR s v ps)(e:Ext F Non s s'):PkR s' v ps:=h.ext e λ_ _=>id
theorem PkR.len {s s':St}{v:Value}{ps:List PkI}(h:PkR s v ps)(Q:Value->St->Prop):W (A6 envS .len [55] [v]) s' Q=Q (.int .i64 (ps.length:Nat)) s':=by
 rcases h.row with⟨rfl,rfl⟩|⟨b,o,c,rfl,_⟩
 ·exact Cc CZ Q
 ·exact Cc CZ Q
theorem PkR.one {s:St}{v:Value}{ps:List PkI}(h:PkR s v ps):oneCell v=true:=by
 rcases h.row with⟨rfl,_⟩|⟨b,o,c,rfl,_⟩<;>rfl
theorem PkR.at {s:St}{v:Value}{ps:List PkI}(h:PkR s v ps){i:Nat}(hi:i<ps.length): ∃b o c,v= .slice (some ⟨b,o,none⟩) ps.length c/\Row s b (o+i*3) (pkC ps[i])/\HiR s ps[i].v ps[i].hs/\(∀h∈ps[i].hs,h.1.length=16)/\(∀x,In b (o+i*3) 3 x->PkF v ps x)/\(∀x,HiF ps[i].v x->PkF v ps x):=by
 have hm:=List.getElem_mem hi
 rcases h.row with⟨rfl,rfl⟩|⟨b,o,c,rfl,h3⟩
 ·simp at hi
 ·refine⟨b,o,c,rfl,λj u e=> ?_,h.hs _ hm,h.h16 _ hm,λx hx=> .inl ⟨by have:=hx.1;show b+o<=x;omega,by
   have h2:x<b+(o+i*3)+3:=hx.2
   show x<b+o+ps.length*3
   have:(i+1)*3<=ps.length*3:=Nat.mul_le_mul_right 3 hi
   omega⟩,λx hx=> .inr ⟨_,hm,hx⟩⟩
  have hj:j<3:=(List.getElem?_eq_some_iff.1 e).1
  have:=h3 (i*3+j) u (by rw[XZ_ hi hj];exact e)
  rwa [show o+(i*3+j)=o+i*3+j by omega]at this
theorem K9 {s:St}{p:PkI}(h:HiR s p.v p.hs):(pkC p).all oneCell=true:=by
 have:=h.one
 unfold pkC
 simp[oneCell]at this ⊢
 exact this
end Go.Proofs.Ytofanlcjeohcjaa.Am
end
