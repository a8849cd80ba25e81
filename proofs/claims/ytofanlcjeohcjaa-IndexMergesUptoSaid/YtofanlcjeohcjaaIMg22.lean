import Derived.Test.YtofanlcjeohcjaaIMg21
noncomputable section
namespace Go.Proofs.Ytofanlcjeohcjaa.Am
open Go.RowKit
section
variable {p:PkI}{Q:Value×FrameMode->St->Prop}
end
def BD (ps:List PkI):Nat:=(ps.map λp=>p.hs.length).sum
theorem EA_ {ps:List PkI}{i:Nat}(hi:i<ps.length):BD (ps.take (i+1))=BD (ps.take i)+ps[i].hs.length:=by
 unfold BD
 rw[List.take_succ_eq_append_getElem hi,List.map_append,List.sum_append]
 simp
theorem OD_ {ps:List PkI}(i:Nat):BD (ps.take i)<=BD ps:=by
 have e:BD ps=BD (ps.take i)+BD (ps.drop i):=by
  unfold BD
  rw[<-List.sum_append,<-List.map_append,List.take_append_drop]
 omega
theorem PV_ {ps:List PkI}{i:Nat}(hi:i<ps.length):ps[i].hs.length<=BD ps:=by
 have h1:=EA_ hi
 have h2:=OD_ (ps:=ps) (i+1)
 omega
section
variable {v:Value}{ps:List PkI}{Q:Value×FrameMode->St->Prop}{s0:St}
end
def Ef:Nat:=Ar Try.f34
abbrev FR_:Nat:=37
def Sn:Code:=Try.f34.body.getD .skip
theorem Ps:envS.fn.get 34=some Try.f34:=by kernel_rfl
theorem TM_:G3 envS 34 37 Ef Sn:=λh=>
 aM Ps (h _ (by kernel_rfl) (by kernel_rfl) (by kernel_rfl))
theorem Xy:Try.f34.results.toList=[.tmp 6]:=by kernel_rfl
def BI_:List Item:=skim 64 [.code Sn]
def MU_:=nx BI_
def KD_:=nx MU_
def Ko:=nx KD_
def OI:=nx Ko
def SR:=bt OI
def Rm:=bf OI
def IB_:=nx SR
def KJ_:=nx Rm
theorem Ajz_:skim 64 IB_.tail=Ko:=by kernel_rfl
def Ab_:Rg:=λE call round tm=>
 mv (some (.bool false)) λv6=>
 setF 6 v6 tm λtm1=>
 M.pure tm1
theorem Qs_:RegEq 34 37 Ef BI_ Ab_:={}
def Gm_:Rg:=λE call round tm=>
 mv (some (.int .i64 0)) λv7=>
 setF 7 v7 tm λtm1=>
 M.pure tm1
theorem Pk_:RegEq 34 37 Ef MU_ Gm_:={}
def DW_:Rg:=λE call round tm=>
 mv (some (.int .i64 0)) λv8=>
 setF 8 v8 tm λtm1=>
 M.pure tm1
theorem Abs_:RegEq 34 37 Ef KD_ DW_:={}
def QF:Rg:=λE call round tm=>
 mv (T.get tm 8) λv9=>
 mv (T.get tm 0) λv10=>
 lN E .len [55] [(some v10)] λv11=>
 bI E .lss 3 (.tmp 9) (.tmp 11) (some v9) (some v11) λv12=>
 mv (some v12) λv13=>
 sK v13 true (oS (T.get tm 8) λa=>M.pure a) λv14=>
 sK v13 true (oS (T.get tm 1) λa=>M.pure a) λv15=>
 sK v13 true (oS (some v14) λa=>oS (some v15) λb=>Cl.get (aBin E .leq 3 (.tmp 14) (.tmp 15)) a b) λv16=>
 M.bind (M.on (some v13) λa=>M.on (some v16) λb=>M.on (some (.bool false)) λc=>A3 a b c) λv17=>
 setF 17 v17 tm λtm1=>
 M.pure tm1
theorem Kp_:RegEq 34 37 Ef Ko QF:={}
theorem Qx:Ah OI=some 17:=by kernel_rfl
def Ci_:Rg:=λE call round tm=>
 mv (T.get tm 7) λv20=>
 mv (T.get tm 0) λv21=>
 mv (T.get tm 8) λv22=>
 iD E 55 (some v21) (some v22) λv23=>
 fD E 85 2 (some v23) λv24=>
 lD E 36 (some v24) λv25=>
 lN E .len [36] [(some v25)] λv26=>
 bI E .add 3 (.tmp 20) (.tmp 26) (some v20) (some v26) λv27=>
 mv (some v27) λv7=>
 setF 7 v7 tm λtm1=>
 M.pure tm1
theorem Ym_:RegEq 34 37 Ef SR Ci_:={}
def By_:Rg:=λE call round tm=>
 mv (T.get tm 0) λv28=>
 lN E .len [55] [(some v28)] λv29=>
 mv (T.get tm 1) λv30=>
 bI E .gtr 3 (.tmp 29) (.tmp 30) (some v29) (some v30) λv31=>
 mv (some v31) λv32=>
 sK v32 false (oS (T.get tm 7) λa=>M.pure a) λv33=>
 sK v32 false (oS (T.get tm 2) λa=>M.pure a) λv34=>
 sK v32 false (oS (some v33) λa=>oS (some v34) λb=>Cl.get (aBin E .gtr 3 (.tmp 33) (.tmp 34)) a b) λv35=>
 M.bind (M.on (some v32) λa=>M.on (some (.bool true)) λb=>M.on (some v35) λc=>A3 a b c) λv36=>
 mv (some v36) λv6=>
 setF 6 v6 tm λtm1=>
 M.pure tm1
theorem TB_:RegEq 34 37 Ef Rm By_:={}
def Yv:Rg:=λE call round tm=>
 mv (T.get tm 8) λv18=>
 bI E .add 3 (.tmp 18) (.const (.int .i64 1)) (some v18) (some (.int .i64 1)) λv19=>
 mv (some v19) λv8=>
 setF 8 v8 tm λtm1=>
 M.pure tm1
theorem OO_:RegEq 34 37 Ef IB_ Yv:={}
theorem Ua: ∃k,KJ_= .code .ret::k:=⟨KJ_.tail,by kernel_rfl⟩
def En:Nat:=Ar Try.f36
abbrev AiD_:Nat:=26
def DT_:Code:=Try.f36.body.getD .skip
theorem WB:envS.fn.get 36=some Try.f36:=by kernel_rfl
theorem Aik_:G1 envS 36 26 En DT_:=λh=>
 aM WB (h _ (by kernel_rfl))
theorem Re_:Try.f36.results.toList=[.tmp 2]:=by kernel_rfl
def SJ:List Item:=skim 64 [.code DT_]
def Hm_:=nx SJ
def Ng_:=nx Hm_
def Lu:=nx Ng_
def Me:=nx Lu
def Yo:=bt Me
def Jx_:=bf Me
def Uc:=nx Yo
def T8:=nx Jx_
theorem Aln_:skim 64 Uc.tail=Lu:=by kernel_rfl
def SZ:Rg:=λE call round tm=>
 mv (some (.slice none 0 0)) λv2=>
 setF 2 v2 tm λtm1=>
 M.pure tm1
theorem Ul_:RegEq 36 26 En SJ SZ:={}
def Gw_:Rg:=λE call round tm=>
 M.bind (oS (seqP []) λps=>AU E 55 0 ps) λv5=>
 mv (T.get tm 0) λv6=>
 lN E .append [55,55] [(some v5),(some v6)] λv7=>
 mv (some v7) λv3=>
 setF 3 v3 tm λtm1=>
 M.pure tm1
theorem AfH_:RegEq 36 26 En Hm_ Gw_:={}
def VA:Rg:=λE call round tm=>
 mv (some (.int .i64 0)) λv4=>
 setF 4 v4 tm λtm1=>
 M.pure tm1
theorem AdQ_:RegEq 36 26 En Ng_ VA:={}
def Mh:Rg:=λE call round tm=>
 mv (T.get tm 4) λv8=>
 mv (T.get tm 3) λv9=>
 lN E .len [55] [(some v9)] λv10=>
 bI E .lss 3 (.tmp 8) (.tmp 10) (some v8) (some v10) λv11=>
 setF 11 v11 tm λtm1=>
 M.pure tm1
theorem LP_:RegEq 36 26 En Lu Mh:={}
theorem Zz:Ah Me=some 11:=by kernel_rfl
def Fr_:Rg:=λE call round tm=>
 mv (T.get tm 3) λv14=>
 mv (T.get tm 4) λv15=>
 M.bind (oS (seqP []) λps=>AU E 36 0 ps) λv16=>
 mv (T.get tm 3) λv17=>
 mv (T.get tm 4) λv18=>
 iD E 55 (some v17) (some v18) λv19=>
 fD E 85 2 (some v19) λv20=>
 lD E 36 (some v20) λv21=>
 lN E .append [36,36] [(some v16),(some v21)] λv22=>
 iD E 55 (some v14) (some v15) λv23=>
 fD E 85 2 (some v23) λv24=>
 M.bind (oS (some v24) λa=>oS (some v22) λb=>Ao E 36 a b) λ_=>
 M.pure tm
theorem Zk_:RegEq 36 26 En Yo Fr_:={}
def DB_:Rg:=λE call round tm=>
 mv (T.get tm 3) λv25=>
 mv (some v25) λv2=>
 setF 2 v2 tm λtm1=>
 M.pure tm1
theorem NW_:RegEq 36 26 En Jx_ DB_:={}
def JV_:Rg:=λE call round tm=>
 mv (T.get tm 4) λv12=>
 bI E .add 3 (.tmp 12) (.const (.int .i64 1)) (some v12) (some (.int .i64 1)) λv13=>
 mv (some v13) λv4=>
 setF 4 v4 tm λtm1=>
 M.pure tm1
theorem AiP_:RegEq 36 26 En Uc JV_:={}
theorem AaB_: ∃k,T8= .code .ret::k:=⟨T8.tail,by kernel_rfl⟩
theorem Ext.on {G F' G':Nat->Prop}{s s1 s2:St}(h:Ext Any G s s1)(k:Ext F' G' s1 s2)(hb:s.lim<=s.next)(hG: ∀x,x<s.next->G' x->G x):Ext Any G s s2:=h.trans k hb (λ_ _ _=>trivial) hG
def bigP (ps:List PkI)(k m:Nat):Bool:=decide (k<ps.length)||decide (m<BD (ps.take (k+1)))
theorem GR_ {N:Nat}: ∀{ps:List PkI},(∀p∈ps,p.hs.length<=N)->BD ps<=ps.length*N
 |[],_=>Nat.zero_le _
 |p::ps,h=>by
  have h1:=h p (by simp)
  have h2:=GR_ (ps:=ps) λx hx=>h x (by simp[hx])
  have h3:BD (p::ps)=p.hs.length+BD ps:=by unfold BD;rw[List.map_cons,List.sum_cons]
  rw[h3,List.length_cons,Nat.succ_mul]
  omega
section
variable {vp:Value}{ps:List PkI}{k m:Nat}{Q:Value×FrameMode->St->Prop}{s0:St}
theorem UC_ (hb0:s0.lim<=s0.next)(hp:PkR s0 vp ps)(hz: ∀p∈ps,p.hs.length<=1048576)(hk:k<=1000)(hcx:s0.cx=cxN)(q: ∀s1,Ext Any Non s0 s1->Q (.bool (bigP ps k m), .run) s1):
  ∀(d i n:Nat) (tm:T Value) (s:St) (td:List Item),i+d=min ps.length (k+1)->10*d+20<=n->skim 64 td=Ko->Ext Any Non s0 s->
  T.get tm 0=some vp->T.get tm 1=some (.int .i64 (k:Nat))->T.get tm 2=some (.int .i64 (m:Nat))->T.get tm 7=some (.int .i64 (BD (ps.take i):Nat))->T.get tm 8=some (.int .i64 (i:Nat))->
  W (runF envS n ⟨34,FR_,Ef,tm,td, .run, .normal,none⟩) s Q:=by
 have tail: ∀(n':Nat) (tm:T Value) (s:St) (td:List Item),10<=n'->skim 64 td=Rm->Ext Any Non s0 s->T.get tm 0=some vp->T.get tm 1=some (.int .i64 (k:Nat))->T.get tm 2=some (.int .i64 (m:Nat))->T.get tm 7=some (.int .i64 (BD (ps.take (k+1)):Nat))->W (runF envS n' ⟨34,FR_,Ef,tm,td, .run, .normal,none⟩) s Q:=by
  intro n' tm s td hn hT hx h0 h1 h2 h7
  refine TB_.u ?_ hT
  simp only[By_,RR,SS,h0,h1]
  rw[hp.len]
  try simp only[Cs,E1,CO,Cr]
  by_cases c1:k<ps.length
  ·have e1:decide (((k:Nat):Int)<((ps.length:Nat):Int))=true:=decide_eq_true (by omega)
   simp only[e1,AK,EN,Dr, ↓reduceIte]
   refine aF (rs:=[6]) (vs:=[.bool true]) rfl (.inl Ua) (by omega) Ps Xy (hx.cx.trans hcx) (by simp[T.get_set]) ?_
   have:=q s hx
   unfold bigP at this
   rw[decide_eq_true c1,Bool.true_or]at this
   exact this
  ·have e1:decide (((k:Nat):Int)<((ps.length:Nat):Int))=false:=decide_eq_false (by omega)
   have e2:decide (((m:Nat):Int)<((BD (ps.take (k+1)):Nat):Int))=decide (m<BD (ps.take (k+1))):=by
    by_cases h:m<BD (ps.take (k+1))
    ·rw[decide_eq_true h,decide_eq_true (by omega)]
    ·rw[decide_eq_false h,decide_eq_false (by omega)]
   simp only[SS,e1,reduceCtorEq, ↓reduceIte,Cr,h2,h7,e2]
   refine aF (rs:=[6]) (vs:=[.bool (decide (m<BD (ps.take (k+1))))]) rfl (.inl Ua) (by omega) Ps Xy (hx.cx.trans hcx) (by simp[T.get_set]) ?_
   have:=q s hx
   unfold bigP at this
   rw[decide_eq_false c1,Bool.false_or]at this
   exact this
 intro d
 induction d with
 |zero=>
  intro i n tm s td hi hn hT hx h0 h1 h2 h7 h8
  have ht:ps.take i=ps.take (k+1):=by
   rcases Nat.lt_or_ge (k+1) ps.length with h|h
   ·rw[show i=k+1 by omega]
   ·rw[List.take_of_length_le (show ps.length<=i by omega),List.take_of_length_le h]
  rw[ht]at h7
  refine Kp_.u ?_ hT
  simp only[QF,RR,SS,h0,h8]
  rw[hp.len]
  try simp only[Cs,E1,CO,Ak]
  by_cases c1:i<ps.length
  ·have e1:decide (((i:Nat):Int)<((ps.length:Nat):Int))=true:=decide_eq_true (by omega)
   have e2:decide (((i:Nat):Int)<=((k:Nat):Int))=false:=decide_eq_false (by omega)
   simp only[SS,e1, ↓reduceIte,GA,h1,e2]
   refine aH Qx ?_
   exact tail _ _ s _ (by omega) rfl hx (by simp[T.get_set,h0]) (by simp[T.get_set,h1]) (by simp[T.get_set,h2]) (by simp[T.get_set,h7])
  ·have e1:decide (((i:Nat):Int)<((ps.length:Nat):Int))=false:=decide_eq_false (by omega)
   simp only[e1,AK,Fj,Dr,reduceCtorEq, ↓reduceIte]
   refine aH Qx ?_
   exact tail _ _ s _ (by omega) rfl hx (by simp[T.get_set,h0]) (by simp[T.get_set,h1]) (by simp[T.get_set,h2]) (by simp[T.get_set,h7])
 |succ d ih=>
  intro i n tm s td hi hn hT hx h0 h1 h2 h7 h8
  have hil:i<ps.length:=by omega
  obtain⟨b,o,c,ev,ga,gH,_,_,_⟩:=(hp.ext0 hx).at hil
  have e1:decide (((i:Nat):Int)<((ps.length:Nat):Int))=true:=decide_eq_true (by omega)
  have e2:decide (((i:Nat):Int)<=((k:Nat):Int))=true:=decide_eq_true (by omega)
  have hzi:=hz _ (List.getElem_mem hil)
  have htb:=GR_ (ps:=ps.take i) (N:=1048576) λf hf'=>hz f (List.mem_of_mem_take hf')
  have hti:(ps.take i).length<=1001:=by rw[List.length_take];omega
  have hm:(ps.take i).length*1048576<=1001*1048576:=Nat.mul_le_mul_right _ hti
  refine Kp_.u ?_ hT
  simp only[QF,RR,SS,h0,h8]
  rw[hp.len]
  simp only[SS, ↓reduceIte,Ak,GA,e1,h1,e2]
  refine aI Qx ?_
  refine Ym_.u ?_
  simp only[Ci_,RR,SS,Nat.reduceEqDiff,reduceCtorEq, ↓reduceIte,h0,ev,h7,h8,AL Bv hil,Au DY (by decide)]
  refine aB Cn (ga 2 _ rfl) ?_
  have x1:=hx.thenRd hb0 (b+(o+i*3+2))
  rw[gH.len]
  have es:wrap64 ((BD (ps.take i):Nat)+(ps[i].hs.length:Nat):Int)=((BD (ps.take (i+1)):Nat):Int):=by
   rw[Ax (by omega) (by omega),EA_ hil];omega
  simp only[Aw,es]
  refine OO_.u ?_
  have ei:=eiW (i:=i) (by omega)
  simp only[Yv,RR,SS,Nat.reduceEqDiff, ↓reduceIte,Aw,h8,ei]
  exact ih (i+1) _ _ _ _ (by omega) (by omega) Ajz_ x1 (by simp[T.get_set,h0,ev]) (by simp[T.get_set,h1]) (by simp[T.get_set,h2]) (by simp[T.get_set]) (by simp[T.get_set])
theorem OW_ {n:Nat}{s:St}{Q:Value->St->Prop}(hb:s.lim<=s.next)(hp:PkR s vp ps)(hz: ∀p∈ps,p.hs.length<=1048576)(hk:k<=1000)(hn:10*k+100<=n)(q: ∀s1,Ext Any Non s s1->Q (.bool (bigP ps k m)) s1):W (Ab envS (runF envS n) 34 [vp, .int .i64 (k:Nat), .int .i64 (m:Nat)]) s Q:=by
 refine TM_ λtm h0 h1 h2=> ?_
 refine Qs_.u ?_
 simp only[Ab_,RR,SS]
 refine Pk_.u ?_
 simp only[Gm_,RR,SS]
 refine Abs_.u ?_
 simp only[DW_,RR,SS]
 exact UC_ (s0:=s.cxN cxN) hb (hp.same rfl rfl) hz hk rfl (λs1 x1=>q _ x1.cx') (min ps.length (k+1)) 0 _ _ _ _ (by omega) (by omega) rfl (Ext.refl _) (by simp[T.get_set,h0]) (by simp[T.get_set,h1]) (by simp[T.get_set,h2]) (by simp[T.get_set];rfl) (by simp[T.get_set])
