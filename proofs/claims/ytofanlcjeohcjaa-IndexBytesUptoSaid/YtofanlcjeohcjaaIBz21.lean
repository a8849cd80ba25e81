import Derived.Test.YtofanlcjeohcjaaIBz20
namespace Go.Proofs.Ytofanlcjeohcjaa.Am
open Go.RowKit
def oddH (h:HdI):Bool:=decide (h.2.1<0)||decide (AV h.2.2=0)
theorem WC_ {n:Nat}{h:HdI}{s:St}{Q:Value->St->Prop}(hb:s.lim<=s.next)(h16:h.1.length=16)(hn:40<=n)(q: ∀s1,Ext Any Non s s1->Q (.bool (oddH h)) s1):W (Ac envS (runF envS n) 127 [.agg (Av h).toArray]) s Q:=by
 refine WS_ λtm h0=> ?_
 refine AuN_.u ?_
 simp only[Am_,RR,SS,h0]
 refine W.box λsa na xa oa=> ?_
 rw[BV]at oa
 have oa':Aa sa s.next 0 (Av h):=oa
 refine AoE_.u ?_
 have o16:=oa' 16 _ (DE h16).1
 have o17:=oa' 17 _ (DE h16).2
 simp only[Ok_,RR,SS,Nat.reduceEqDiff, ↓reduceIte,Af EA al]
 refine aA Ap o16.at' ?_
 have x1:Ext Any Non (s.cxN cxN) (sa.rdN (s.next+(0+16))):=(xa.any hb).thenRd hb _
 by_cases h1:h.2.1<0
 ·simp only[AJ,A4,CA,Dl,Cx,B9, ↓reduceIte,Ab,h1,decide_true]
  refine aB (rs:=[2]) (vs:=[.bool true]) rfl (.inl Bw_) J Nf X5 x1.cx Y ?_
  have:=q _ x1.cx'
  unfold oddH at this
  rw[decide_eq_true h1,Bool.true_or]at this
  exact this
 ·simp only[SS,reduceCtorEq, ↓reduceIte,Ab,h1,decide_false,Af FU al]
  refine aA Ap (o17.same rfl rfl).at' ?_
  have x2:Ext Any Non (s.cxN cxN) ((sa.rdN (s.next+(0+16))).rdN (s.next+(0+17))):=x1.thenRd hb _
  refine PW _ J ?_
  try simp only[Al]
  refine aB (rs:=[2]) (vs:=[.bool (decide (AV h.2.2=0))]) rfl (.inl Bw_) J Nf X5 x2.cx Y ?_
  have:=q _ x2.cx'
  unfold oddH at this
  rw[decide_eq_false h1,Bool.false_or]at this
  exact this
theorem Mv {α:Type}{l:List α}{p:α->Bool}{i:Nat}(hi:i<l.length):(l.take (i+1)).any p=((l.take i).any p||p l[i]):=by
 rw[List.take_succ_eq_append_getElem hi,List.any_append]
 simp
theorem Ru_ {α:Type}{l:List α}{p:α->Bool}{i:Nat}(h:(l.take i).any p=true):l.any p=true:=by
 rw[List.any_eq_true]at h ⊢
 obtain⟨x,h1,h2⟩:=h
 exact⟨x,List.mem_of_mem_take h1,h2⟩
theorem Amp_ {v:Value}{hs:List HdI}{Q:Value×FrameMode->St->Prop}{s0:St}(hb0:s0.lim<=s0.next)(hr:HiR s0 v hs)(h16: ∀h∈hs,h.1.length=16)(hz:hs.length<=9223372036854775807)(hcx:s0.cx=cxN)
  (q: ∀s1 (r:Int),Ext Any Non s0 s1->decide (0<=r)=hs.any oddH->Q (.int .i64 r, .run) s1):
  ∀(k i n:Nat) (tm:T Value) (s:St) (td:List Item),i+k=hs.length->10*k+100<=n->skim 64 td=KQ->Ext Any Non s0 s->(hs.take i).any oddH=false->
  T.get tm 0=some v->T.get tm 1=some (.func (.func 127) #[] #[])->T.get tm 7=some (.int .i64 (hs.length:Nat))->T.get tm 8=some (.int .i64 (i:Nat))->
  W (runF envS n ⟨144,Aog_,Eg,tm,td, .run, .normal,none⟩) s Q:=by
 intro k
 induction k with
 |zero=>
  intro i n tm s td hi hn hT hx ha h0 h1 h7 h8
  refine UZ.u ?_ hT
  simp only[Qy,RR,SS,Ab,h7,h8]
  refine aE Po_ ?_
  refine XX_.u ?_
  simp only[EV_,RR,SS]
  refine aB (rs:=[4]) (vs:=[.int .i64 (-1)]) rfl (.inl Auc_) J Sa FE_ (hx.cx.trans hcx) Y ?_
  refine q s (-1) hx ?_
  rw[show i=hs.length by omega,List.take_length]at ha
  rw[ha]
  rfl
 |succ k ih=>
  intro i n tm s td hi hn hT hx ha h0 h1 h7 h8
  have hil:i<hs.length:=J
  have h16i:=h16 _ (List.getElem_mem hil)
  have hb:=hx.bnd hb0
  obtain⟨b,o,c,rfl,ga,fa⟩:=(hr.ext0 hx).at h16 hil
  refine UZ.u ?_ hT
  simp only[Qy,RR,SS,Ab,h7,h8]
  refine aH Po_ ?_
  refine Axg_.u ?_
  simp only[Uj_,RR,SS,Nat.reduceEqDiff, ↓reduceIte,h8]
  refine Ws_.u ?_
  simp only[V3,RR,SS,Nat.reduceEqDiff,reduceCtorEq, ↓reduceIte,h0,h1,AO CV hil]
  refine aJ CH ga (BN h16i) λs1 m1 n1 x1=> ?_
  refine WC_ (x1.bnd hb) h16i J λs2 x2=> ?_
  have hx2:Ext Any Non s0 s2:=(hx.then0 x1 hb0).then0 x2 hb0
  cases ho:oddH hs[i]with
  |true=>
   refine aH Bb_ ?_
   refine AjV_.u ?_
   simp only[EY_,RR,SS,Nat.reduceEqDiff, ↓reduceIte]
   refine aB (rs:=[4]) (vs:=[.int .i64 (i:Nat)]) rfl (.inl Ali_) J Sa FE_ (hx2.cx.trans hcx) Y ?_
   refine q s2 i hx2 ?_
   have:hs.any oddH=true:=Ru_ (i:=i+1) (by rw[Mv hil,ho,Bool.or_true])
   rw[this,decide_eq_true J]
  |false=>
   refine aE Bb_ ?_
   refine Avl_.u ?_
   have ei:=eiW (i:=i) J
   simp only[SM_,RR,SS,Nat.reduceEqDiff, ↓reduceIte,Ad,h8,ei]
   exact ih (i+1) _ _ _ _ J J XS_ hx2 (by rw[Mv hil,ho,ha];rfl) (an h0) (an h1) (an h7) Y
theorem AlM_ {n:Nat}{v:Value}{hs:List HdI}{s:St}{Q:Value->St->Prop}(hb:s.lim<=s.next)(hr:HiR s v hs)(h16: ∀h∈hs,h.1.length=16)(hz:hs.length<=9223372036854775807)(hn:10*hs.length+200<=n)(q: ∀s1,Ext Any Non s s1->Q (.bool (hs.any oddH)) s1):
  W (Ac envS (runF envS n) 126 [v, .func (.func 127) #[] #[]]) s Q:=by
 refine AdF_ λtm h0 h1=> ?_
 refine YB_.u ?_
 simp only[U8,RR,SS]
 refine Ask_.u ?_
 simp only[ZO,RR,SS,Nat.reduceEqDiff,reduceCtorEq, ↓reduceIte,h0,h1]
 have hr1:HiR ((s.cxN cxN).cxN cxN) v hs:=hr.same rfl rfl
 refine ArV_ λtm' g0 g1=> ?_
 refine Ahy_.u ?_
 simp only[CX_,RR,SS]
 refine YM_.u ?_
 simp only[Kd_,RR,SS,reduceCtorEq, ↓reduceIte,g0]
 rw[hr1.len]
 refine Amp_ (s0:=(s.cxN cxN).cxN cxN) (v:=v) (hs:=hs) hb hr1 h16 hz rfl (λs1 r x1 hrr=> ?_) hs.length 0 _ _ _ _ J J rfl (Ext.refl _) rfl (an g0) (an g1) Y Y
 try simp only[An]
 refine aB (rs:=[4]) (vs:=[.bool (hs.any oddH)]) rfl (.inl AgG_) J XG AxH_ rfl (by simp[T.get_set];exact hrr) ?_
 exact q _ ⟨x1.nxt,x1.lim,rfl,x1.mem,x1.rd,x1.wr⟩
def Bd (p:PkI):Bool:=decide (1<=p.num)&&decide (p.num<=999999)&&decide (0<=p.size)&&decide (p.size<=65536)&& !(p.hs.any oddH)
theorem Ava_ {n:Nat}{p:PkI}{s:St}{Q:Value->St->Prop}(hb:s.lim<=s.next)(hr:HiR s p.v p.hs)(h16: ∀h∈p.hs,h.1.length=16)(hz:p.hs.length<=9223372036854775807)(hn:10*p.hs.length+400<=n)(q: ∀s1,Ext Any Non s s1->Q (.bool (Bd p)) s1):
  W (Ac envS (runF envS n) 94 [.agg (pkC p).toArray]) s Q:=by
 refine YD_ λtm h0=> ?_
 refine AmQ_.u ?_
 simp only[TX_,RR,SS,h0]
 refine W.box λsa na xa oa=> ?_
 rw[BV]at oa
 have oa':Aa sa s.next 0 (pkC p):=oa
 have o0:Own sa s.next (0+0) (.int .i64 p.num):=oa' 0 _ rfl
 have o1:Own sa s.next (0+1) (.int .i64 p.size):=oa' 1 _ rfl
 have o2:Own sa s.next (0+2) p.v:=oa' 2 _ rfl
 refine Abr_.u ?_
 simp only[DK_,RR,SS,Nat.reduceEqDiff, ↓reduceIte,Af BG al]
 refine aA Bu o2.at' ?_
 have x1:Ext Any Non (s.cxN cxN) (sa.rdN (s.next+(0+2))):=(xa.any hb).thenRd hb _
 refine AlM_ (x1.bnd hb) (((hr.same (s':=s.cxN cxN) rfl rfl).ext0 x1)) h16 hz J λs2 x2=> ?_
 have hx2:Ext Any Non (s.cxN cxN) s2:=x1.then0 x2 hb
 have b0:Own s2 s.next (0+0) (.int .i64 p.num):=(o0.same (s':=sa.rdN (s.next+(0+2))) rfl rfl).ext0 x2
 have b1:Own s2 s.next (0+1) (.int .i64 p.size):=(o1.same (s':=sa.rdN (s.next+(0+2))) rfl rfl).ext0 x2
 refine Aof_.u ?_
 simp only[LG_,RR,SS,Nat.reduceEqDiff, ↓reduceIte,Af Dm al]
 refine aA Ap b0.at' ?_
 have fin: ∀(s3:St) (tm3:T Value) (r:Bool),Ext Any Non (s.cxN cxN) s3->T.get tm3 2=some (.bool r)->r=Bd p->W (runF envS (n-1-1-1) ⟨94,AlD_,H9,tm3,N9.tail, .run, .normal,none⟩) s3 λp s1=>Q p.1 (s1.cxN s.cx):=λs3 tm3 r x3 hr3 e=>by
  refine aB (rs:=[2]) (vs:=[.bool r]) rfl (.inl AfS_) J BE_ AsH_ x3.cx (by simp[hr3]) ?_
  rw[e]
  exact q _ x3.cx'
 have y3:Ext Any Non (s.cxN cxN) (s2.rdN (s.next+(0+0))):=hx2.thenRd hb _
 by_cases c1:(1:Int)<=p.num
 case neg=>
  simp only[AJ,A4,Dc,Dl,Cx,B9,reduceCtorEq, ↓reduceIte,An,c1,decide_false]
  exact fin _ _ false y3 Y (by unfold Bd;rw[decide_eq_false c1];simp)
 simp only[SS, ↓reduceIte,An,c1,decide_true,Af Dm al]
 refine aA Ap (b0.same rfl rfl).at' ?_
 have y4:=y3.thenRd hb (s.next+(0+0))
 by_cases c2:p.num<=999999
 case neg=>
  simp only[AJ,A4,Dc,Dl,Cx,B9,reduceCtorEq, ↓reduceIte,Ak,c2,decide_false]
  exact fin _ _ false y4 Y (by unfold Bd;rw[decide_eq_false c2];simp)
 simp only[SS, ↓reduceIte,Ak,c2,decide_true,Af DB al]
 refine aA Ap (b1.same rfl rfl).at' ?_
 have y5:=y4.thenRd hb (s.next+(0+1))
 by_cases c3:(0:Int)<=p.size
 case neg=>
  simp only[AJ,A4,Dc,Dl,Cx,B9,reduceCtorEq, ↓reduceIte,An,c3,decide_false]
  exact fin _ _ false y5 Y (by unfold Bd;rw[decide_eq_false c3];simp)
 simp only[SS, ↓reduceIte,An,c3,decide_true,Af DB al]
 refine aA Ap (b1.same rfl rfl).at' ?_
 have y6:=y5.thenRd hb (s.next+(0+1))
 by_cases c4:p.size<=65536
 case neg=>
  simp only[AJ,A4,Dc,Dl,Cx,B9,reduceCtorEq, ↓reduceIte,Ak,c4,decide_false]
  exact fin _ _ false y6 Y (by unfold Bd;rw[decide_eq_false c4];simp)
 simp only[SS, ↓reduceIte,Ak,c4,decide_true,CI]
 exact fin _ _ (!(p.hs.any oddH)) y6 Y (by unfold Bd;rw[decide_eq_true c1,decide_eq_true c2,decide_eq_true c3,decide_eq_true c4];simp)
theorem GA:DZ envS 35=some (List.replicate 16 (.int .u8 0)++[.int .i64 0, .int .i64 0]):=X
def AZ (size:Int):Int->List HdI->Bool
 |_,[]=>true
 |e,h::t=>decide (e<=h.2.1)&&decide (h.2.1<=size-AV h.2.2)&&AZ size (h.2.1+AV h.2.2) t
theorem Ra (a:Int):0<=AV a/\AV a<=1050:=by
 unfold AV
 split<;>omega
section
variable {p:PkI}{Q:Value×FrameMode->St->Prop}
theorem Ald_ {B:Nat}{s0:St}(hb0:s0.lim<=s0.next)(hr:HiR s0 p.v p.hs)(h16: ∀h∈p.hs,h.1.length=16)(hz:p.hs.length<=9223372036854775807)(hs0:0<=p.size)(hs1:p.size<=65536)(hodd:p.hs.any oddH=false)(hcx:s0.cx=cxN)(ho:Own s0 B 1 (.int .i64 p.size))
  (q: ∀s1,Ext Any Non s0 s1->Q (.bool (AZ p.size 0 p.hs), .run) s1):
  ∀(k i n:Nat) (e:Int) (tm:T Value) (s:St) (td:List Item),i+k=p.hs.length->20*k+100<=n->skim 64 td=IU->Ext Any Non s0 s->0<=e->e<=70000->AZ p.size 0 p.hs=AZ p.size e (p.hs.drop i)->
  T.get tm 1=some (.pointer (some ⟨B,0,none⟩))->T.get tm 3=some (.int .i64 e)->T.get tm 7=some p.v->T.get tm 8=some (.int .i64 (p.hs.length:Nat))->T.get tm 9=some (.int .i64 (i:Nat))->
  W (runF envS n ⟨95,ES_,CY,tm,td, .run, .normal,none⟩) s Q:=by
 intro k
 induction k with
 |zero=>
  intro i n e tm s td hi hn hT hx he0 he1 hl h1 h3 h7 h8 h9
  refine ZH.u ?_ hT
  simp only[Mr,RR,SS,Ab,h8,h9]
  refine aE VJ ?_
  refine Atg_.u ?_
  simp only[FK_,RR,SS]
  refine aB (rs:=[2]) (vs:=[.bool true]) rfl (.inl AkK_) J QU Rq_ (hx.cx.trans hcx) Y ?_
  have:=q s hx
  rw[hl,List.drop_of_length_le J]at this
  exact this
 |succ k ih=>
  intro i n e tm s td hi hn hT hx he0 he1 hl h1 h3 h7 h8 h9
  have hil:i<p.hs.length:=J
  have h16i:=h16 _ (List.getElem_mem hil)
  have hb:=hx.bnd hb0
  obtain⟨b,o,c,ev,ga,_⟩:=(hr.ext0 hx).at h16 hil
  have hd:p.hs.drop i=p.hs[i]::p.hs.drop (i+1):=(List.getElem_cons_drop ..).symm
  have hod:oddH p.hs[i]=false:=by
   cases ho:oddH p.hs[i]with
   |false=>rfl
   |true=>
    have:p.hs.any oddH=true:=List.any_eq_true.2 ⟨_,List.getElem_mem hil,ho⟩
    rw[hodd]at this
    cases this
  generalize hh:p.hs[i]=h at *
  have hat:0<=h.2.1:=by
   unfold oddH at hod
   rw[Bool.or_eq_false_iff,decide_eq_false_iff_not]at hod
   omega
  obtain⟨z0,z1⟩:=Ra h.2.2
  refine ZH.u ?_ hT
  simp only[Mr,RR,SS,Ab,h8,h9]
  refine aH VJ ?_
  refine AiB_.u ?_
  simp only[RE_,RR,SS,Nat.reduceEqDiff, ↓reduceIte,h7,ev,h9,AO CV hil]
  refine aJ CH ga (BN h16i) λs1 m1 n1 x1=> ?_
  refine W.alloc GA λs2 n2 x2 o2=> ?_
  have n2':s2.next=s1.next+19:=n2
  refine W.store CH (BN h16i) (EU h) (λj hj=>Aa.owned o2 j (by simpa using hj)) λs3 n3 x3 o3=> ?_
  rw[BV]at o3
  have xs1:Ext Any Non s0 s1:=hx.then0 x1 hb0
  have hlt0:s0.next<=s1.next:=xs1.nxt
  have xs2:Ext Any Non s0 s2:=xs1.then0 x2 hb0
  have xs3:Ext Any Non s0 s3:=xs2.trans x3 hb0 (λ_ _ _=>trivial) λy hy h=>by
   have h1:=h.1
   omega
  have hb3:=xs3.bnd hb0
  have oB:Own s3 B (0+1) (.int .i64 p.size):=by
   have:=ho.ext xs3 id
   rwa [Nat.zero_add]
  have o16:Own s3 s1.next (0+16) (.int .i64 h.2.1):=o3 16 _ (DE h16i).1
  have o17:Own s3 s1.next (0+17) (.int .i64 h.2.2):=o3 17 _ (DE h16i).2
  generalize hC:s1.next=C at *
  have keep: ∀b o u,Own s3 b o u->At (dSt s3.mem s3.next) b o u:=λb o u hu=>(hu.same (s':=dSt s3.mem s3.next) rfl rfl).at'
  have hsub:wrap64 (p.size-AV h.2.2)=p.size-AV h.2.2:=AN J J
  have after: ∀(n':Nat) (s4:St) (bad:Bool) (tm4:T Value) (td4:List Item),n<=n'+8->skim 64 td4=LR->Ext Any Non s0 s4->s4.mem=s3.mem->s4.next=s3.next->(bad=true->AZ p.size 0 p.hs=false)->(bad=false->AZ p.size 0 p.hs=AZ p.size (h.2.1+AV h.2.2) (p.hs.drop (i+1))/\h.2.1<=p.size)->
    T.get tm4 27=some (.bool bad)->T.get tm4 1=some (.pointer (some ⟨B,0,none⟩))->T.get tm4 5=some (.pointer (some ⟨C,0,none⟩))->T.get tm4 7=some p.v->T.get tm4 8=some (.int .i64 (p.hs.length:Nat))->T.get tm4 9=some (.int .i64 (i:Nat))->W (runF envS n' ⟨95,ES_,CY,tm4,td4, .run, .normal,none⟩) s4 Q:=by
   intro n' s4 bad tm4 td4 hn' hT4 x4 m4 n4 hb1 hb2 g27 g1 g5 g7 g8 g9
   cases bad with
   |true=>
    refine aH Fh_ ?_ hT4 g27
    refine Yh_.u ?_
    simp only[Iv_,RR,SS]
    refine aB (rs:=[2]) (vs:=[.bool false]) rfl (.inl AbU_) J QU Rq_ (x4.cx.trans hcx) Y ?_
    have:=q s4 x4
    rw[hb1 rfl]at this
    exact this
   |false=>
    obtain⟨hl2,hle⟩:=hb2 rfl
    refine aE Fh_ ?_ hT4 g27
    refine Aub_.u ?_
    have keep4: ∀b o u,Own s3 b o u->At (dSt s4.mem s4.next) b o u:=λb o u hu=>(hu.same (s':=dSt s4.mem s4.next) m4 n4).at'
    simp only[XU,RR,g5,AA,BH,Bb,A7,AX,Dn]
    rw[W_dq λs Q=>Af (s:=s) EA al Q]
    refine aD Ap (keep4 _ _ _ o16) λrd1 hr1=> ?_
    rw[W_dq λs Q=>Af (s:=s) FU al Q]
    refine aD Ap (keep4 _ _ _ o17) λrd2 hr2=> ?_
    refine W.dop0 (PW _ J ⟨rfl, ?_⟩)
    have hadd:wrap64 (h.2.1+AV h.2.2)=h.2.1+AV h.2.2:=AN J J
    rw[W_dq λs Q=>Ad (s:=s) _ _,hadd,AJ]
    refine⟨CX am am, ?_⟩
    refine W.cast (Alf_ _ _ _ _ _ _ _ _ _ _ _) ?_
    try simp only[SS]
    generalize hs':(⟨(dSt s4.mem s4.next).mem,(dSt s4.mem s4.next).next,s4.lim,_,_,s4.cx⟩:St)=s5
    have x5:Ext Any Non s0 s5:=by
     rw[<-hs']
     refine x4.then0 (Ext.draw (F:=Any) (Nat.le_refl _) (λ_ _=>rfl) am λ_ _ _ _ _=>trivial) hb0
    refine AeL_.u ?_
    have ei:=eiW (i:=i) J
    simp only[MY_,RR,SS,Nat.reduceEqDiff, ↓reduceIte,Ad,g9,ei]
    exact ih (i+1) _ (h.2.1+AV h.2.2) _ _ _ J J AjK_ x5 J J hl2 (an g1) Y (an g7) (an g8) Y
  rw[hd]at hl
  have hlb:AZ p.size e (h::p.hs.drop (i+1))=(decide (e<=h.2.1)&&decide (h.2.1<=p.size-AV h.2.2)&&AZ p.size (h.2.1+AV h.2.2) (p.hs.drop (i+1))):=rfl
  rw[hlb]at hl
  refine Xh_.u ?_
  simp only[Sp_,RR,T.get_set,Nat.reduceEqDiff, ↓reduceIte,h1,h3,AA,BH,Bb,A7,AX,Dn]
  rw[W_dq λs Q=>Af (s:=s) EA al Q]
  refine aD Ap (keep _ _ _ o16) λrd1 hr1=> ?_
  simp only[Aw]
  rw[W_dq λs Q=>Ab (s:=s) _ _]
  by_cases hlt:h.2.1<e
  ·simp only[Aw,hlt,decide_true,A4,Cb,CA,if_f,AJ]
   refine⟨CX am am, ?_⟩
   refine W.cast (FJ_ _ _ _ _ _ _ _ _ _ _ _ _ _ _ _ _ _ _ _) ?_
   try simp only[SS, ↓reduceIte]
   refine after _ _ true _ _ J rfl (xs3.then0 (Ext.draw (F:=Any) (Nat.le_refl _) (λ_ _=>rfl) am λ_ _ _ _ _=>trivial) hb0) rfl rfl (λ_=>by rw[hl,decide_eq_false J];rfl) (λh=>by cases h) Y (an h1) Y (by simp[T.get_set,h7,ev]) (an h8) (an h9)
  ·simp only[Aw,hlt,decide_false,A4,Cb,DU,if_t]
   rw[W_dq λs Q=>Af (s:=s) EA al Q]
   refine aD Ap (keep _ _ _ o16) λrd2 hr2=> ?_
   rw[W_dq λs Q=>Af (s:=s) DB al Q]
   refine aD Ap (keep _ _ _ oB) λrd3 hr3=> ?_
   rw[W_dq λs Q=>Af (s:=s) FU al Q]
   refine aD Ap (keep _ _ _ o17) λrd4 hr4=> ?_
   refine W.dop0 (PW _ J ⟨rfl, ?_⟩)
   rw[W_dq λs Q=>Ah (s:=s) _ _,hsub]
   dsimp only
   rw[W_dq λs Q=>Ae (s:=s) _ _,AJ]
   refine⟨CX am am, ?_⟩
   refine W.cast (FJ_ _ _ _ _ _ _ _ _ _ _ _ _ _ _ _ _ _ _ _) ?_
   try simp only[SS,reduceCtorEq, ↓reduceIte]
   refine after _ _ (decide (p.size-AV h.2.2<h.2.1)) _ _ J rfl (xs3.then0 (Ext.draw (F:=Any) (Nat.le_refl _) (λ_ _=>rfl) am λ_ _ _ _ _=>trivial) hb0) rfl rfl (λhq=> ?_) (λhq=> ?_) Y (an h1) Y (by simp[T.get_set,h7,ev]) (an h8) (an h9)
   ·have hq':=of_decide_eq_true hq
    rw[hl,decide_eq_false (show ¬h.2.1<=p.size-AV h.2.2 by omega)]
    simp
   ·have hq':=of_decide_eq_false hq
    refine⟨?_,J⟩
    rw[hl,decide_eq_true (show e<=h.2.1 by omega),decide_eq_true (show h.2.1<=p.size-AV h.2.2 by omega)]
    rfl
theorem AiZ_ {n:Nat}{s:St}{Q:Value->St->Prop}(hb:s.lim<=s.next)(hr:HiR s p.v p.hs)(h16: ∀h∈p.hs,h.1.length=16)(hz:p.hs.length<=9223372036854775807)(hok:Bd p=true)(hn:20*p.hs.length+200<=n)(q: ∀s1,Ext Any Non s s1->Q (.bool (AZ p.size 0 p.hs)) s1):
  W (Ac envS (runF envS n) 95 [.agg (pkC p).toArray]) s Q:=by
 unfold Bd at hok
 simp only[Bool.and_eq_true,decide_eq_true_eq,Bool.not_eq_true']at hok
 obtain⟨⟨⟨⟨_,_⟩,c3⟩,c4⟩,c5⟩:=hok
 refine Ack_ λtm h0=> ?_
 refine Aie_.u ?_
 simp only[Tz,RR,SS,h0]
 refine W.box λsa na xa oa=> ?_
 rw[BV]at oa
 have oa':Aa sa s.next 0 (pkC p):=oa
 have o1:Own sa s.next (0+1) (.int .i64 p.size):=oa' 1 _ rfl
 have o2:Own sa s.next (0+2) p.v:=oa' 2 _ rfl
 refine AiU_.u ?_
 simp only[Lq_,RR,SS]
 refine AiR_.u ?_
 simp only[VS_,RR,SS,Nat.reduceEqDiff, ↓reduceIte,Af BG al]
 refine aA Bu o2.at' ?_
 have x1:Ext Any Non (s.cxN cxN) (sa.rdN (s.next+(0+2))):=(xa.any hb).thenRd hb _
 have hr1:HiR (sa.rdN (s.next+(0+2))) p.v p.hs:=(hr.same (s':=s.cxN cxN) rfl rfl).ext0 x1
 rw[hr1.len]
 refine Ald_ (p:=p) (B:=s.next) (s0:=sa.rdN (s.next+(0+2))) (x1.bnd hb) hr1 h16 hz c3 c4 c5 x1.cx (by have:=o1.same (s':=sa.rdN (s.next+(0+2))) rfl rfl;rwa [Nat.zero_add]at this) (λs1 y1=>q _ (x1.then0 y1 hb).cx') p.hs.length 0 _ 0 _ _ _ J J rfl (Ext.refl _) J J (by rw[List.drop_zero]) (by simp[T.get_set];rfl) Y Y Y Y
end
def Ar (ps:List PkI):Nat:=(ps.map λp=>p.hs.length).sum
def BL:Option Int->List PkI->Bool
 |_,[]=>true
 |pr,p::t=>(match pr with|none=>true|some x=>decide (x<p.num))&&AZ p.size 0 p.hs&&BL (some p.num) t
def AY (ps:List PkI):Int:=if decide (500<ps.length)||decide (20000<Ar ps)then 3 else if ps.all Bd then(if BL none ps then 0 else 2)else 5
theorem JR {ps:List PkI}{i:Nat}(hi:i<ps.length):Ar (ps.take (i+1))=Ar (ps.take i)+ps[i].hs.length:=by
 unfold Ar
 rw[List.take_succ_eq_append_getElem hi,List.map_append,List.sum_append]
 simp
theorem QG {ps:List PkI}(i:Nat):Ar (ps.take i)<=Ar ps:=by
 have e:Ar ps=Ar (ps.take i)+Ar (ps.drop i):=by
  unfold Ar
  rw[<-List.sum_append,<-List.map_append,List.take_append_drop]
 omega
theorem Ex {ps:List PkI}{i:Nat}(hi:i<ps.length):ps[i].hs.length<=Ar ps:=by
 have h1:=JR hi
 have h2:=QG (ps:=ps) (i+1)
 omega
theorem Yp {ps:List PkI}{i:Nat}{pr:Option Int}(hi:i<ps.length):BL pr (ps.drop i)=((match pr with|none=>true|some x=>decide (x<ps[i].num))&&AZ ps[i].size 0 ps[i].hs&&BL (some ps[i].num) (ps.drop (i+1))):=by
 rw[<-List.getElem_cons_drop (h:=hi)]
 rfl
section
variable {v:Value}{ps:List PkI}{Q:Value×FrameMode->St->Prop}{s0:St}
theorem Aep_ (hb0:s0.lim<=s0.next)(hr:PkR s0 v ps)(hz:Ar ps<=1000000000)(hcx:s0.cx=cxN)(hall:ps.all Bd=true)(hps:ps.length<=1000000000)
  (q: ∀s1,Ext Any Non s0 s1->Q (.int .i64 (if BL none ps then 0 else 2), .run) s1):
  ∀(k i n:Nat) (pr:Option Int) (tm:T Value) (s:St) (td:List Item),i+k=ps.length->20*k+20*Ar ps+300<=n->skim 64 td=Ja->Ext Any Non s0 s->BL none ps=BL pr (ps.drop i)->(i=0/\pr=none\/ ∃(h:i-1<ps.length),0<i/\pr=some ps[i-1].num)->
  T.get tm 0=some v->T.get tm 39=some v->T.get tm 40=some (.int .i64 (ps.length:Nat))->T.get tm 41=some (.int .i64 (i:Nat))->
  W (runF envS n ⟨43,Is,Bv,tm,td, .run, .normal,none⟩) s Q:=by
 intro k
 induction k with
 |zero=>
  intro i n pr tm s td hi hn hT hx ho hpr h0 h39 h40 h41
  refine AW_.u ?_ hT
  simp only[Pw,RR,SS,Ab,h40,h41]
  refine aE NZ_ ?_
  refine Awv_.u ?_
  simp only[Kw_,RR,SS]
  refine aB (rs:=[2]) (vs:=[.int .i64 0]) rfl (.inl WM_) J H0 Jj (hx.cx.trans hcx) Y ?_
  have:=q s hx
  rw[ho,List.drop_of_length_le J]at this
  exact this
 |succ k ih=>
  intro i n pr tm s td hi hn hT hx ho hpr h0 h39 h40 h41
  have hil:i<ps.length:=J
  have hb:=hx.bnd hb0
  obtain⟨b,o,c,ev,ga,gh,g16,_,_⟩:=(hr.ext0 hx).at hil
  have hbo:Bd ps[i]=true:=List.all_eq_true.1 hall _ (List.getElem_mem hil)
  have htl:=Ex hil
  rw[Yp hil]at ho
  refine AW_.u ?_ hT
  simp only[Pw,RR,SS,Ab,h40,h41]
  refine aH NZ_ ?_
  refine AtV_.u ?_
  simp only[XN,RR,SS,Nat.reduceEqDiff, ↓reduceIte,h39,ev,h41,AO A8 hil]
  refine aJ Ca ga rfl λs1 m1 n1 x1=> ?_
  refine W.alloc FJ λs2 n2 x2 o2=> ?_
  have n2':s2.next=s1.next+4:=n2
  refine W.store Ca (v:= .agg (pkC ps[i]).toArray) rfl (I4 gh) (λj hj=>Aa.owned o2 j (by simpa using hj)) λs3 n3 x3 o3=> ?_
  rw[BV]at o3
  have xs2:Ext Any Non s0 s2:=(hx.then0 x1 hb0).then0 x2 hb0
  have hlt0:s0.next<=s1.next:=(hx.then0 x1 hb0).nxt
  have xs3:Ext Any Non s0 s3:=xs2.trans x3 hb0 (λ_ _ _=>trivial) λy hy h=>by
   have h1:=h.1
   omega
  have hb3:=xs3.bnd hb0
  have hr3:PkR s3 v ps:=hr.ext0 xs3
  have o0:Own s3 s1.next (0+0) (.int .i64 ps[i].num):=o3 0 _ rfl
  have o3':Aa s3 s1.next 0 (pkC ps[i]):=o3
  have hCn:s1.next+4=s3.next:=J
  generalize hC:s1.next=C at *
  have after: ∀(n':Nat) (s4:St) (bad:Bool) (tm4:T Value) (td4:List Item),n<=n'+10->skim 64 td4=Lm->Ext Any Non s0 s4->(bad=true->BL none ps=false)->(bad=false->BL none ps=BL (some ps[i].num) (ps.drop (i+1)))->
    T.get tm4 63=some (.bool bad)->T.get tm4 0=some v->T.get tm4 39=some v->T.get tm4 40=some (.int .i64 (ps.length:Nat))->T.get tm4 41=some (.int .i64 (i:Nat))->W (runF envS n' ⟨43,Is,Bv,tm4,td4, .run, .normal,none⟩) s4 Q:=by
   intro n' s4 bad tm4 td4 hn' hT4 x4 hb1 hb2 g63 g0 g39 g40 g41
   cases bad with
   |true=>
    refine aH Nj_ ?_ hT4 g63
    refine XF_.u ?_
    simp only[Cq_,RR,SS]
    refine aB (rs:=[2]) (vs:=[.int .i64 2]) rfl (.inl Asi_) J H0 Jj (x4.cx.trans hcx) Y ?_
    have:=q s4 x4
    rw[hb1 rfl]at this
    exact this
   |false=>
    refine aE Nj_ ?_ hT4 g63
    refine Adg_.u ?_
    have ei:=eiW (i:=i) J
    simp only[YB,RR,SS,Ad,g41,ei]
    exact ih (i+1) _ (some ps[i].num) _ _ _ J J AnB_ x4 (hb2 rfl) (.inr ⟨J,J,rfl⟩) (an g0) (an g39) (an g40) Y
  have lies: ∀(mem:T Cell) (next:Nat) (f:Value×OpLog->M ((Rho×T Value)×List OpLog)) (Q':(Rho×T Value)×List OpLog->St->Prop),mem=s3.mem->next=s3.next->(∀(s1:St) (rd:List Nat),s3.next<=s1.next->(∀x,x<s3.next->T.get s1.mem x=T.get s3.mem x)->(∀x∈rd,x<s3.next)->W (f (.bool (AZ ps[i].size 0 ps[i].hs),⟨s3.next,s1.next,rd,[]⟩)) (dSt s1.mem s1.next) Q')->
    W (M.bind (apartO (Ac envS (runF envS (n-1-1-1-1)) 95 [.agg (pkC ps[i]).toArray])) f) (dSt mem next) Q':=by
   intro mem next f Q' e1 e2 h
   subst e1;subst e2
   refine aU (AiZ_ (s:=oSt s3.mem s3.next) (Nat.le_refl _) ((hr3.at hil).choose_spec.choose_spec.choose_spec.2.2.1.same rfl rfl) g16 J hbo J λs1 x1=>⟨Any,x1,λrd hrd=> ?_⟩)
   exact h s1 rd x1.nxt (λx hx=>x1.mem x hx id) λx hx=>(hrd x hx).1
  refine AeU_.u ?_
  simp only[Qk_,RR,T.get_set,Nat.reduceEqDiff, ↓reduceIte,h0,AA,BH,Bb,A7,AX,Dn,Aw]
  rw[W_dq λs Q=>Ae (s:=s) _ _]
  have keep: ∀b o u,Own s3 b o u->At (dSt s3.mem s3.next) b o u:=λb o u hu=>(hu.same (s':=dSt s3.mem s3.next) rfl rfl).at'
  have keepR:Row (dSt s3.mem s3.next) C 0 (pkC ps[i]):=λj u e=>keep _ _ _ (o3' j u e)
  rcases hpr with⟨hi0,hpr⟩|⟨hi1,hi0,hpr⟩
  ·have e0:decide ((0:Int)<((i:Nat):Int))=false:=decide_eq_false J
   subst hpr
   simp only[e0,Aw,A4,Cb,Dc,if_f]
   rw[W_dq λs Q=>B9 (s:=s) _ _ _ _]
   simp only[Bool.false_eq_true,reduceIte,Aw,A4,Cb,DU,if_t]
   refine aZ Ca keepR rfl λmem1 rd14 em hr14=> ?_
   subst em
   refine lies _ _ _ _ rfl rfl λs4 rd15 n4 m4 hr15=> ?_
   rw[W_dq λs Q=>CI (s:=s) _ _ Q,AJ]
   refine⟨G9 am (by
    simp only[List.reverse_cons,List.reverse_nil,List.nil_append,List.cons_append,List.mem_cons,List.not_mem_nil,or_false]
    rintro m (rfl|rfl|rfl|rfl|rfl|rfl|rfl|rfl|rfl|rfl|rfl|rfl|rfl|rfl|rfl|rfl|rfl)<;>refine⟨rfl,λy hy=> ?_⟩<;>first|(cases hy;done)|(exact hr15 _ hy)|(have h1:=(hr14 _ hy).2;omega)), ?_⟩
   refine W.cast (OK _ _ _ _ _ _ _ _ _ _ _ _ _ _ _ _ _ _ _ _ _ _) ?_
   try simp only[SS,reduceCtorEq, ↓reduceIte]
   refine after _ _ (!(AZ ps[i].size 0 ps[i].hs)) _ _ J rfl (xs3.then0 (Ext.draw (F:=Any) (show s3.next<=s4.next from n4) (λx hx=>m4 x hx) am λ_ _ _ _ _=>trivial) hb0) (λhq=> ?_) (λhq=> ?_) Y (an h0) (by simp[T.get_set,h39,ev]) (an h40) (an h41)
   ·rw[ho,show AZ ps[i].size 0 ps[i].hs=false by simpa using hq]
    simp
   ·rw[ho,show AZ ps[i].size 0 ps[i].hs=true by simpa using hq]
    simp
  ·have e0:decide ((0:Int)<((i:Nat):Int))=true:=decide_eq_true J
   subst hpr
   obtain⟨b',o',c',ev',gp,_⟩:=hr3.at hi1
   have gp0:At (dSt s3.mem s3.next) b' (o'+(i-1)*3+0) (.int .i64 ps[i-1].num):=(gp 0 _ rfl).same (s':=dSt s3.mem s3.next) rfl rfl
   have esub:wrap64 (((i:Nat):Int)-1)=((i-1:Nat):Int):=by
    rw[AN J J];omega
   have gplt:b'+(o'+(i-1)*3+0)<s3.next:=gp0.1
   simp only[e0,Aw,A4,Cb,ED,if_t,ev']
   rw[W_dq λs Q=>Af (s:=s) Dm al Q]
   refine aD Ap (keep _ _ _ o0) λrd4 hr4=> ?_
   simp only[Aw]
   rw[W_dq λs Q=>Ah (s:=s) ((i:Nat):Int) 1,esub]
   dsimp only
   rw[W_dq λs Q=>AO (s:=s) A8 hi1 Q]
   dsimp only
   rw[W_dq λs Q=>Af (s:=s) Dm al Q]
   refine aD Ap gp0 λrd10 hr10=> ?_
   rw[W_dq λs Q=>Ak (s:=s) _ _]
   dsimp only
   rw[W_dq λs Q=>B9 (s:=s) _ _ _ _]
   by_cases hle:ps[i].num<=ps[i-1].num
   ·simp only[hle,decide_true,reduceIte,Aw,A4,Cb,CA,if_f,AJ]
    refine⟨CX am am, ?_⟩
    refine W.cast (OK _ _ _ _ _ _ _ _ _ _ _ _ _ _ _ _ _ _ _ _ _ _) ?_
    try simp only[SS, ↓reduceIte]
    refine after _ _ true _ _ J rfl (xs3.then0 (Ext.draw (F:=Any) (Nat.le_refl _) (λ_ _=>rfl) am λ_ _ _ _ _=>trivial) hb0) (λ_=> ?_) (λh=>by cases h) Y (an h0) (by simp[T.get_set,h39,ev]) (an h40) (an h41)
    rw[ho]
    dsimp only
    rw[decide_eq_false (show ¬ps[i-1].num<ps[i].num by omega)]
    simp
   ·simp only[hle,decide_false,reduceIte,Aw,A4,Cb,DU,if_t]
    refine aZ Ca keepR rfl λmem1 rd14 em hr14=> ?_
    subst em
    refine lies _ _ _ _ rfl rfl λs4 rd15 n4 m4 hr15=> ?_
    rw[W_dq λs Q=>CI (s:=s) _ _ Q,AJ]
    refine⟨G9 am (by
     simp only[List.reverse_cons,List.reverse_nil,List.nil_append,List.cons_append,List.mem_cons,List.not_mem_nil,or_false]
     rintro m (rfl|rfl|rfl|rfl|rfl|rfl|rfl|rfl|rfl|rfl|rfl|rfl|rfl|rfl|rfl|rfl|rfl)<;>refine⟨rfl,λy hy=> ?_⟩<;>first|(cases hy;done)|(exact hr15 _ hy)|(have h1:=(hr14 _ hy).2;omega)|(have h1:=hr4 _ hy;omega)|(have h1:=hr10 _ hy;omega)), ?_⟩
    refine W.cast (OK _ _ _ _ _ _ _ _ _ _ _ _ _ _ _ _ _ _ _ _ _ _) ?_
    try simp only[SS,reduceCtorEq, ↓reduceIte]
    refine after _ _ (!(AZ ps[i].size 0 ps[i].hs)) _ _ J rfl (xs3.then0 (Ext.draw (F:=Any) (show s3.next<=s4.next from n4) (λx hx=>m4 x hx) am λ_ _ _ _ _=>trivial) hb0) (λhq=> ?_) (λhq=> ?_) Y (an h0) (by simp[T.get_set,h39,ev]) (an h40) (an h41)
    ·rw[ho,show AZ ps[i].size 0 ps[i].hs=false by simpa using hq]
     simp
    ·rw[ho]
     dsimp only
     rw[show AZ ps[i].size 0 ps[i].hs=true by simpa using hq,decide_eq_true (show ps[i-1].num<ps[i].num by omega)]
     simp
theorem AdA_ (hb0:s0.lim<=s0.next)(hr:PkR s0 v ps)(hz:Ar ps<=1000000000)(hcx:s0.cx=cxN)(hps:ps.length<=1000000000)
  (q: ∀s1,Ext Any Non s0 s1->Q (.int .i64 (if ps.all Bd then(if BL none ps then 0 else 2)else 5), .run) s1):
  ∀(k i n:Nat) (tm:T Value) (s:St) (td:List Item),i+k=ps.length->40*ps.length+20*k+40*Ar ps+1000<=n->skim 64 td=Lg->Ext Any Non s0 s->(ps.take i).all Bd=true->
  T.get tm 0=some v->T.get tm 29=some v->T.get tm 30=some (.int .i64 (ps.length:Nat))->T.get tm 31=some (.int .i64 (i:Nat))->
  W (runF envS n ⟨43,Is,Bv,tm,td, .run, .normal,none⟩) s Q:=by
 intro k
 induction k with
 |zero=>
  intro i n tm s td hi hn hT hx ho h0 h29 h30 h31
  rw[show i=ps.length by omega,List.take_length]at ho
  refine Hr_.u ?_ hT
  simp only[OP,RR,SS,Ab,h30,h31]
  refine aE UW ?_
  refine ArQ_.u ?_
  simp only[PA_,RR,SS,reduceCtorEq, ↓reduceIte,h0]
  rw[hr.len]
  refine Aep_ (s0:=s) (hx.bnd hb0) (hr.ext0 hx) hz (hx.cx.trans hcx) ho hps (λs1 x1=> ?_) ps.length 0 _ none _ _ _ J J rfl (Ext.refl _) (by rw[List.drop_zero]) (.inl ⟨rfl,rfl⟩) (an h0) Y Y Y
  have:=q s1 (hx.then0 x1 hb0)
  rw[ho]at this
  exact this
 |succ k ih=>
  intro i n tm s td hi hn hT hx ho h0 h29 h30 h31
  have hil:i<ps.length:=J
  have hb:=hx.bnd hb0
  obtain⟨b,o,c,ev,ga,gh,g16,_,_⟩:=(hr.ext0 hx).at hil
  have htl:=Ex hil
  refine Hr_.u ?_ hT
  simp only[OP,RR,SS,Ab,h30,h31]
  refine aH UW ?_
  refine Aoe_.u ?_
  simp only[Wi,RR,SS,Nat.reduceEqDiff, ↓reduceIte,h29,ev,h31,AO A8 hil]
  refine aJ Ca ga rfl λs1 m1 n1 x1=> ?_
  refine W.alloc FJ λs2 n2 x2 o2=> ?_
  have n2':s2.next=s1.next+4:=n2
  refine W.store Ca (v:= .agg (pkC ps[i]).toArray) rfl (I4 gh) (λj hj=>Aa.owned o2 j (by simpa using hj)) λs3 n3 x3 o3=> ?_
  rw[BV]at o3
  have xs2:Ext Any Non s0 s2:=(hx.then0 x1 hb0).then0 x2 hb0
  have hlt0:s0.next<=s1.next:=(hx.then0 x1 hb0).nxt
  have xs3:Ext Any Non s0 s3:=xs2.trans x3 hb0 (λ_ _ _=>trivial) λy hy h=>by
   have h1:=h.1
   omega
  have hr3:PkR s3 v ps:=hr.ext0 xs3
  refine ApK_.u ?_
  simp only[Hk_,RR,SS, ↓reduceIte]
  refine aJ Ca (Aa.row o3) rfl λs4 m4 n4 x4=> ?_
  have xs4:=xs3.then0 x4 hb0
  refine Ava_ (xs4.bnd hb0) ((hr.ext0 xs4).hs _ (List.getElem_mem hil)) g16 J J λs5 x5=> ?_
  have xs5:=xs4.then0 x5 hb0
  simp only[CI]
  cases hbo:Bd ps[i]with
  |false=>
   simp only[Bool.not_false]
   refine aH Vd ?_
   refine AeW_.u ?_
   simp only[HQ_,RR,SS]
   refine aB (rs:=[2]) (vs:=[.int .i64 5]) rfl (.inl AqX_) J H0 Jj (xs5.cx.trans hcx) Y ?_
   have hno:ps.all Bd=false:=by
    cases ha:ps.all Bd with
    |false=>rfl
    |true=>
     have:=List.all_eq_true.1 ha _ (List.getElem_mem hil)
     rw[hbo]at this
     cases this
   have:=q s5 xs5
   rw[hno]at this
   exact this
  |true=>
   simp only[Bool.not_true]
   refine aE Vd ?_
   refine AxM_.u ?_
   have ei:=eiW (i:=i) J
   simp only[UW_,RR,SS,Nat.reduceEqDiff, ↓reduceIte,Ad,h31,ei]
   exact ih (i+1) _ _ _ _ J J Abx_ xs5 (by rw[List.take_succ_eq_append_getElem hil,List.all_append,ho];simp[hbo]) (an h0) (by simp[T.get_set,h29,ev]) (an h30) Y
theorem Auv_ (hb0:s0.lim<=s0.next)(hr:PkR s0 v ps)(hz:Ar ps<=1000000000)(hcx:s0.cx=cxN)(hps:ps.length<=1000000000)
  (q: ∀s1,Ext Any Non s0 s1->Q (.int .i64 (AY ps), .run) s1):
  ∀(k i n:Nat) (tm:T Value) (s:St) (td:List Item),i+k=ps.length->100*ps.length+20*k+40*Ar ps+2000<=n->skim 64 td=Ke->Ext Any Non s0 s->
  T.get tm 0=some v->T.get tm 3=some (.int .i64 (Ar (ps.take i):Nat))->T.get tm 10=some v->T.get tm 11=some (.int .i64 (ps.length:Nat))->T.get tm 12=some (.int .i64 (i:Nat))->
  W (runF envS n ⟨43,Is,Bv,tm,td, .run, .normal,none⟩) s Q:=by
 intro k
 induction k with
 |zero=>
  intro i n tm s td hi hn hT hx h0 h3 h10 h11 h12
  rw[show i=ps.length by omega,List.take_length]at h3
  refine OL_.u ?_ hT
  simp only[PE,RR,SS,Ab,h11,h12]
  refine aE Tp_ ?_
  refine Aoj_.u ?_
  simp only[Sg_,RR,SS,Nat.reduceEqDiff,reduceCtorEq, ↓reduceIte,h0]
  rw[hr.len]
  try simp only[A4,Dl,B9,Ae]
  have long: ∀(n':Nat) (tm4:T Value) (td4:List Item),20<=n'->skim 64 td4=Jk->T.get tm4 28=some (.bool true)->AY ps=3->W (runF envS n' ⟨43,Is,Bv,tm4,td4, .run, .normal,none⟩) s Q:=by
   intro n' tm4 td4 hn' hT4 g28 hc
   refine aH QG_ ?_ hT4 g28
   refine AsA_.u ?_
   simp only[Rx_,RR,SS]
   refine aB (rs:=[2]) (vs:=[.int .i64 3]) rfl (.inl Amg_) J H0 Jj (hx.cx.trans hcx) Y ?_
   have:=q s hx
   rw[hc]at this
   exact this
  by_cases c1:500<ps.length
  ·have e1:decide ((500:Int)<((ps.length:Nat):Int))=true:=decide_eq_true J
   simp only[e1,AJ,CA,Cx, ↓reduceIte]
   exact long _ _ _ J rfl Y (by unfold AY;rw[decide_eq_true c1,Bool.true_or];rfl)
  ·have e1:decide ((500:Int)<((ps.length:Nat):Int))=false:=decide_eq_false J
   simp only[SS,e1,reduceCtorEq, ↓reduceIte,Ae,h3]
   by_cases c2:20000<Ar ps
   ·have e2:decide ((20000:Int)<((Ar ps:Nat):Int))=true:=decide_eq_true J
    simp only[e2]
    exact long _ _ _ J rfl Y (by unfold AY;rw[decide_eq_true c2,Bool.or_true];rfl)
   ·have e2:decide ((20000:Int)<((Ar ps:Nat):Int))=false:=decide_eq_false J
    simp only[e2]
    refine aE QG_ ?_
    refine Ace_.u ?_
    simp only[UU,RR,SS,reduceCtorEq, ↓reduceIte,h0]
    rw[hr.len]
    refine AdA_ (s0:=s) (hx.bnd hb0) (hr.ext0 hx) hz (hx.cx.trans hcx) hps (λs1 x1=> ?_) ps.length 0 _ _ _ _ J J rfl (Ext.refl _) rfl (an h0) Y Y Y
    have:=q s1 (hx.then0 x1 hb0)
    unfold AY at this
    rw[decide_eq_false c1,decide_eq_false c2]at this
    exact this
 |succ k ih=>
  intro i n tm s td hi hn hT hx h0 h3 h10 h11 h12
  have hil:i<ps.length:=J
  have hb:=hx.bnd hb0
  obtain⟨b,o,c,ev,ga,gh,g16,_,_⟩:=(hr.ext0 hx).at hil
  have htl:=Ex hil
  have ht1:=JR hil
  have ht2:=QG (ps:=ps) (i+1)
  refine OL_.u ?_ hT
  simp only[PE,RR,SS,Ab,h11,h12]
  refine aH Tp_ ?_
  refine Aqx_.u ?_
  simp only[YY,RR,SS,Nat.reduceEqDiff, ↓reduceIte,h10,ev,h12,AO A8 hil]
  refine aJ Ca ga rfl λs1 m1 n1 x1=> ?_
  refine W.alloc FJ λs2 n2 x2 o2=> ?_
  have n2':s2.next=s1.next+4:=n2
  refine W.store Ca (v:= .agg (pkC ps[i]).toArray) rfl (I4 gh) (λj hj=>Aa.owned o2 j (by simpa using hj)) λs3 n3 x3 o3=> ?_
  rw[BV]at o3
  have xs2:Ext Any Non s0 s2:=(hx.then0 x1 hb0).then0 x2 hb0
  have hlt0:s0.next<=s1.next:=(hx.then0 x1 hb0).nxt
  have xs3:Ext Any Non s0 s3:=xs2.trans x3 hb0 (λ_ _ _=>trivial) λy hy h=>by
   have h1:=h.1
   omega
  have o2f:Own s3 s1.next (0+2) ps[i].v:=o3 2 _ rfl
  refine Axv_.u ?_
  simp only[Uf_,RR,SS,Nat.reduceEqDiff, ↓reduceIte,h3,Af BG al]
  refine aA Bu o2f.at' ?_
  have xs4:=xs3.thenRd hb0 (s1.next+(0+2))
  rw[((hr.ext0 xs4).hs _ (List.getElem_mem hil)).len]
  have es:wrap64 ((Ar (ps.take i):Nat)+(ps[i].hs.length:Nat):Int)=((Ar (ps.take (i+1)):Nat):Int):=by
   rw[AN J J];omega
  simp only[Ad,es]
  refine Xe_.u ?_
  have ei:=eiW (i:=i) J
  simp only[Ty,RR,SS,Nat.reduceEqDiff, ↓reduceIte,Ad,h12,ei]
  exact ih (i+1) _ _ _ _ J J Agp_ xs4 (an h0) Y (by simp[T.get_set,h10,ev]) (an h11) Y
end
theorem M1 {n:Nat}{v:Value}{ps:List PkI}{s:St}{Q:Value->St->Prop}(hb:s.lim<=s.next)(hr:PkR s v ps)(hz:Ar ps<=1000000000)(hps:ps.length<=1000000000)(hn:200*ps.length+40*Ar ps+3000<=n)(q: ∀s1,Ext Any Non s s1->Q (.int .i64 (AY ps)) s1):
  W (Ac envS (runF envS n) 43 [v]) s Q:=by
 refine AwC_ λtm h0=> ?_
 have hr':PkR (s.cxN cxN) v ps:=hr.same rfl rfl
 refine Ata_.u ?_
 simp only[Os_,RR,SS]
 refine AkJ_.u ?_
 simp only[CM_,RR,SS]
 refine Are_.u ?_
 simp only[Fo_,RR,SS,reduceCtorEq, ↓reduceIte,h0]
 rw[hr'.len]
 exact Auv_ (s0:=s.cxN cxN) hb hr' hz rfl hps (λs1 x1=>q _ x1.cx') ps.length 0 _ _ _ _ J J rfl (Ext.refl _) (an h0) (by simp[T.get_set];rfl) Y Y Y
section
variable {parts:List (Value×List Nat)}{b o c:Nat}
end
section
variable {parts:List (Value×List Nat)}{b o c:Nat}
end
section
variable {parts:List (Value×List Nat)}{b o c:Nat}
