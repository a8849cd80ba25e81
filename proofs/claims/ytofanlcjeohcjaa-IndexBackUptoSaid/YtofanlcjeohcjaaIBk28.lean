import Derived.Test.YtofanlcjeohcjaaIBk27
import Derived.Test.YtofanlcjeohcjaaIBk23
import Derived.Test.YtofanlcjeohcjaaIBk08
import Derived.Test.YtofanlcjeohcjaaIBk15
import Derived.Test.YtofanlcjeohcjaaIBk07
import Derived.KernelRfl
import Derived.Test.YtofanlcjeohcjaaIBk20
noncomputable section
namespace Go.Proofs.Ytofanlcjeohcjaa.Am
open Go.RowKit
theorem FG (n:Nat):(numB n).length<=5:=by rw[ME];exact(E6 n).2
theorem IM_: ∀hs:List HdI,(∀h∈hs,h.1.length=16)->(BT hs).length<=26*hs.length
 |[],_=>Nat.zero_le _
 |h::hs,g=>by
  have h1:=g h (by simp)
  have h2:=IM_ hs λx hx=>g x (by simp[hx])
  have h3:=FG h.2.1.toNat
  have h4:=FG h.2.2.toNat
  show((h.1++(numB h.2.1.toNat++numB h.2.2.toNat))++BT hs).length<=_
  simp only[List.length_append,List.length_cons]
  omega
theorem S8: ∀ps:List PkI,(∀p∈ps,∀h∈p.hs,h.1.length=16)->(CP (ps.map PkI.key)).length<=15*ps.length+26*Bb ps
 |[],_=>Nat.zero_le _
 |p::ps,g=>by
  have h1:=IM_ p.hs (g p (by simp))
  have h2:=S8 ps λx hx=>g x (by simp[hx])
  have h3:=FG p.num.toNat
  have h4:=FG p.size.toNat
  have h5:=FG p.hs.length
  have e:Bb (p::ps)=p.hs.length+Bb ps:=by unfold Bb;simp
  show((numB p.num.toNat++(numB p.size.toNat++(numB p.hs.length++BT p.hs)))++CP (ps.map PkI.key)).length<=_
  rw[e]
  simp only[List.length_append,List.length_cons]
  omega
theorem Dw_: ∀hs:List HdI,(∀h∈hs,Byt h.1)->Byt (BT hs)
 |[],_=>λx hx=>by cases hx
 |h::hs,g=>λx hx=>by
  have hx':x∈(h.1++(numB h.2.1.toNat++numB h.2.2.toNat))++BT hs:=hx
  simp only[List.mem_append]at hx'
  rcases hx' with(hx|hx|hx)|hx
  ·exact g h (by simp) x hx
  ·exact Ga _ x hx
  ·exact Ga _ x hx
  ·exact Dw_ hs (λy hy=>g y (by simp[hy])) x hx
theorem SO: ∀ps:List PkI,(∀p∈ps,∀h∈p.hs,Byt h.1)->Byt (CP (ps.map PkI.key))
 |[],_=>λx hx=>by cases hx
 |p::ps,g=>λx hx=>by
  have hx':x∈(numB p.num.toNat++(numB p.size.toNat++(numB p.hs.length++BT p.hs)))++CP (ps.map PkI.key):=hx
  simp only[List.mem_append]at hx'
  rcases hx' with(hx|hx|hx|hx)|hx
  ·exact Ga _ x hx
  ·exact Ga _ x hx
  ·exact Ga _ x hx
  ·exact Dw_ p.hs (g p (by simp)) x hx
  ·exact SO ps (λy hy=>g y (by simp[hy])) x hx
theorem AA_ {size:Int}(hs1:size<=65536): ∀(hs:List HdI) (e:Int),B2 size e hs=true-> ∀h∈hs,h.2.1<=65536
 |[],_,_,h,hh=>by cases hh
 |g::hs,e,hl,h,hh=>by
  have hl':(decide (e<=g.2.1)&&decide (g.2.1<=size-BY g.2.2)&&B2 size (g.2.1+BY g.2.2) hs)=true:=hl
  rw[Bool.and_eq_true,Bool.and_eq_true]at hl'
  rcases List.mem_cons.1 hh with rfl|hh
  ·have h1:=of_decide_eq_true hl'.1.2
   have h2:=(V9 h.2.2).1
   omega
  ·exact AA_ hs1 hs _ hl'.2 h hh
theorem GQ_: ∀(ps:List PkI) (pr:Option Int),CD pr ps=true-> ∀p∈ps,B2 p.size 0 p.hs=true
 |[],_,_,p,hp=>by cases hp
 |o::ps,pr,h,p,hp=>by
  unfold CD at h
  rw[Bool.and_eq_true,Bool.and_eq_true]at h
  rcases List.mem_cons.1 hp with rfl|hp
  ·exact h.1.2
  ·exact GQ_ ps _ h.2 p hp
theorem Y0 {ps:List PkI}(h:Cm ps=0)(h16: ∀p∈ps,∀h∈p.hs,h.1.length=16):ps.length<=500/\Bb ps<=20000/\(∀p∈ps,okP p.key)/\(Cf (ps.map PkI.key)).length<=600000:=by
 unfold Cm at h
 cases hc:(decide (500<ps.length)||decide (20000<Bb ps))with
 |true=>rw[hc]at h;simp at h
 |false=>
  rw[hc]at h
  simp only[Bool.false_eq_true,if_false]at h
  rw[Bool.or_eq_false_iff]at hc
  have c1:=of_decide_eq_false hc.1
  have c2:=of_decide_eq_false hc.2
  cases hb:ps.all B1 with
  |false=>rw[hb]at h;simp at h
  |true=>
   rw[hb]at h
   simp only[if_true]at h
   cases ho:CD none ps with
   |false=>rw[ho]at h;simp at h
   |true=>
    have hl:=S8 ps h16
    have h5:=FG (ps.map PkI.key).length
    refine⟨by omega,by omega,λp hp=> ?_, ?_⟩
    ·have b:=List.all_eq_true.1 hb p hp
     unfold B1 at b
     simp only[Bool.and_eq_true,decide_eq_true_eq,Bool.not_eq_true']at b
     obtain⟨⟨⟨⟨b1,b2⟩,b3⟩,b4⟩,b5⟩:=b
     have hlen:p.hs.length<=Bb ps:=by
      obtain⟨i,hi⟩:=List.getElem?_of_mem hp
      have hi':=(List.getElem?_eq_some_iff.1 hi).1
      have:=Km hi'
      rw[(List.getElem?_eq_some_iff.1 hi).2]at this
      exact this
     refine⟨b1,b2,b3,b4,by show p.hs.length<=20000;omega,λg hg=> ?_⟩
     have o:=List.any_eq_false.1 b5 g hg
     unfold oddH at o
     simp only[Bool.or_eq_true,decide_eq_true_eq,not_or]at o
     have l1:=AA_ b4 p.hs 0 (GQ_ ps none ho p hp) g hg
     have l2:=o.2
     unfold BY at l2
     have l3: ¬(g.2.2<1\/1024<g.2.2):=λhh=>l2 (if_pos hh)
     have l4:=h16 p hp g hg
     exact⟨l4,by have:=o.1;omega,by omega,by omega,by omega⟩
    ·unfold Cf
     rw[List.length_append]
     omega
theorem MkS.bn1 {s:St}{l:List Nat}{v:Value}{b:Nat}(mk:MkS s 1 l.length (u8l l) v b)(h:0<l.length)(hl:l.length<capU):Bn s v l:=by
 rcases mk.bs hl with⟨_,e⟩|h'
 ·rw[e]at h
  cases h
 ·exact h'
section
variable {n:Nat}{s:St}{Q:Value->St->Prop}{vp:Value}{ps:List PkI}
theorem Eh_ (hb:s.lim<=s.next)(hp:PkR s vp ps)(hby: ∀p∈ps,∀h∈p.hs,Byt h.1)(hl:ps.length<=1000000)(ht:Bb ps<=10000000)(hn:700000000<=n)
  (q1:Cm ps≠0-> ∀s1,Ext Any Non s s1->Q (.tuple #[.slice none 0 0, .int .i64 (Cm ps)]) s1)
  (q2:Cm ps=0-> ∀s1 w,Ext Any Non s s1->NewO s s1 w (gput (Cf (ps.map PkI.key)))->Q (.tuple #[w, .int .i64 0]) s1):
  W (Ay envS (runF envS n) 37 [vp]) s Q:=by
 have hb0:(s.cxN cxN).lim<=(s.cxN cxN).next:=hb
 have hp0:PkR (s.cxN cxN) vp ps:=hp.same rfl rfl
 refine Ajh_ λtm g0=> ?_
 refine Ajg_.w rfl (by omega) ?_
 simp only[GI_,Aa,W_mv,Ab]
 refine Ahq_.w Pa_ (by omega) ?_
 simp only[FW_,Ac,W_on,Aa,W_mv,Ab,aA,Ag,Af,Ae,Ah,reduceCtorEq, ↓reduceIte,g0]
 refine JC hb0 hp0 (by omega) (by omega) (by omega) λs1 x1=> ?_
 have y1:Ext Any Non (s.cxN cxN) s1:=x1
 have hb1:=y1.bnd hb0
 refine AaG_.w AbP_ (by omega) ?_
 simp only[X5,Ac,W_oS,Aa,W_mv,Ab,aA,↓reduceIte,Co]
 by_cases hc:Cm ps=0
 ·refine W.cond (v:=false) Cr_ Y4 (by simp[aA,hc]) (by omega) (λh=>by cases h) λ_=> ?_
  obtain⟨c1,c2,c3,c4⟩:=Y0 hc hp.h16
  have hkl:(ps.map PkI.key).length=ps.length:=List.length_map ..
  have hp1:=hp0.ext0 y1
  refine Afs_.w Agi_ (by omega) ?_
  simp only[X9,Ac,W_on,Aa,W_mv,Ab,Af,Ah]
  refine AcC_ hb1 (by omega) λs2 h2 n2=> ?_
  refine Wi_.w Abq_ (by omega) ?_
  simp only[Ww,Ac,W_oS,W_on,Aa,W_mv,aA,Ag,Af,Ae,Ah,reduceCtorEq, ↓reduceIte,g0]
  rw[hp0.len]
  refine GS hb1 h2 (by omega) (by simp) (by omega) λu3 s3 v3 bk3 h3 _ _=> ?_
  refine AcV_.w Ago_ (by omega) ?_
  simp only[Gw_,Ac,W_oS,Aa,W_mv,Ab,aA,Ag,Af,Ae,reduceCtorEq, ↓reduceIte,g0]
  rw[hp0.len]
  rw[List.nil_append]at h3
  refine YK_ (vp:=vp) (ps:=ps) (ACC:=Cf (ps.map PkI.key)) hb1 hp1 c3 (by omega) (by omega) ps.length 0 _ _ v3 bk3 _ s3 _ (Nat.zero_add _) (by omega) AbM_ h3 (by unfold Cf;rw[List.drop_zero,hkl]) (by simp[aA]) (by simp[aA]) (by simp[aA]) (by simp[aA]) λn4 v4 bk4 tm4 s4 td4 hn4 hT4 h4 g5=> ?_
  refine Rs_.w hT4 (by omega) ?_
  simp only[Z7,Ac,W_oS,W_on,Aa,W_mv,Ab,Ag,Af,Ae,Ah,g5]
  refine US_ hb1 h4 (by omega) (by omega) λs5 w5 wb5 x5 mk5 hw5=> ?_
  have y5:Ext Any Non (s.cxN cxN) s5:=(y1.then0 h4.x hb0).then0 x5 hb0
  rw[BS (k:=0) rfl,BS (k:=1) rfl]
  refine Tk_.w QL_ (by omega) ?_
  simp only[Fs_,Ac,W_oS,Aa,W_mv,Ab,aA,↓reduceIte,Co]
  refine W.cond (v:=false) KE_ Acw_ (by simp[aA]) (by omega) (λh=>by cases h) λ_=> ?_
  refine Abv_.w Afb_ (by omega) ?_
  simp only[Jo_,Ac,W_on,Aa,W_mv,Ab,aA,Ag,Af,Ae,Ah,Nat.reduceEqDiff, ↓reduceIte]
  have hpos:0<(Cf (ps.map PkI.key)).length:=by
   unfold Cf
   rw[List.length_append,ME]
   have:=(E6 (ps.map PkI.key).length).1
   omega
  have hbyt:Byt (Cf (ps.map PkI.key)):=λx hx=>by
   unfold Cf at hx
   rcases List.mem_append.1 hx with hx|hx
   ·exact Ga _ x hx
   ·exact SO ps hby x hx
  refine AjO_ (y5.bnd hb0) (by omega) (mk5.bn1 hpos (by unfold capU;omega)) hbyt (by omega) λs6 w6 x6 hw6=> ?_
  have y6:=y5.then0 x6 hb0
  refine aG (rs:=[2,3]) (vs:=[w6, .int .i64 0]) All_ (.inl MD_) (by omega) SR Ih_ y6.cx (by simp[aA]) ?_
  obtain⟨nb,c,e1,e2,e3,e4,e5⟩:=hw6
  have hn5:s.next<=s5.next:=y5.nxt
  exact q2 hc _ w6 y6.cx' ⟨nb,c,e1,e2,e3,λi u e=>(e4 i u e).same rfl rfl,by omega⟩
 ·refine W.cond (v:=true) Cr_ Y4 (by simp[aA,hc]) (by omega) (λ_=> ?_) λh=>by cases h
  refine Aif_.w NI_ (by omega) ?_
  simp only[Fl_,Aa,W_mv,Ab,aA,Nat.reduceEqDiff, ↓reduceIte]
  refine aG (rs:=[2,3]) (vs:=[.slice none 0 0, .int .i64 (Cm ps)]) UB_ (.inl Alc_) (by omega) SR Ih_ y1.cx (by simp[aA]) ?_
  exact q1 hc _ y1.cx'
end
theorem Bc_:U6 envS 22=true:=by kernel_rfl
theorem DR_:SP envS 9=true:=by kernel_rfl
theorem AeA_ {va vb:Value}{l:List Nat}{n:Nat}{s:St}{Q:Value->St->Prop}(hbd:s.lim<=s.next)(ha:Bs s va l)(hb:Bs s vb l)(hne:l≠[])(hn:20<=n)
  (q: ∀s1,Ext (λx=>BsF va x\/BsF vb x) Non s s1->s1.mem=s.mem->s1.next=s.next->Q (.bool true) s1):W (Ay envS (runF envS n) 19 [va,vb]) s Q:=by
 refine Yk_ λtm h0 h1=> ?_
 have ha':Bs (s.cxN cxN) va l:=ha.same rfl rfl
 have hb':Bs (s.cxN cxN) vb l:=hb.same rfl rfl
 refine Os_.w rfl (by omega) ?_
 simp -implicitDefEqProofs only[JR_,Aa,W_mv,Ab]
 refine AfP_.w XQ_ (by omega) ?_
 simp -implicitDefEqProofs only[IH_,Ac,W_oS,Aa,W_mv,Ab,aA,Nat.reduceEqDiff,reduceCtorEq, ↓reduceIte,h0,h1]
 refine W.str ha' (.inl hne) Bc_ DR_ λsa ma na xa=> ?_
 refine W.str (hb'.same ma na) (.inl hne) Bc_ DR_ λsb mb nb xb=> ?_
 have hx:Ext (λx=>BsF va x\/BsF vb x) Non (s.cxN cxN) sb:=(xa.weak hbd (λ_ _ h=> .inl h) λ_ _ h=>h).step xb hbd (λ_ _ h=> .inr h) λ_ h=>h.elim
 simp -implicitDefEqProofs only[Xm_,beq_self_eq_true]
 refine aG (rs:=[4]) (vs:=[.bool true]) Vm_ (.inl Ahp_) (by omega) XY Afy_ hx.cx (by simp[aA]) ?_
 exact q _ hx.cx' (mb.trans ma) (nb.trans na)
theorem AJ_: ∀hs:List HdI,Byt (BT hs)-> ∀h∈hs,Byt h.1
 |[],_,h,hh=>by cases hh
 |g::hs,hb,h,hh=>λx hx=>by
  have hb':Byt ((g.1++(numB g.2.1.toNat++numB g.2.2.toNat))++BT hs):=hb
  rcases List.mem_cons.1 hh with rfl|hh
  ·exact hb' x (by simp[hx])
  ·exact AJ_ hs (EO hb') h hh x hx
theorem YE: ∀ps:List PkI,Byt (CP (ps.map PkI.key))-> ∀p∈ps,∀h∈p.hs,Byt h.1
 |[],_,p,hp=>by cases hp
 |o::ps,hb,p,hp=>λh hh=>by
  have hb':Byt ((numB o.num.toNat++(numB o.size.toNat++(numB o.hs.length++BT o.hs)))++CP (ps.map PkI.key)):=hb
  rcases List.mem_cons.1 hp with rfl|hp
  ·refine AJ_ p.hs (λx hx=>hb' x ?_) h hh
   simp[hx]
  ·exact YE ps (EO hb') p hp h hh
theorem NewO.bs {s s':St}{v:Value}{l:List Nat}(h:NewO s s' v l):Bs s' v l:=by
 obtain⟨nb,c,e1,e2,e3,e4,e5⟩:=h
 exact .inr ⟨nb,0,c,e1,e2,e3,e4.row⟩
section
variable {Q:Value×FrameMode->St->Prop}{s0:St}{vb:Value}{b:List Nat}
theorem Ab_ (hb0:s0.lim<=s0.next)(hcx:s0.cx=cxN)(hB:Bs s0 vb b)(hby:Byt b)(hz:b.length<=900000)(q: ∀s,Q (.bool true, .run) s):
  ∀(n:Nat) (tm:T Value) (s:St) (td:List Item),900000000<=n->skim 64 td=GQ->Ext Any Non s0 s->T.get tm 1=some vb->T.get tm 9=some (.bool true)->
  W (runF envS n ⟨13,EF,BB,tm,td, .run, .normal,none⟩) s Q:=by
 intro n tm s td hn hT' hx g1 g9
 have hb:=hx.bnd hb0
 refine Tb_.w hT' (by omega) ?_
 simp only[By_,Ac,W_oS,W_on,Aa,W_mv,Ab,Ag,Af,Ae,Ah,g1]
 refine Lo hb (hB.ext0 hx) hby hz (by omega) (λos vo s1 hok hc x1 hr _ hol hot=> ?_) λs1 _ x1=> ?_
 ·rw[BS (k:=0) rfl,BS (k:=1) rfl]
  have y1:=hx.then0 x1 hb0
  obtain⟨⟨h4,hg⟩,hra⟩:=hok
  have hbody:Byt (b.take (b.length-4)):=λx hx=>hby x (List.mem_of_mem_take hx)
  have henc:=AdR_ hbody hra
  have hids: ∀p∈os,∀h∈p.hs,Byt h.1:=by
   refine YE os λx hx=>hbody x ?_
   rw[henc]
   unfold Cf
   exact List.mem_append_right _ hx
  rw[henc]at hg
  refine ZI.w Hl_ (by omega) ?_
  simp only[Vc,Ac,W_oS,Aa,W_mv,Ab,aA,↓reduceIte,Co]
  refine W.cond (v:=false) Jp_ Xr (by simp[aA]) (by omega) (λh=>by cases h) λ_=> ?_
  refine Rz_.w ND_ (by omega) ?_
  simp only[Ae_,Ac,W_oS,W_on,Aa,W_mv,Ab,aA,Ag,Af,Ae,Ah,Nat.reduceEqDiff, ↓reduceIte]
  refine Eh_ (y1.bnd hb0) hr hids (by omega) hot (by omega) (λh=>absurd hc h) λ_ s2 w x2 hw=> ?_
  rw[BS (k:=0) rfl,BS (k:=1) rfl]
  have y2:=y1.then0 x2 hb0
  refine Adx_.w AiV_ (by omega) ?_
  simp only[HC_,Ac,W_oS,W_on,Aa,W_mv,Ab,aA,Ag,Af,Ae,Ah,Ai,Ap,Ak,Al,Aj,Nat.reduceEqDiff, ↓reduceIte,g1,g9]
  refine JC (y2.bnd hb0) (hr.ext0 x2) (by omega) (by omega) (by omega) λs3 x3=> ?_
  have y3:=y2.then0 x3 hb0
  rw[hc]
  simp only[W_oS,W_on,Aa,Ah,Ai,Ap,Ak,Al,Aj, ↓reduceIte,EU,decide_true,Ai,Ap]
  rw[hg]at hw
  refine AeA_ (y3.bnd hb0) (hw.bs.ext0 x3) (hB.ext0 y3) (by intro e;rw[e]at h4;simp at h4) (by omega) λs4 x4 _ _=> ?_
  have y4:=y3.then0 x4 hb0
  exact aG (rs:=[8]) (vs:=[.bool true]) Akr_ (.inl Qw_) (by omega) MT Vy (y4.cx.trans hcx) (by simp[aA]) (q _)
 ·rw[BS (k:=0) rfl,BS (k:=1) rfl]
  have y1:=hx.then0 x1 hb0
  refine ZI.w Hl_ (by omega) ?_
  simp only[Vc,Ac,W_oS,Aa,W_mv,Ab,aA,↓reduceIte,Co]
  refine W.cond (v:=true) Jp_ Xr (by simp[aA]) (by omega) (λ_=> ?_) λh=>by cases h
  refine Zt_.w Ael_ (by omega) ?_
  simp only[Cu_,Ac,W_oS,W_on,Aa,W_mv,Ab,aA,Ag,Af,Ae,Ai,Ap,Ak,Al,Aj,Nat.reduceEqDiff, ↓reduceIte,EU,g9,decide_true,Ai,Ap,Cc CZ]
  have e0:decide (((0:Nat):Int)=0)=true:=rfl
  try simp only[e0]
  exact aG (rs:=[8]) (vs:=[.bool true]) Nt_ (.inl Aab_) (by omega) MT Vy (y1.cx.trans hcx) (by simp[aA]) (q _)
end
theorem AC.putB {F:Nat->Prop}{s s':St}{nb k x:Nat}{l:List Nat}(h:AC s nb 0 (u8l l))(hk:k<l.length)(e:Ext F (In nb k 1) s s')(ho:Own s' nb k (u8 x)):AC s' nb 0 (u8l (l.set k x)):=λj u hu=>by
 rw[List.getElem?_map]at hu
 obtain⟨z,hz,rfl⟩:=Option.map_eq_some_iff.1 hu
 by_cases hj:j=k
 ·subst hj
  rw[List.getElem?_set_self hk]at hz
  cases hz
  rw[Nat.zero_add]
  exact ho
 ·rw[List.getElem?_set_ne (λe=>hj e.symm)]at hz
  exact(h j _ (by rw[List.getElem?_map,hz];rfl)).ext e λhg=>by have h1:=hg.1;have h2:=hg.2;omega
section
variable {Q:Value×FrameMode->St->Prop}{s0:St}
theorem Ajt_ {n i F0 nb c:Nat}{B:List Nat}{tm:T Value}{td:List Item}{s:St}(hb:s.lim<=s.next)(hk:(F0+i)/8<B.length)(hlen:B.length<=1000000)(hby:Byt B)(hB:AC s nb 0 (u8l B))
  (h10:T.get tm 10=some (.slice (some ⟨nb,0,none⟩) B.length c)) (h2:T.get tm 2=some (.int .i64 (F0:Nat))) (h16:T.get tm 16=some (.int .i64 (i:Nat))) (hT:skim 64 td=JM) (hn:10<=n)
  (q: ∀(n1:Nat) (s1:St) (td1:List Item),n-1<=n1->skim 64 td1=IT->Ext Any (In nb 0 B.length) s s1->AC s1 nb 0 (u8l (DP B ((F0+i)/8) ((F0+i)%8)))->W (runF envS n1 ⟨13,EF,BB,tm,td1, .run, .normal,none⟩) s1 Q):
  W (runF envS n ⟨13,EF,BB,tm,td, .run, .normal,none⟩) s Q:=by
 have eq:wrap64 ((F0:Nat)+(i:Nat):Int)=((F0+i:Nat):Int):=by
  rw[Bq (by omega) (by omega)];simp
 have ob:Own s nb ((F0+i)/8) (.int .u8 (B.getD ((F0+i)/8) 0:Nat)):=by
  have:=hB ((F0+i)/8) _ (List.getElem?_eq_getElem (by rw[Bu];exact hk))
  rw[Nat.zero_add]at this
  rw[List.getD_eq_getElem?_getD,List.getElem?_eq_getElem hk]
  simpa using this
 refine Ob_.wr hT (by omega) ?_
 simp only[Yy,h10,h2,h16,BW,Br]
 rw[W_dq λs Q=>BG (s:=s) ((F0:Nat):Int) ((i:Nat):Int),eq]
 dsimp only
 rw[W_dq λs Q=>Xv (s:=s) (m:=F0+i) (by omega) Q]
 simp only[Br]
 rw[W_dq λs Q=>BG (s:=s) ((F0:Nat):Int) ((i:Nat):Int),eq]
 dsimp only
 rw[W_dq λs Q=>Xv (s:=s) (m:=F0+i) (by omega) Q]
 dsimp only
 rw[W_dq λs Q=>BX (s:=s) BE hk Q]
 have oat:At (dSt s.mem s.next) nb (0+((F0+i)/8)*1) (.int .u8 (B.getD ((F0+i)/8) 0:Nat)):=by
  rw[show 0+((F0+i)/8)*1=(F0+i)/8 by omega]
  exact(ob.same (s':=dSt s.mem s.next) rfl rfl).at'
 refine aH ER oat λrd1 hr1=> ?_
 simp only[Br]
 rw[W_dq λs Q=>BG (s:=s) ((F0:Nat):Int) ((i:Nat):Int),eq]
 dsimp only
 rw[W_dq λs Q=>Om_ (s:=s) Q]
 dsimp only
 rw[W_dq λs Q=>Aku_ (s:=s) (k:=(F0+i)%8) (by omega) Q]
 have hx1:B.getD ((F0+i)/8) 0<2^8:=by
  rw[List.getD_eq_getElem?_getD,List.getElem?_eq_getElem hk]
  exact hby _ (List.getElem_mem hk)
 have hx2:2^((F0+i)%8)<2^8:=Nat.pow_lt_pow_right (by decide) (by omega)
 have hx3:B.getD ((F0+i)/8) 0^^^2^((F0+i)%8)<256:=Nat.xor_lt_two_pow hx1 hx2
 dsimp only
 rw[W_dq λs Q=>AjI_ (s:=s) hx3 Q]
 dsimp only
 rw[W_dq λs Q=>BX (s:=s) BE hk Q]
 rw[Aa]
 refine⟨rfl,by simp,by simp,λs1 m1 n1 x1=> ?_⟩
 refine W.cast (Acq_ _ _ _ _ _ _ _ _ _ _ _ _ _ _ _ _ _ _ _ _ _ _ _ _) ?_
 simp only[Ac,W_oS,Aa]
 rw[show 0+((F0+i)/8)*1=(F0+i)/8 by omega]
 refine aI ER rfl (ob.same m1 n1) λs2 n2 x2 o2=> ?_
 have hB1:AC s1 nb 0 (u8l B):=λj u e=>(hB j u e).same m1 n1
 refine q _ s2 _ (Nat.le_refl _) ZJ_ ((x1.weak hb (λ_ _ h=>h) λ_ _ h=>h.elim).trans x2 hb (λ_ _ _=>trivial) λy _ hy=>⟨by have:=hy.1;omega,by have:=hy.2;omega⟩) ?_
 exact hB1.putB hk x2 o2
theorem Aac_ {F0 m nb c:Nat}{l:List Nat}{vb vl:Value}(hb0:s0.lim<=s0.next)(hnb:s0.next<=nb)(hF:F0+32<=8*l.length)(hlen:l.length<=1000000)(hby:Byt l):
  ∀(k i n:Nat) (tm:T Value) (s:St) (td:List Item),i+k=32->10*k+10<=n->skim 64 td=Hq->Ext Any Non s0 s->AC s nb 0 (u8l (CA l F0 m i))->
  T.get tm 1=some vb->T.get tm 2=some (.int .i64 (F0:Nat))->T.get tm 3=some (.int .u32 (m:Nat))->T.get tm 9=some (.bool true)->T.get tm 10=some (.slice (some ⟨nb,0,none⟩) l.length c)->T.get tm 15=some (.int .i64 4)->T.get tm 16=some (.int .i64 (i:Nat))->
  (∀(n1:Nat) (tm1:T Value) (s1:St) (td1:List Item),n-(10*k+10)<=n1->skim 64 td1=J2->Ext Any Non s0 s1->AC s1 nb 0 (u8l (CA l F0 m 32))->T.get tm1 1=some vb->T.get tm1 3=some (.int .u32 (m:Nat))->T.get tm1 9=some (.bool true)->T.get tm1 10=some (.slice (some ⟨nb,0,none⟩) l.length c)->T.get tm1 15=some (.int .i64 4)->W (runF envS n1 ⟨13,EF,BB,tm1,td1, .run, .normal,none⟩) s1 Q)->
  W (runF envS n ⟨13,EF,BB,tm,td, .run, .normal,none⟩) s Q:=by
 intro k
 induction k with
 |zero=>
  intro i n tm s td hi hn hT hx mb h1 h2 h3 h9 h10 h15 h16 q
  have hi32:i=32:=by omega
  subst hi32
  refine WT.w hT (by omega) ?_
  simp only[UA,Ac,W_oS,Aa,W_mv,Ab,Bg,h16]
  refine W.cond (v:=false) XB AF_ (by simp[aA]) (by omega) (λh=>by cases h) λ_=> ?_
  exact q _ _ _ _ (by omega) TO_ hx mb (by simp[aA,h1]) (by simp[aA,h3]) (by simp[aA,h9]) (by simp[aA,h10]) (by simp[aA,h15])
 |succ k ih=>
  intro i n tm s td hi hn hT hx mb h1 h2 h3 h9 h10 h15 h16 q
  have hb:=hx.bnd hb0
  refine WT.w hT (by omega) ?_
  simp only[UA,Ac,W_oS,Aa,W_mv,Ab,Bg,h16]
  refine W.cond (v:=true) XB AF_ (by simp[aA];omega) (by omega) (λ_=> ?_) λh=>by cases h
  refine Tu_.w YP_ (by omega) ?_
  simp only[Zc,Ac,W_oS,Aa,W_mv,Ab,aA,Nat.reduceEqDiff, ↓reduceIte,h3,h16]
  rw[Hw (show i<=btOf .u32 by rw[Aiy_];omega)]
  rw[QJ_]
  rw[AfC_]
  have step: ∀(n1:Nat) (tm1:T Value) (s1:St) (td1:List Item),10*k+15<=n1->n<=n1+5->skim 64 td1=IT->Ext Any Non s0 s1->AC s1 nb 0 (u8l (CA l F0 m (i+1)))->
    T.get tm1 1=some vb->T.get tm1 2=some (.int .i64 (F0:Nat))->T.get tm1 3=some (.int .u32 (m:Nat))->T.get tm1 9=some (.bool true)->T.get tm1 10=some (.slice (some ⟨nb,0,none⟩) l.length c)->T.get tm1 15=some (.int .i64 4)->T.get tm1 16=some (.int .i64 (i:Nat))->W (runF envS n1 ⟨13,EF,BB,tm1,td1, .run, .normal,none⟩) s1 Q:=by
   intro n1 tm1 s1 td1 hn1 hn2 hT1 hx1 mb1 g1 g2 g3 g9 g10 g15 g16
   refine WR_.w hT1 (by omega) ?_
   have ei:wrap64 ((i:Nat)+1:Int)=((i+1:Nat):Int):=by
    rw[Bq (by omega) (by omega)];simp
   simp only[IU_,Ac,W_oS,Aa,W_mv,Ab,BG,g16,ei]
   refine ih (i+1) _ _ _ _ (by omega) (by omega) WT_ hx1 mb1 (by simp[aA,g1]) (by simp[aA,g2]) (by simp[aA,g3]) (by simp[aA,g9]) (by simp[aA,g10]) (by simp[aA,g15]) (by simp[aA]) λn2 tm2 s2 td2 a1=> ?_
   exact q n2 tm2 s2 td2 (by omega)
  have hsh:m>>>i%2=m/2^i%2:=by rw[Nat.shiftRight_eq_div_pow]
  rw[hsh]
  by_cases hm:m/2^i%2=1
  ·have eB:CA l F0 m (i+1)=DP (CA l F0 m i) ((F0+i)/8) ((F0+i)%8):=by
    show(if m/2^i%2=1 then _ else _)=_
    rw[if_pos hm]
   refine W.cond (v:=true) BW_ Eb_ (by simp[aA,hm]) (by omega) (λ_=> ?_) λh=>by cases h
   have hBl:(CA l F0 m i).length=l.length:=GZ _ _ _ _
   refine Ajt_ (i:=i) (F0:=F0) (nb:=nb) (c:=c) (B:=CA l F0 m i) hb (by rw[hBl];omega) (by rw[hBl];exact hlen) (Gt hby _ _ _) mb (by simp[aA,h10,hBl]) (by simp[aA,h2]) (by simp[aA,h16]) Sv_ (by omega) λn1 s1 td1 a1 a2 x1 a5=> ?_
   refine step n1 _ s1 td1 (by omega) (by omega) a2 (hx.trans x1 hb0 (λ_ _ _=>trivial) λy hy hg=>by have h1:=hg.1;omega) (by rw[eB];exact a5) (by simp[aA,h1]) (by simp[aA,h2]) (by simp[aA,h3]) (by simp[aA,h9]) (by simp[aA,h10]) (by simp[aA,h15]) (by simp[aA,h16])
  ·have eB:CA l F0 m (i+1)=CA l F0 m i:=by
    show(if m/2^i%2=1 then _ else _)=_
    rw[if_neg hm]
   refine W.cond (v:=false) BW_ Eb_ (by simp[aA,hm]) (by omega) (λh=>by cases h) λ_=> ?_
   exact step _ _ s _ (by omega) (by omega) Acs_ hx (by rw[eB];exact mb) (by simp[aA,h1]) (by simp[aA,h2]) (by simp[aA,h3]) (by simp[aA,h9]) (by simp[aA,h10]) (by simp[aA,h15]) (by simp[aA,h16])
end
def DZ:Nat:=Ba Try.f34
abbrev JZ_:Nat:=37
def Hd_:Code:=Try.f34.body.getD .skip
theorem Sb:envS.fn.get 34=some Try.f34:=by kernel_rfl
theorem Aix_ {a0 a1 a2:Value}{n:Nat}{s:St}{Q:Value->St->Prop}(h: ∀tm,T.get tm 0=some a0->T.get tm 1=some a1->T.get tm 2=some a2->W (runF envS n ⟨34,37,DZ,tm,[.code Hd_], .run, .normal,none⟩) (s.cxN cxN) λp s1=>Q p.1 (s1.cxN s.cx)):W (Ay envS (runF envS n) 34 [a0,a1,a2]) s Q:=
 W.call (by kernel_rfl) (by kernel_rfl) Sb (by kernel_rfl) rfl rfl (by simp) (h _ (by kernel_rfl) (by kernel_rfl) (by kernel_rfl))
theorem YC:Try.f34.results.toList=[.tmp 6]:=by kernel_rfl
def U1:List Item:=skim 64 [.code Hd_]
def PA:List Item:=skim 64 U1.tail
theorem QT_:skim 64 U1.tail=PA:=by kernel_rfl
def OD:List Item:=skim 64 PA.tail
theorem Tr_:skim 64 PA.tail=OD:=by kernel_rfl
def GO:List Item:=skim 64 OD.tail
theorem AcU_:skim 64 OD.tail=GO:=by kernel_rfl
def It:List Item:=skim 64 GO.tail
theorem Ra:skim 64 GO.tail=It:=by kernel_rfl
def Ob:List Item:=skim 64 (brT It)
theorem MX_:skim 64 (brT It)=Ob:=by kernel_rfl
def Je:List Item:=skim 64 (brF It)
theorem Wg:skim 64 (brF It)=Je:=by kernel_rfl
def Qw:List Item:=skim 64 Ob.tail
theorem VJ_:skim 64 Ob.tail=Qw:=by kernel_rfl
def QN:List Item:=skim 64 Je.tail
theorem GO_:skim 64 Je.tail=QN:=by kernel_rfl
theorem Mt_:skim 64 Qw.tail=GO:=by kernel_rfl
def HN_ (E:Env)(call round:Ad)(tm:T Value):M (T Value):=
 mv (some (.bool false)) λv6=>
 setF 6 v6 tm λtm1=>
 M.pure tm1
theorem Ze_:RegEq 34 37 DZ U1 HN_:=⟨by kernel_rfl,λ_ _ _ _ _ _ _ _ _=>by kernel_rfl⟩
def Fa_ (E:Env)(call round:Ad)(tm:T Value):M (T Value):=
 mv (some (.int .i64 0)) λv7=>
 setF 7 v7 tm λtm1=>
 M.pure tm1
theorem AbA_:RegEq 34 37 DZ PA Fa_:=⟨by kernel_rfl,λ_ _ _ _ _ _ _ _ _=>by kernel_rfl⟩
def WK (E:Env)(call round:Ad)(tm:T Value):M (T Value):=
 mv (some (.int .i64 0)) λv8=>
 setF 8 v8 tm λtm1=>
 M.pure tm1
theorem Ru_:RegEq 34 37 DZ OD WK:=⟨by kernel_rfl,λ_ _ _ _ _ _ _ _ _=>by kernel_rfl⟩
def Rm (E:Env)(call round:Ad)(tm:T Value):M (T Value):=
 mv (T.get tm 8) λv9=>
 mv (T.get tm 0) λv10=>
 M.bind (oS (seqO [(some v10)]) λl=>A6 E .len [55] l) λv11=>
 M.bind (oS (some v9) λa=>oS (some v11) λb=>Cl.get (aBin E .lss 3 (.tmp 9) (.tmp 11)) a b) λv12=>
 mv (some v12) λv13=>
 M.bind (M.chk (isK v13) (aC (isB v13 true) (oS (T.get tm 8) λa=>M.pure a) (M.pure undef))) λv14=>
 M.bind (M.chk (isK v13) (aC (isB v13 true) (oS (T.get tm 1) λa=>M.pure a) (M.pure undef))) λv15=>
 M.bind (M.chk (isK v13) (aC (isB v13 true) (oS (some v14) λa=>oS (some v15) λb=>Cl.get (aBin E .leq 3 (.tmp 14) (.tmp 15)) a b) (M.pure undef))) λv16=>
 M.bind (M.on (some v13) λa=>M.on (some v16) λb=>M.on (some (.bool false)) λc=>Bp a b c) λv17=>
 setF 17 v17 tm λtm1=>
 M.pure tm1
theorem VV:RegEq 34 37 DZ GO Rm:=⟨by kernel_rfl,λ_ _ _ _ _ _ _ _ _=>by kernel_rfl⟩
theorem Qg:A5 It=some 17:=by kernel_rfl
def Fe_ (E:Env)(call round:Ad)(tm:T Value):M (T Value):=
 mv (T.get tm 7) λv20=>
 mv (T.get tm 0) λv21=>
 mv (T.get tm 8) λv22=>
 M.bind (oS (some v21) λa=>oS (some v22) λb=>Bt E 55 a b) λv23=>
 M.bind (oS (some v23) λa=>kFld E 85 a 2) λv24=>
 M.bind (oS (some v24) λa=>AD E 36 a) λv25=>
 M.bind (oS (seqO [(some v25)]) λl=>A6 E .len [36] l) λv26=>
 M.bind (oS (some v20) λa=>oS (some v26) λb=>Cl.get (aBin E .add 3 (.tmp 20) (.tmp 26)) a b) λv27=>
 mv (some v27) λv7=>
 setF 7 v7 tm λtm1=>
 M.pure tm1
theorem Ajz_:RegEq 34 37 DZ Ob Fe_:=⟨by kernel_rfl,λ_ _ _ _ _ _ _ _ _=>by kernel_rfl⟩
def GB_ (E:Env)(call round:Ad)(tm:T Value):M (T Value):=
 mv (T.get tm 0) λv28=>
 M.bind (oS (seqO [(some v28)]) λl=>A6 E .len [55] l) λv29=>
 mv (T.get tm 1) λv30=>
 M.bind (oS (some v29) λa=>oS (some v30) λb=>Cl.get (aBin E .gtr 3 (.tmp 29) (.tmp 30)) a b) λv31=>
 mv (some v31) λv32=>
 M.bind (M.chk (isK v32) (aC (isB v32 false) (oS (T.get tm 7) λa=>M.pure a) (M.pure undef))) λv33=>
 M.bind (M.chk (isK v32) (aC (isB v32 false) (oS (T.get tm 2) λa=>M.pure a) (M.pure undef))) λv34=>
 M.bind (M.chk (isK v32) (aC (isB v32 false) (oS (some v33) λa=>oS (some v34) λb=>Cl.get (aBin E .gtr 3 (.tmp 33) (.tmp 34)) a b) (M.pure undef))) λv35=>
 M.bind (M.on (some v32) λa=>M.on (some (.bool true)) λb=>M.on (some v35) λc=>Bp a b c) λv36=>
 mv (some v36) λv6=>
 setF 6 v6 tm λtm1=>
 M.pure tm1
theorem AaL_:RegEq 34 37 DZ Je GB_:=⟨by kernel_rfl,λ_ _ _ _ _ _ _ _ _=>by kernel_rfl⟩
def Bl_ (E:Env)(call round:Ad)(tm:T Value):M (T Value):=
 mv (T.get tm 8) λv18=>
 M.bind (oS (some v18) λa=>oS (some (.int .i64 1)) λb=>Cl.get (aBin E .add 3 (.tmp 18) (.const (.int .i64 1))) a b) λv19=>
 mv (some v19) λv8=>
 setF 8 v8 tm λtm1=>
 M.pure tm1
theorem MS_:RegEq 34 37 DZ Qw Bl_:=⟨by kernel_rfl,λ_ _ _ _ _ _ _ _ _=>by kernel_rfl⟩
theorem DY_: ∃k,QN= .code .ret::k:=⟨QN.tail,by kernel_rfl⟩
def bigP (ps:List PkI)(k m:Nat):Bool:=decide (k<ps.length)||decide (m<Bb (ps.take (k+1)))
theorem Zr {N:Nat}: ∀{ps:List PkI},(∀p∈ps,p.hs.length<=N)->Bb ps<=ps.length*N
 |[],_=>Nat.zero_le _
 |p::ps,h=>by
  have h1:=h p (by simp)
  have h2:=Zr (ps:=ps) λx hx=>h x (by simp[hx])
  have h3:Bb (p::ps)=p.hs.length+Bb ps:=by unfold Bb;rw[List.map_cons,List.sum_cons]
  rw[h3,List.length_cons,Nat.succ_mul]
  omega
section
variable {vp:Value}{ps:List PkI}{k m:Nat}{Q:Value×FrameMode->St->Prop}{s0:St}
theorem PP_ (hb0:s0.lim<=s0.next)(hp:PkR s0 vp ps)(hz: ∀p∈ps,p.hs.length<=1048576)(hk:k<=1000)(hcx:s0.cx=cxN)(q: ∀s1,Ext Any Non s0 s1->Q (.bool (bigP ps k m), .run) s1):
  ∀(d i n:Nat) (tm:T Value) (s:St) (td:List Item),i+d=min ps.length (k+1)->10*d+20<=n->skim 64 td=GO->Ext Any Non s0 s->
  T.get tm 0=some vp->T.get tm 1=some (.int .i64 (k:Nat))->T.get tm 2=some (.int .i64 (m:Nat))->T.get tm 7=some (.int .i64 (Bb (ps.take i):Nat))->T.get tm 8=some (.int .i64 (i:Nat))->
  W (runF envS n ⟨34,JZ_,DZ,tm,td, .run, .normal,none⟩) s Q:=by
 have tail: ∀(n':Nat) (tm:T Value) (s:St) (td:List Item),10<=n'->skim 64 td=Je->Ext Any Non s0 s->T.get tm 0=some vp->T.get tm 1=some (.int .i64 (k:Nat))->T.get tm 2=some (.int .i64 (m:Nat))->T.get tm 7=some (.int .i64 (Bb (ps.take (k+1)):Nat))->W (runF envS n' ⟨34,JZ_,DZ,tm,td, .run, .normal,none⟩) s Q:=by
  intro n' tm s td hn hT hx h0 h1 h2 h7
  refine AaL_.w hT (by omega) ?_
  simp only[GB_,Ac,W_oS,W_on,Aa,W_mv,Ab,Ag,Af,Ae,h0,h1]
  rw[hp.len]
  try simp only[Ai,Ak,Aj,CT]
  by_cases c1:k<ps.length
  ·have e1:decide (((k:Nat):Int)<((ps.length:Nat):Int))=true:=decide_eq_true (by omega)
   simp only[e1,Aa,As,Aq, ↓reduceIte]
   refine aG (rs:=[6]) (vs:=[.bool true]) GO_ (.inl DY_) (by omega) Sb YC (hx.cx.trans hcx) (by simp[aA]) ?_
   have:=q s hx
   unfold bigP at this
   rw[decide_eq_true c1,Bool.true_or]at this
   exact this
  ·have e1:decide (((k:Nat):Int)<((ps.length:Nat):Int))=false:=decide_eq_false (by omega)
   have e2:decide (((m:Nat):Int)<((Bb (ps.take (k+1)):Nat):Int))=decide (m<Bb (ps.take (k+1))):=by
    by_cases h:m<Bb (ps.take (k+1))
    ·rw[decide_eq_true h,decide_eq_true (by omega)]
    ·rw[decide_eq_false h,decide_eq_false (by omega)]
   simp only[e1,W_oS,Aa,An,Al,reduceCtorEq, ↓reduceIte,CT,h2,h7,e2]
   refine aG (rs:=[6]) (vs:=[.bool (decide (m<Bb (ps.take (k+1))))]) GO_ (.inl DY_) (by omega) Sb YC (hx.cx.trans hcx) (by simp[aA]) ?_
   have:=q s hx
   unfold bigP at this
   rw[decide_eq_false c1,Bool.false_or]at this
   exact this
 intro d
 induction d with
 |zero=>
  intro i n tm s td hi hn hT hx h0 h1 h2 h7 h8
  have ht:ps.take i=ps.take (k+1):=by
   rcases Nat.lt_or_ge (k+1) ps.length with h|h
   ·rw[show i=k+1 by omega]
   ·rw[List.take_of_length_le (show ps.length<=i by omega),List.take_of_length_le h]
  rw[ht]at h7
  refine VV.w hT (by omega) ?_
  simp only[Rm,Ac,W_oS,W_on,Aa,W_mv,Ab,Ag,Af,Ae,h0,h8]
  rw[hp.len]
  try simp only[Ai,Ak,Aj,Bg]
  by_cases c1:i<ps.length
  ·have e1:decide (((i:Nat):Int)<((ps.length:Nat):Int))=true:=decide_eq_true (by omega)
   have e2:decide (((i:Nat):Int)<=((k:Nat):Int))=false:=decide_eq_false (by omega)
   simp only[e1,W_oS,Aa,Ap,Al, ↓reduceIte,Gf,h1,e2]
   refine W.cond (v:=false) Ra Qg (by simp[aA]) (by omega) (λh=>by cases h) λ_=> ?_
   exact tail _ _ s _ (by omega) Wg hx (by simp[aA,h0]) (by simp[aA,h1]) (by simp[aA,h2]) (by simp[aA,h7])
  ·have e1:decide (((i:Nat):Int)<((ps.length:Nat):Int))=false:=decide_eq_false (by omega)
   simp only[e1,Aa,Au,Aq,reduceCtorEq, ↓reduceIte]
   refine W.cond (v:=false) Ra Qg (by simp[aA]) (by omega) (λh=>by cases h) λ_=> ?_
   exact tail _ _ s _ (by omega) Wg hx (by simp[aA,h0]) (by simp[aA,h1]) (by simp[aA,h2]) (by simp[aA,h7])
 |succ d ih=>
  intro i n tm s td hi hn hT hx h0 h1 h2 h7 h8
  have hil:i<ps.length:=by omega
  obtain⟨b,o,c,ev,ga,gH,_,_,_⟩:=(hp.ext0 hx).at hil
  have e1:decide (((i:Nat):Int)<((ps.length:Nat):Int))=true:=decide_eq_true (by omega)
  have e2:decide (((i:Nat):Int)<=((k:Nat):Int))=true:=decide_eq_true (by omega)
  have hzi:=hz _ (List.getElem_mem hil)
  have htb:=Zr (ps:=ps.take i) (N:=1048576) λf hf'=>hz f (List.mem_of_mem_take hf')
  have hti:(ps.take i).length<=1001:=by rw[List.length_take];omega
  have hm:(ps.take i).length*1048576<=1001*1048576:=Nat.mul_le_mul_right _ hti
  refine VV.w hT (by omega) ?_
  simp only[Rm,Ac,W_oS,W_on,Aa,W_mv,Ab,Ag,Af,Ae,h0,h8]
  rw[hp.len]
  simp only[W_oS,Aa,Ai,Ap,Ak,Al,Aj, ↓reduceIte,Bg,Gf,e1,h1,e2]
  refine W.cond (v:=true) Ra Qg (by simp[aA]) (by omega) (λ_=> ?_) λh=>by cases h
  refine Ajz_.w MX_ (by omega) ?_
  simp only[Fe_,Ac,W_oS,Aa,W_mv,Ab,aA,Ag,Af,Ae,Nat.reduceEqDiff,reduceCtorEq, ↓reduceIte,h0,ev,h7,h8,BX CZ hil,A8 Eg (by decide)]
  refine aD Eo (ga 2 _ rfl) ?_
  have x1:=hx.thenRd hb0 (b+(o+i*3+2))
  rw[gH.len]
  have es:wrap64 ((Bb (ps.take i):Nat)+(ps[i].hs.length:Nat):Int)=((Bb (ps.take (i+1)):Nat):Int):=by
   rw[Bq (by omega) (by omega),TU hil];omega
  simp only[BG,es]
  refine MS_.w VJ_ (by omega) ?_
  have ei:wrap64 ((i:Nat)+1:Int)=((i+1:Nat):Int):=by
   rw[Bq (by omega) (by omega)];simp
  simp only[Bl_,Ac,W_oS,Aa,W_mv,Ab,aA,Nat.reduceEqDiff, ↓reduceIte,BG,h8,ei]
  exact ih (i+1) _ _ _ _ (by omega) (by omega) Mt_ x1 (by simp[aA,h0,ev]) (by simp[aA,h1]) (by simp[aA,h2]) (by simp[aA]) (by simp[aA])
theorem Adk_ {n:Nat}{s:St}{Q:Value->St->Prop}(hb:s.lim<=s.next)(hp:PkR s vp ps)(hz: ∀p∈ps,p.hs.length<=1048576)(hk:k<=1000)(hn:10*k+100<=n)(q: ∀s1,Ext Any Non s s1->Q (.bool (bigP ps k m)) s1):W (Ay envS (runF envS n) 34 [vp, .int .i64 (k:Nat), .int .i64 (m:Nat)]) s Q:=by
 refine Aix_ λtm h0 h1 h2=> ?_
 refine Ze_.w rfl (by omega) ?_
 simp only[HN_,Aa,W_mv,Ab]
 refine AbA_.w QT_ (by omega) ?_
 simp only[Fa_,Aa,W_mv,Ab]
 refine Ru_.w Tr_ (by omega) ?_
 simp only[WK,Aa,W_mv,Ab]
 exact PP_ (s0:=s.cxN cxN) hb (hp.same rfl rfl) hz hk rfl (λs1 x1=>q _ x1.cx') (min ps.length (k+1)) 0 _ _ _ _ (by omega) (by omega) AcU_ (Ext.refl _) (by simp[aA,h0]) (by simp[aA,h1]) (by simp[aA,h2]) (by simp[aA];rfl) (by simp[aA])
end
end Go.Proofs.Ytofanlcjeohcjaa.Am
end
