import Derived.Test.YtndednnianphoaaGreatDoorJo19
namespace Go.Proofs.YtndednnianphoaaGreatDoor.Am
open Go.RowKit
theorem Ll_:elT envS 114=some (1,24,[.slice none 0 0]):=by kernel_rfl
theorem Pf_:hasT envS 118=true:=by kernel_rfl
theorem GZ:intK envS 5=some .u8:=by kernel_rfl
def le4 (n:Nat):List Nat:=[n%256,n>>>8%256,n>>>16%256,n>>>24%256]
def gput (l:List Nat):List Nat:=l++le4 (CX 0 l)
theorem Byt.le4 (n:Nat):Byt (le4 n):=λx hx=>by
 simp -implicitDefEqProofs only[Am.le4,List.mem_cons,List.not_mem_nil,or_false]at hx
 omega
theorem Byt.gput {l:List Nat}(h:Byt l):Byt (gput l):=λx hx=>by
 rcases List.mem_append.1 hx with hx|hx
 ·exact h x hx
 ·exact Byt.le4 _ x hx
theorem XJ {n:Nat}{s:St}{v:Value}{l:List Nat}{Q:Value->St->Prop}(hbd:s.lim<=s.next)(hn:120<=n)(h:Bn s v l)(hl:Byt l)(hz:l.length<=900000)
  (q: ∀s1 w nb,Ext (BsF v) Non s s1->MkG s1 w (gput l) nb->s.next<=nb->Q w s1):W (Ab envS (runF envS n) 53 [v]) s Q:=by
 refine OC_ λtm h0=> ?_
 have hc:Bn (s.cxN cxN) v l:=h.same rfl rfl
 refine Acl_.u ?_
 simp -implicitDefEqProofs only[Tu,RR,SS]
 refine Jk_.u ?_
 simp -implicitDefEqProofs only[YY,RR,SS,reduceCtorEq, ↓reduceIte,h0]
 refine ZF_ (by omega) hc hl (by omega) λs1 m1 n1 x1=> ?_
 refine Zx_.u ?_
 generalize hS:CX 0 l=S
 simp -implicitDefEqProofs only[Y9,RR,SS,reduceCtorEq, ↓reduceIte,h0]
 simp -implicitDefEqProofs only[DW Pf_ GZ,wrap_u8,Ye (k:= .u32) (by decide),FL_ (k:= .u32) (by decide),Ib_ (k:= .u32) (by decide)]
 have hb1:s1.lim<=s1.next:=x1.bnd hbd
 refine aQ hb1 (r:=u8l (le4 S)) Lz (by decide) rfl (BW (by decide)) λs2 n2 x2 r2=> ?_
 have hb2:s2.lim<=s2.next:=x2.bnd hb1
 obtain⟨b,o,c,rfl,hv⟩:=hc
 refine aQ hb2 (r:=[.slice (some ⟨b,o,none⟩) l.length c, .slice (some ⟨s1.next,0,none⟩) 4 4]) Ll_ (by decide) rfl (BW (by decide)) λs3 n3 x3 r3=> ?_
 have hb3:s3.lim<=s3.next:=x3.bnd hb2
 have hx1:Ext (BsF (.slice (some ⟨b,o,none⟩) l.length c)) Non (s.cxN cxN) s1:=x1
 have hx2:=hx1.step x2 hbd (λ_ _ h=>h.elim) λ_ h=>h.elim
 have hx3:=hx2.step x3 hbd (λ_ _ h=>h.elim) λ_ h=>h.elim
 have hBv:Bs s3 (.slice (some ⟨b,o,none⟩) l.length c) l:=(Bn.bs ⟨b,o,c,rfl,hv⟩).ext0 hx3
 have hB4:Bs s3 (.slice (some ⟨s1.next,0,none⟩) 4 4) (le4 S):=(An.bn r2 (BW (by simp[le4]))).ext0 x3
 have hlt:tot [((.slice (some ⟨b,o,none⟩) l.length c:Value),l),(.slice (some ⟨s1.next,0,none⟩) 4 4,le4 S)]=l.length+4:=by simp[tot,le4]
 refine FH_ (parts:=[(.slice (some ⟨b,o,none⟩) l.length c,l),(.slice (some ⟨s1.next,0,none⟩) 4 4,le4 S)]) hb3 ⟨r3.row,λp hp=> ?_⟩ (by rw[hlt];omega) (by rw[hlt];omega) (by simp) (by simp;omega) λs4 w nb x4 hw hnb=> ?_
 ·rcases List.mem_cons.1 hp with rfl|hp
  ·exact hBv
  ·rcases List.mem_cons.1 hp with rfl|hp
   ·exact hB4
   ·cases hp
 have hx4:=hx3.step x4 hbd (λx hx h=>by
  have hn1:s.next<=s1.next:=x1.nxt
  have hn2:s1.next<=s2.next:=x2.nxt
  have hxl:x<s.lim:=hx
  rcases h with h|⟨p,hp,h⟩
  ·have:=h.1;omega
  ·rcases List.mem_cons.1 hp with rfl|hp
   ·exact h
   ·rcases List.mem_cons.1 hp with rfl|hp
    ·have:s1.next+0<=x:=h.1
     omega
    ·cases hp) λ_ h=>h.elim
 refine aC (rs:=[2]) (vs:=[w]) rfl (.inl Qo_) (by omega) Sx Adi_ hx4.cx (by simp[T.get_set]) ?_
 refine q _ _ nb hx4.cx' ?_ (Nat.le_trans hx3.nxt hnb)
 have:=hw.same (s':=s4.cxN s.cx) rfl rfl
 show MkG (s4.cxN s.cx) w (gput l) nb
 unfold gput
 rw[hS]
 simpa [fl]using this
theorem VH_ (l:List Nat):(gput l).length=l.length+4:=by simp[gput,le4]
theorem Ta_ {n:Nat}{s:St}{v:Value}{l:List Nat}{Q:Value->St->Prop}(hbd:s.lim<=s.next)(hn:120<=n)(h:Bn s v l)(hl:Byt l)(hz:l.length<=900000)
  (q: ∀s1 w,Ext (BsF v) Non s s1->New s s1 w (gput l)->Q w s1):W (Ab envS (runF envS n) 53 [v]) s Q:=
 XJ hbd hn h hl hz λs1 w nb x1 hw hb=>q s1 w x1 (hw.new (by rw[VH_];omega) hb)
section
variable {va vb:Value}{la lb:List Nat}
theorem RX_ {F:Nat->Prop}(hFa: ∀x,BsF va x->F x)(hFb: ∀x,BsF vb x->F x){Q:Value×FrameMode->St->Prop}{s0:St}(hb0:s0.lim<=s0.next)(ha:Bs s0 va la)(hb:Bs s0 vb lb)(hlen:la.length=lb.length)(hz:la.length<=4611686018427387904)(hcx:s0.cx= .cx none (some []))(q: ∀s1,Ext F Non s0 s1->s1.mem=s0.mem->s1.next=s0.next->Q (.bool (decide (la=lb)), .run) s1):
  ∀(k i n:Nat) (tm:T Value) (s:St) (td:List Item),i+k=la.length->7*k+20<=n->skim 64 td=Jt->Ext F Non s0 s->s.mem=s0.mem->s.next=s0.next->la.take i=lb.take i->
  T.get tm 0=some va->T.get tm 1=some vb->T.get tm 12=some (.int .i64 (la.length:Nat))->T.get tm 13=some (.int .i64 (i:Nat))->
  W (runF envS n ⟨52,LU_,Cp,tm,td, .run, .normal,none⟩) s Q:=by
 intro k
 induction k with
 |zero=>
  intro i n tm s td hi hn hT hx hm hnx heq h0 h1 h12 h13
  refine XA.u ?_ hT
  simp -implicitDefEqProofs only[Ph,RR,SS,AC,h12,h13]
  refine aH CD_ ?_
  refine PF_.u ?_
  simp -implicitDefEqProofs only[SV,RR,SS]
  have e:la=lb:=by
   rw[show i=la.length by omega,List.take_length,hlen,List.take_length]at heq
   exact heq
  refine aC (rs:=[4]) (vs:=[.bool true]) rfl (.inl OU_) (by omega) IS M0 (hx.cx.trans hcx) (by simp[T.get_set]) ?_
  have:=q s hx hm hnx
  rw[decide_eq_true e]at this
  exact this
 |succ k ih=>
  intro i n tm s td hi hn hT hx hm hnx heq h0 h1 h12 h13
  have hia:i<la.length:=by omega
  have hib:i<lb.length:=by omega
  obtain⟨ba,oa,ca,rfl,ga,fa⟩:=ha.at hia
  obtain⟨bb,ob,cb,rfl,gb,fb⟩:=hb.at hib
  refine XA.u ?_ hT
  simp -implicitDefEqProofs only[Ph,RR,SS,AC,h12,h13]
  refine aK CD_ ?_
  refine SM_.u ?_
  simp -implicitDefEqProofs only[DI_,RR,SS,Nat.reduceEqDiff, ↓reduceIte,h13]
  refine Ua_.u ?_
  simp -implicitDefEqProofs only[EK_,RR,T.get_set,Nat.reduceEqDiff, ↓reduceIte,h0,h1,Af,A6]
  rw[W_dq λs Q=>By (s:=s) Bk hia Q]
  refine aE VZ (ga.same hm hnx) λrd1 hr1=> ?_
  simp -implicitDefEqProofs only[A6]
  rw[W_dq λs Q=>By (s:=s) Bk hib Q]
  refine aE VZ (gb.same hm hnx) λrd2 hr2=> ?_
  rw[AY]
  refine⟨Df (by simp) (by simp), ?_⟩
  refine W.cast (Ln_ _ _ _ _ _ _ _ _ _ _ _ _ _) ?_
  simp -implicitDefEqProofs only[SS,Sm_]
  generalize hs':(⟨(dSt s.mem s.next).mem,(dSt s.mem s.next).next,s.lim,_,_,s.cx⟩:St)=s'
  have hx':Ext F Non s0 s':=by
   rw[<-hs']
   refine hx.trans (Ext.draw (F:=F) (Nat.le_refl _) (λ_ _=>rfl) (by simp) (by
    simp -implicitDefEqProofs only[List.mem_cons,List.not_mem_nil,or_false]
    rintro m (rfl|rfl|rfl|rfl|rfl|rfl|rfl|rfl) x hx _<;>first|(exact hFa _ (fa _ (hr1 _ hx)))|(exact hFb _ (fb _ (hr2 _ hx)))|(cases hx))) hb0 (λ_ _ h=>h) λ_ _ h=>h
  have hm':s'.mem=s0.mem:=by rw[<-hs'];exact hm
  have hn':s'.next=s0.next:=by rw[<-hs'];exact hnx
  by_cases he:la[i]=lb[i]
  ·refine aH TY ?_ rfl (by simp[T.get_set,he])
   refine WW_.u ?_
   have ei:=eiW (i:=i) (by omega)
   simp -implicitDefEqProofs only[Tt,RR,SS,Nat.reduceEqDiff, ↓reduceIte,AO,h13,ei]
   refine ih (i+1) _ _ _ _ (by omega) (by omega) Na_ hx' hm' hn' ?_ (by simp[T.get_set,h0]) (by simp[T.get_set,h1]) (by simp[T.get_set,h12]) (by simp[T.get_set])
   rw[List.take_add_one,List.take_add_one,heq,List.getElem?_eq_getElem hia,List.getElem?_eq_getElem hib,he]
  ·refine aK TY ?_ rfl (by simp[T.get_set,he])
   refine Mp_.u ?_
   simp -implicitDefEqProofs only[In_,RR,SS]
   have e:la≠lb:=by
    intro e
    subst e
    exact he rfl
   refine aC (rs:=[4]) (vs:=[.bool false]) rfl (.inl Ol_) (by omega) IS M0 (hx'.cx.trans hcx) (by simp[T.get_set]) ?_
   have:=q s' hx' hm' hn'
   rw[decide_eq_false e]at this
   exact this
theorem IV_ {n:Nat}{s:St}{Q:Value->St->Prop}(hbd:s.lim<=s.next)(ha:Bs s va la)(hb:Bs s vb lb)(hz:la.length<=4611686018427387904)(hn:7*la.length+40<=n)
  (q: ∀s1,Ext (λx=>BsF va x\/BsF vb x) Non s s1->s1.mem=s.mem->s1.next=s.next->Q (.bool (decide (la=lb))) s1):W (Ab envS (runF envS n) 52 [va,vb]) s Q:=by
 refine Yk_ λtm h0 h1=> ?_
 have ha':Bs (s.cxN cxN) va la:=ha.same rfl rfl
 have hb':Bs (s.cxN cxN) vb lb:=hb.same rfl rfl
 refine TQ_.u ?_
 simp -implicitDefEqProofs only[Hj_,RR,SS]
 refine Ms_.u ?_
 simp -implicitDefEqProofs only[VO,RR,SS,Nat.reduceEqDiff,reduceCtorEq, ↓reduceIte,AL,h0,h1,ha'.len Bk,hb'.len Bk]
 by_cases hlen:la.length=lb.length
 ·refine aH Wi ?_ rfl (by simp[T.get_set,hlen])
  refine UE_.u ?_
  simp -implicitDefEqProofs only[Hg_,RR,SS,reduceCtorEq, ↓reduceIte,h0,ha'.len Bk]
  exact RX_ (s0:=s.cxN cxN) (F:=λx=>BsF va x\/BsF vb x) (λ_ h=> .inl h) (λ_ h=> .inr h) hbd ha' hb' hlen hz rfl (λs1 x1 m1 n1=>q _ x1.cx' m1 n1) la.length 0 _ _ _ _ (by omega) (by omega) rfl (Ext.refl _) rfl rfl (by simp) (by simp[T.get_set,h0]) (by simp[T.get_set,h1]) (by simp[T.get_set]) (by simp[T.get_set])
 ·refine aK Wi ?_
  refine PD_.u ?_
  simp -implicitDefEqProofs only[Bj_,RR,SS]
  have e:la≠lb:=λe=>hlen (by rw[e])
  refine aC (rs:=[4]) (vs:=[.bool false]) rfl (.inl VW_) (by omega) IS M0 rfl (by simp[T.get_set]) ?_
  have:=q _ (Ext.refl s) rfl rfl
  rw[decide_eq_false e]at this
  exact this
end
theorem Fresh1.toNew {s s':St}{v:Value}{b:Nat}{l:List Nat}(h:Fresh1 s s' 1 l.length (u8l l) v b)(hl:l.length<capU):New s s' v l:=by
 obtain⟨rfl,hnew,hown,_,_,_⟩:=h
 refine⟨⟨b,0,_,rfl,by rw[HP hl];exact Nat.le_refl _,FX hl (by decide),hown.row⟩,λx hx=> ?_⟩
 have:b+0<=x:=hx.1
 omega
theorem Acf_ {n:Nat}{s:St}{v:Value}{l:List Nat}{Q:Value->St->Prop}(hbd:s.lim<=s.next)(h:Bn s v l)(hz:l.length<=1000000)(hn:30<=n)
  (q: ∀s1 w,Ext (BsF v) Non s s1->New s s1 w l->(0<l.length-> ∃nb,MkG s1 w l nb/\s.next<=nb)->Q w s1):W (Ab envS (runF envS n) 54 [v]) s Q:=by
 refine Yt_ λtm h0=> ?_
 have hc:Bn (s.cxN cxN) v l:=h.same rfl rfl
 refine Aas_.u ?_
 simp -implicitDefEqProofs only[T6,RR,SS]
 refine TW_.u ?_
 obtain⟨b,o,c,rfl,hv⟩:=hc
 simp -implicitDefEqProofs only[Cp_,RR,SS,reduceCtorEq, ↓reduceIte,h0,Acz_ Bk]
 refine aH WK_ ?_
 refine KY_.u ?_
 simp -implicitDefEqProofs only[Rt,RR,SS,reduceCtorEq, ↓reduceIte,h0]
 refine aQ (s:=s.cxN cxN) hbd (r:=[]) Lz (by decide) rfl (BW (by decide)) λs1 n1 x1 r1=> ?_
 have hb1:s1.lim<=s1.next:=x1.bnd hbd
 have hx1:Ext (BsF (.slice (some ⟨b,o,none⟩) l.length c)) Non (s.cxN cxN) s1:=x1.weak hbd (λ_ _ h=>h.elim) λ_ _ h=>h
 have hv1:Bs s1 (.slice (some ⟨b,o,none⟩) l.length c) l:=(Bn.bs ⟨b,o,c,rfl,hv⟩).ext0 hx1
 rw[H1]
 by_cases hl:0<l.length
 ·refine W.appEmpT hb1 IE hv1.src.g hl (by decide) (by decide) (by omega) (by rw[BU,Nat.mul_one]) (FO _) λs2 w nb hf hT x2=> ?_
  have hx2:=hx1.step x2 hbd (λ_ _ h=>h) λ_ h=>h.elim
  refine aC (rs:=[2]) (vs:=[w]) rfl (.inl GD_) (by omega) LZ X5 hx2.cx (by simp[T.get_set]) ?_
  have hN:=hf.toNew (BW (by omega))
  have h2:s.next<=s1.next:=hx1.nxt
  refine q _ _ hx2.cx' ⟨hN.bn.same rfl rfl,λx hx=> ?_⟩ λ_=>⟨nb,⟨?_,λi u e=>(hf.own i u e).same rfl rfl,by rw[Nat.mul_one]at hT;exact hT,by have:=hf.lt;rw[Nat.mul_one]at this;exact this⟩,Nat.le_trans h2 hf.new⟩
  ·have h1:=hN.new x hx
   omega
  ·have:=hf.val
   rw[Nat.mul_one]at this
   exact this
 ·have h0l:l=[]:=List.eq_nil_of_length_eq_zero (by omega)
  subst h0l
  refine W.appIn (s:=s1) (n:=0) (len:=0) (c:=0) (l:=[]) IE hv1.src.g (by simp) rfl rfl (λi hi=>absurd hi (by omega)) λs2 n2 x2 r2=> ?_
  have hx2:=hx1.step x2 hbd (λ_ _ h=>by
   rcases h with h|h
   ·exact h
   ·have h3:=h.1;have h4:=h.2;omega) λl h=>by have h3:=h.1;have h4:=h.2;omega
  refine aC (rs:=[2]) (vs:=[.slice (some ⟨s.next,0,none⟩) (0+0) 0]) rfl (.inl GD_) (by omega) LZ X5 hx2.cx (by simp[T.get_set];rfl) ?_
  refine q _ _ hx2.cx' ⟨⟨s.next,0,0,rfl,by simp,NE (by unfold capU;decide),λi v e=>by simp at e⟩,λx hx=> ?_⟩ λh=>absurd h hl
  have h3:s.next+0<=x:=hx.1
  have h4:x<s.next+0+(0+0):=hx.2
  omega
theorem W.cut {E:Env}{t:Nat}{s:St}{v:Value}{l:List Nat}{i j:Nat}{lo hi:Option Value}{Q:Value->St->Prop}(h:Bn s v l)(ht:slN E t=some 1)(hlo:bndV lo 0=some i)(hhi:bndV hi l.length=some j)(hij:i<=j)(hj:j<=l.length)
  (q: ∀v',Bn s v' ((l.take j).drop i)->(∀x,BsF v' x->BsF v x)->Q v' s):W (Bz E t v lo hi) s Q:=by
 obtain⟨b,o,c,rfl,h1,h2,h3⟩:=h
 rw[NH ht hlo hhi hij (by omega) h2]
 obtain⟨o',e1,e2,e3,e4,e5⟩:=Bs.sub' hij hj h1 h2 h3
 rw[e1]
 refine q _ ⟨b,o',c-i,rfl,e2,e3,e4⟩ λx hx=> ?_
 have hlen:((l.take j).drop i).length=j-i:=by rw[List.length_drop,List.length_take];omega
 have h6:b+o'<=x:=hx.1
 have h7:x<b+o'+((l.take j).drop i).length:=hx.2
 rw[hlen]at h7
 rcases e5 with rfl|e5
 ·exact⟨by omega,by omega⟩
 ·rw[hlen]at e5;omega
def GOk (l:List Nat):Prop:=4<=l.length/\gput (l.take (l.length-4))=l
instance (l:List Nat):Decidable (GOk l):=by unfold GOk;infer_instance
theorem Jp (l:List Nat):(gput l).length=l.length+4:=by simp[gput,le4]
theorem Adg_ {n:Nat}{s:St}{v:Value}{l:List Nat}{Q:Value->St->Prop}(hbd:s.lim<=s.next)(h:Bn s v l)(hb:Byt l)(hz:l.length<=900000)(hn:7*l.length+200<=n)
  (q1:GOk l-> ∀s1 w,Ext (BsF v) Non s s1->New s s1 w (l.take (l.length-4))->(4<l.length-> ∃nb,MkG s1 w (l.take (l.length-4)) nb/\s.next<=nb)->Q (.tuple #[w, .int .i64 0]) s1) (q2: ¬GOk l-> ∀s1,Ext (BsF v) Non s s1->Q (.tuple #[.slice none 0 0, .int .i64 4]) s1):W (Ab envS (runF envS n) 22 [v]) s Q:=by
 refine QT_ λtm h0=> ?_
 have hc:Bn (s.cxN cxN) v l:=h.same rfl rfl
 refine AbK_.u ?_
 simp -implicitDefEqProofs only[En_,RR,SS]
 refine TT_.u ?_
 simp -implicitDefEqProofs only[YB,RR,SS,reduceCtorEq, ↓reduceIte,Bq,h0,hc.bs.len Bk]
 refine Acq_.u ?_
 by_cases h4:4<=l.length
 ·have ek:wrap64 ((l.length:Nat)-4:Int)=((l.length-4:Nat):Int):=by
   rw[Bc (by omega) (by omega)];omega
  have ed:decide (((l.length-4:Nat):Int)<0)=false:=by simp
  simp -implicitDefEqProofs only[OK,RR,SS,reduceCtorEq, ↓reduceIte,AC,h0,ek,ed]
  have hcut:(l.take (l.length-4)).drop 0=l.take (l.length-4):=rfl
  refine W.cut hc Bk (i:=0) (j:=l.length-4) rfl rfl (Nat.zero_le _) (by omega) λv1 hv1 hF1=> ?_
  rw[hcut]at hv1
  have hB1:Byt (l.take (l.length-4)):=λx hx=>hb x (List.mem_of_mem_take hx)
  have hl1:(l.take (l.length-4)).length=l.length-4:=by rw[List.length_take];omega
  refine Ta_ (s:=s.cxN cxN) hbd (by omega) hv1 hB1 (by omega) λs1 w1 x1 hw1=> ?_
  have hb1:s1.lim<=s1.next:=x1.bnd hbd
  have hx1:Ext (BsF v) Non (s.cxN cxN) s1:=x1.weak hbd (λx _ hx=>hF1 x hx) λ_ _ h=>h
  refine IV_ hb1 hw1.bn.bs (hc.ext0 hx1).bs (by rw[Jp];omega) (by rw[Jp];omega) λs2 x2 m2 n2=> ?_
  have hx2:Ext (BsF v) Non (s.cxN cxN) s2:=hx1.step x2 hbd (λx hx h=>by
   rcases h with h|h
   ·have h5:s.next<=x:=hw1.new x h
    have h6:x<s.lim:=hx
    omega
   ·exact h) λ_ h=>h.elim
  have hb2:s2.lim<=s2.next:=hx2.bnd hbd
  simp -implicitDefEqProofs only[BN]
  by_cases hg:gput (l.take (l.length-4))=l
  ·refine aH Pa ?_ rfl (by simp[T.get_set,hg])
   refine XY_.u ?_
   simp -implicitDefEqProofs only[ET_,RR,SS,Nat.reduceEqDiff,reduceCtorEq, ↓reduceIte,h0]
   refine W.cut (hc.ext0 hx2) Bk (i:=0) (j:=l.length-4) rfl rfl (Nat.zero_le _) (by omega) λv3 hv3 hF3=> ?_
   rw[hcut]at hv3
   refine Acf_ hb2 hv3 (by omega) (by omega) λs3 w x3 hw3 hm3=> ?_
   have hx3:Ext (BsF v) Non (s.cxN cxN) s3:=hx2.step x3 hbd (λx _ hx=>hF3 x hx) λ_ h=>h.elim
   refine aC (rs:=[2,3]) (vs:=[w, .int .i64 0]) rfl (.inl Pe_) (by omega) Jd P8 hx3.cx (by simp[T.get_set]) ?_
   have h6:s.next<=s2.next:=hx2.nxt
   refine q1 ⟨h4,hg⟩ _ w hx3.cx' ⟨hw3.bn.same rfl rfl,λx hx=> ?_⟩ λh=> ?_
   ·have h5:=hw3.new x hx
    omega
   ·obtain⟨nb,g1,g2⟩:=hm3 (by rw[hl1];omega)
    exact⟨nb,g1.same rfl rfl,Nat.le_trans h6 g2⟩
  ·refine aK Pa ?_ rfl (by simp[T.get_set,hg])
   refine GR_.u ?_
   simp -implicitDefEqProofs only[PO,RR,SS]
   refine aC (rs:=[2,3]) (vs:=[.slice none 0 0, .int .i64 4]) rfl (.inl GM_) (by omega) Jd P8 hx2.cx (by simp[T.get_set]) ?_
   exact q2 (λh=>hg h.2) _ hx2.cx'
 ·have ed:decide (wrap64 ((l.length:Nat)-4:Int)<0)=true:=by
   rw[Bc (by omega) (by omega)];simp;omega
  simp -implicitDefEqProofs only[OK,RR,SS,reduceCtorEq, ↓reduceIte,AC,h0,ed]
  refine aK Pa ?_
  refine GR_.u ?_
  simp -implicitDefEqProofs only[PO,RR,SS]
  refine aC (rs:=[2,3]) (vs:=[.slice none 0 0, .int .i64 4]) rfl (.inl GM_) (by omega) Jd P8 rfl (by simp[T.get_set]) ?_
  exact q2 (λh=>h4 h.1) _ (Ext.refl s)
def recJ (r:Nat×Nat):List Nat:=gput [r.1,0,0,0,r.2]
def Aq (l:List (Nat×Nat)):List Nat:=(l.map recJ).flatten
def BC (r:Nat×Nat):Prop:=1<=r.1/\r.1<=2/\r.2<256
theorem B7 (r:Nat×Nat):(recJ r).length=9:=by unfold recJ;rw[Jp];rfl
theorem Et: ∀l:List (Nat×Nat),(Aq l).length=9*l.length
 |[]=>rfl
 |r::l=>by
  show(recJ r++Aq l).length=9*(l.length+1)
  rw[List.length_append,B7,Et l]
  omega
theorem SW (a b:List (Nat×Nat)):Aq (a++b)=Aq a++Aq b:=by simp[Aq]
theorem BN_ (r:Nat×Nat):Aq [r]=recJ r:=by simp[Aq]
theorem MZ_ {r:Nat×Nat}(h:BC r):Byt (recJ r):=Byt.gput λx hx=>by
 obtain⟨_,h2,h3⟩:=h
 simp only[List.mem_cons,List.not_mem_nil,or_false]at hx
 omega
theorem AJ_ (l:List Nat):(gput l).take ((gput l).length-4)=l:=by
 rw[Jp,Nat.add_sub_cancel]
 exact List.take_left
theorem KZ_ (r:Nat×Nat):GOk (recJ r):=⟨by rw[B7];decide,by unfold recJ;rw[AJ_]⟩
theorem RG_ (r:Nat×Nat):(recJ r).take ((recJ r).length-4)=[r.1,0,0,0,r.2]:=AJ_ _
theorem TI_ {r:Nat×Nat}{l:List (Nat×Nat)}{t:List Nat}:(Aq (r::l)++t).take 9=recJ r:=by
 show((recJ r++Aq l)++t).take 9=_
 rw[List.append_assoc]
 exact List.take_left' (B7 r)
theorem RR_ {r:Nat×Nat}{l:List (Nat×Nat)}{t:List Nat}:(Aq (r::l)++t).drop 9=Aq l++t:=by
 show((recJ r++Aq l)++t).drop 9=_
 rw[List.append_assoc]
 exact List.drop_left' (B7 r)
def maxJ (k:Nat)(m:Nat):List (Nat×Nat)->Nat
 |[]=>m
 |r::l=>maxJ k (if r.1=k then max m r.2 else m) l
theorem Fd (k:Nat): ∀(a b:List (Nat×Nat)) (m:Nat),maxJ k m (a++b)=maxJ k (maxJ k m a) b
 |[],_,_=>rfl
 |r::a,b,m=>Fd k a b _
theorem IT {k:Nat}: ∀{l:List (Nat×Nat)} {m:Nat},(∀r∈l,BC r)->m<256->maxJ k m l<256
 |[],_,_,h=>h
 |r::l,m,h,hm=>IT (l:=l) (λr' hr=>h r' (by simp[hr])) (by
  have h1:=(h r (by simp)).2.2
  split<;>omega)
theorem Mg {k:Nat}: ∀{l:List (Nat×Nat)} {m:Nat},m<=maxJ k m l
 |[],_=>Nat.le_refl _
 |r::l,m=>Nat.le_trans (by split<;>omega) (Mg (k:=k) (l:=l) (m:=if r.1=k then max m r.2 else m))
