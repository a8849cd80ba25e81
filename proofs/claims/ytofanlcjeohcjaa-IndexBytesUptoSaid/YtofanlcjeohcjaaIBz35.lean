import Derived.Test.YtofanlcjeohcjaaIBz34
noncomputable section
namespace Go.Proofs.Ytofanlcjeohcjaa.Am
open Go.RowKit
section
variable {E:Env}{s:St}{t:Nat}{xo yo:Operand}
theorem AnI_ (m n:Nat):Cl.get (aBin E .mul t xo yo) (.int .i64 (m:Nat)) (.int .i64 (.negSucc n)) s= .some (.int .i64 (IntKind.i64.wrap ((m:Nat)*Int.negSucc n))) s:=by
 show AP E .mul t xo yo (.int .i64 (m:Nat)) (.int .i64 (.negSucc n)) s=_
 show M.on (semP E.P (do eqGuard .mul t xo yo (.int .i64 (m:Nat)) (.int .i64 (.negSucc n));binOp .mul t (.int .i64 (m:Nat)) (.int .i64 (.negSucc n)))) pV s=_
 have e:semP E.P (do eqGuard .mul t xo yo (.int .i64 (m:Nat)) (.int .i64 (.negSucc n));binOp .mul t (.int .i64 (m:Nat)) (.int .i64 (.negSucc n)))=some (.int .i64 (IntKind.i64.wrap ((m:Nat)*Int.negSucc n))):=rfl
 rw[e]
 generalize IntKind.i64.wrap ((m:Nat)*Int.negSucc n)=y
 have hp: ∀y:Int,pV (.int .i64 y) s= .some (.int .i64 y) s:=λy=>by
  cases y with
  |ofNat k=>first|rfl|(cases k<;>rfl)
  |negSucc k=>first|rfl|(cases k<;>rfl)
 exact hp y
theorem AbW_ {V:Int}(h1: -100000000<=V)(h2:V<=100000000)(Q:Value->St->Prop):W (Cl.get (aBin E .mul t xo yo) (.int .i64 10) (.int .i64 V)) s Q=Q (.int .i64 (10*V)) s:=by
 cases V with
 |ofNat k=>
  have h2':((k:Nat):Int)<=100000000:=h2
  have e:(10*Int.ofNat k:Int)=((10*k:Nat):Int):=am
  rw[e]
  exact K8 (m:=10) (n:=k) J Q
 |negSucc k=>
  have e:IntKind.i64.wrap (((10:Nat):Int)*Int.negSucc k)=10*Int.negSucc k:=by rw[<-Hp,AN J J];rfl
  rw[<-e]
  exact AD (AnI_ 10 k)
theorem AaV_ {m:Nat}(hm:m<=9223372036854775807)(Q:Value->St->Prop):W (Cl.get (aBin E .quo t xo yo) (.int .i64 (m:Nat)) (.int .i64 10)) s Q=Q (.int .i64 (m/10:Nat)) s:=Gn_ (n:=10) al hm Q
theorem Aks_ {m:Nat}(Q:Value->St->Prop):W (Cl.get (aBin E .rem t xo yo) (.int .i64 (m:Nat)) (.int .i64 10)) s Q=Q (.int .i64 (m%10:Nat)) s:=IT (n:=10) al Q
end
theorem WB (l:List Nat):(txt l).data.toList=l.map UInt8.ofNat:=by
 unfold txt
 exact List.toList_toArray
theorem AwT_ {m:Nat}{i:Nat}(hi:i<6):(dig6 m).drop (6-(i+1))=(48+m/10^i%10)::(dig6 m).drop (6-i):=by
 have:i=0\/i=1\/i=2\/i=3\/i=4\/i=5:=J
 rcases this with rfl|rfl|rfl|rfl|rfl|rfl<;>simp[dig6]
theorem AaT_ {m:Nat}{s0:St}{Q:Value×FrameMode->St->Prop}(hb0:s0.lim<=s0.next)(hm:m<=999999): ∀(k i n:Nat) (a:ByteArray) (tm:T Value) (s:St) (td:List Item),i+k=6->10*k+20<=n->skim 64 td=KP->Ext Any Non s0 s->a.data.toList=((dig6 m).drop (6-i)).map UInt8.ofNat->
  T.get tm 0=some (.int .i64 (m/10^i:Nat))->T.get tm 3=some (.string a)->T.get tm 4=some (.int .i64 (i:Nat))->
  (∀n' a' tm' s1 td',n<=n'+10*k+5->skim 64 td'=Ow->Ext Any Non s0 s1->a'.data.toList=(dig6 m).map UInt8.ofNat->T.get tm' 3=some (.string a')->W (runF envS n' ⟨48,Rx,C3,tm',td', .run, .normal,none⟩) s1 Q)->
  W (runF envS n ⟨48,Rx,C3,tm,td, .run, .normal,none⟩) s Q:=by
 intro k
 induction k with
 |zero=>
  intro i n a tm s td hi hn hT hx ha h0 h3 h4 q
  have hi6:i=6:=J
  subst hi6
  refine Pf_.u ?_ hT
  simp only[Ny,RR,SS,Nat.reduceEqDiff,reduceCtorEq, ↓reduceIte,Ad,Ah,Ab,Ae,Ak,An,Al,Ag,h4]
  refine aE Xc ?_
  exact q _ a _ s _ J rfl hx ha (an h3)
 |succ k ih=>
  intro i n a tm s td hi hn hT hx ha h0 h3 h4 q
  have hb:=hx.bnd hb0
  have hi6:i<6:=J
  refine Pf_.u ?_ hT
  simp only[Ny,RR,SS,Nat.reduceEqDiff,reduceCtorEq, ↓reduceIte,Ad,Ah,Ab,Ae,Ak,An,Al,Ag,h4]
  refine aH Xc ?_
  refine Akk_.u ?_
  generalize hM:m/10^i=M at *
  have hMle:M<=999999:=by rw[<-hM];exact Nat.le_trans (Nat.div_le_self _ _) hm
  have hc:M%10<10:=Nat.mod_lt _ al
  have e48:wrap64 (48+((M%10:Nat):Int))=((48+M%10:Nat):Int):=by
   rw[AN J J];simp
  simp only[AF_,RR,SS,Nat.reduceEqDiff,reduceCtorEq, ↓reduceIte,Ad,Ah,Ab,Ae,Ak,An,Al,Ag,Nat.reduceEqDiff, ↓reduceIte,h0,h3,Aks_,e48,DA MG Hl,wrap_u8,Nat.mod_eq_of_lt (show 48+M%10<256 by omega)]
  refine aM hb (r:=u8l [48+M%10]) DI al rfl (A0 al) λs1 n1 x1 r1=> ?_
  have hb1:=x1.bnd hb
  have y1:=hx.then0 x1 hb0
  have hB:Bs s1 (.slice (some ⟨s.next,0,none⟩) 1 1) [48+M%10]:=Aa.bn (l:=[48+M%10]) r1 (A0 am)
  refine W.str hB (.inl am) TM CB λs2 m2 n2 x2=> ?_
  have y2:Ext Any Non s0 s2:=y1.then0 x2 hb0
  have hal:a.size=i:=by
   rw[Gj,ha,List.length_map,List.length_drop]
   show 6-(6-i)=i
   omega
  rw[NL (by rw[hal,Gj,WB];simp;omega)]
  refine Awq_.u ?_
  simp only[IC_,RR,SS,Nat.reduceEqDiff,reduceCtorEq, ↓reduceIte,Nat.reduceEqDiff, ↓reduceIte,h0]
  rw[AaV_ J]
  refine Aut_.u ?_
  have ei:=eiW (i:=i) J
  simp only[Yc,RR,SS,Nat.reduceEqDiff,reduceCtorEq, ↓reduceIte,Ad,Ah,Ab,Ae,Ak,An,Al,Ag,Nat.reduceEqDiff, ↓reduceIte,h4,ei]
  refine ih (i+1) _ (txt [48+M%10]++a) _ s2 _ J J Axp_ y2 ?_ ?_ Y Y λn' a' tm' s1 td' e=>q n' a' tm' s1 td' J
  ·rw[AwT_ hi6,hM]
   simp[WB,ha]
  ·simp[T.get_set,Nat.pow_succ,<-Nat.div_div_eq_div_mul,hM]
theorem Bl_ {n:Nat}{i:Int}{s:St}{Q:Value->St->Prop}(hbd:s.lim<=s.next)(hn:120<=n)(q: ∀s1 a,a.data.toList=Cr i->Ext Any Non s s1->Q (.string a) s1):W (Ac envS (runF envS n) 48 [.int .i64 i]) s Q:=by
 have hb0:(s.cxN cxN).lim<=(s.cxN cxN).next:=hbd
 refine AkF_ λtm h0=> ?_
 refine AfG_.u ?_
 simp only[YL,RR,SS,Nat.reduceEqDiff,reduceCtorEq, ↓reduceIte]
 have out: ∀(n':Nat) (tm4:T Value) (td4:List Item),20<=n'->skim 64 td4=JJ->T.get tm4 10=some (.bool true)->Cr i=[]->W (runF envS n' ⟨48,Rx,C3,tm4,td4, .run, .normal,none⟩) (s.cxN cxN) λp s1=>Q p.1 (s1.cxN s.cx):=by
  intro n' tm4 td4 hn' hT4 g10 hc
  refine aH Dt_ ?_ hT4 g10
  refine AjF_.u ?_
  simp only[Xm,RR,SS,Nat.reduceEqDiff,reduceCtorEq, ↓reduceIte]
  refine aB (rs:=[2]) (vs:=[.string {data:= #[]}]) rfl (.inl YS_) J M3 RV_ rfl Y ?_
  exact q _ _ (by rw[hc]) (Ext.refl (F:=Any) (G:=Non) (s.cxN cxN)).cx'
 refine AbJ_.u ?_
 simp only[Dg_,RR,SS,Nat.reduceEqDiff,reduceCtorEq, ↓reduceIte,Ad,Ah,Ab,Ae,Ak,An,Al,Ag,Nat.reduceEqDiff, ↓reduceIte,h0]
 by_cases c1:i<1
 ·simp only[SS,c1,decide_true,Nat.reduceEqDiff,reduceCtorEq, ↓reduceIte,Ad,Ah,Ab,Ae,Ak,An,Al,Ag]
  exact out _ _ _ J rfl Y (by unfold Cr;rw[if_neg J])
 ·simp only[SS,c1,decide_false,Nat.reduceEqDiff,reduceCtorEq, ↓reduceIte,Ad,Ah,Ab,Ae,Ak,An,Al,Ag,Nat.reduceEqDiff, ↓reduceIte,h0]
  by_cases c2:999999<i
  ·simp only[c2,decide_true]
   exact out _ _ _ J rfl Y (by unfold Cr;rw[if_neg J])
  ·simp only[c2,decide_false]
   obtain⟨m,rfl⟩: ∃m:Nat,i=(m:Int):=⟨i.toNat,J⟩
   refine aE Dt_ ?_
   refine Arg_.u ?_
   simp only[Aj_,RR,SS,Nat.reduceEqDiff,reduceCtorEq, ↓reduceIte]
   refine Ard_.u ?_
   simp only[WC,RR,SS,Nat.reduceEqDiff,reduceCtorEq, ↓reduceIte]
   refine AaT_ (m:=m) (s0:=s.cxN cxN) hb0 J 6 0 _ {data:= #[]} _ _ _ rfl J rfl (Ext.refl _) rfl (an h0) Y Y λn' a' tm' s1 td' hn' hT' x' ha' g3=> ?_
   refine AkO_.u ?_ hT'
   simp only[Ut,RR,SS,Nat.reduceEqDiff,reduceCtorEq, ↓reduceIte,g3]
   rw[NL (by rw[Gj a',ha'];show 5+6<=_;omega)]
   refine aB (rs:=[2]) (vs:=[.string ({data:= #[112,97,99,107,47]}++a')]) rfl (.inl AsB_) J M3 RV_ x'.cx Y ?_
   refine q _ _ ?_ x'.cx'
   unfold Cr
   rw[if_pos J]
   simp[ha',preL]
def BR (a:Int)(l:List UInt8):Int:=l.foldl (λa c=>10*a+c.toNat-48) a
theorem Wp_ (a:Int)(l:List UInt8)(c:UInt8):BR a (l++[c])=10*BR a l+c.toNat-48:=by
 unfold BR
 rw[List.foldl_append]
 rfl
theorem Nk_: ∀(l:List UInt8) (a:Int) (K:Nat), -(23*(K:Nat):Int)+23<=a->a<=23*(K:Nat)-23-> -(23*((K*10^l.length:Nat):Int))+23<=BR a l/\BR a l<=23*((K*10^l.length:Nat):Int)-23
 |[],a,K,h1,h2=>by
  rw[List.length_nil,Nat.pow_zero,Nat.mul_one]
  exact⟨h1,h2⟩
 |c::l,a,K,h1,h2=>by
  have hc:c.toNat<256:=c.toNat_lt
  have:=Nk_ l (10*a+c.toNat-48) (K*10) J J
  rw[List.length_cons,Nat.pow_succ,Nat.mul_comm (10^l.length),<-Nat.mul_assoc]
  exact this
theorem AbV_ (l:List UInt8): -(23*(10^l.length:Nat):Int)+23<=BR 0 l/\BR 0 l<=23*(10^l.length:Nat)-23:=by
 have:=Nk_ l 0 1 J J
 rwa [Nat.one_mul]at this
theorem PV_: ∀(l:List UInt8) (a:Nat),l.all BP=true->BR a l=(val6 a l:Nat)
 |[],a,_=>rfl
 |c::l,a,h=>by
  rw[List.all_cons,Bool.and_eq_true]at h
  have h1:48<=c.toNat:=by
   have:=h.1
   simp only[BP,Bool.and_eq_true,decide_eq_true_eq]at this
   exact this.1
  show BR (10*(a:Int)+c.toNat-48) l=(val6 (10*a+(c.toNat-48)) l:Nat)
  rw[<-PV_ l _ h.2]
  congr 1
  omega
theorem AvS_ {d:List UInt8}(h11:d.length=11):BZ d=if 1<=BR 0 (d.drop 5)/\Cr (BR 0 (d.drop 5))=d then((BR 0 (d.drop 5)).toNat,true)else(0,false):=by
 by_cases h:1<=BR 0 (d.drop 5)/\Cr (BR 0 (d.drop 5))=d
 ·rw[if_pos h]
  have hle:BR 0 (d.drop 5)<=999999:=by
   by_cases c:BR 0 (d.drop 5)<=999999
   ·exact c
   ·have h2:=h.2
    unfold Cr at h2
    rw[if_neg J]at h2
    rw[<-h2]at h11
    cases h11
  have:=Ajo_ (BR 0 (d.drop 5))
  rw[h.2,if_pos ⟨h.1,hle⟩]at this
  exact this
 ·rw[if_neg h]
  have hn:=AwV_ d
  cases hp:(BZ d).2 with
  |false=>exact Prod.ext (hn.2 hp) hp
  |true=>
   obtain⟨e1,e2,e3⟩:=hn.1 hp
   have hd:(d.drop 5).all BP=true:=by
    unfold BZ at hp
    split at hp
    ·rename_i hh
     exact hh.2.2
    ·cases hp
   have hv:BR 0 (d.drop 5)=((BZ d).1:Nat):=by
    have hv0:BR 0 (d.drop 5)=(val6 0 (d.drop 5):Nat):=PV_ (d.drop 5) 0 hd
    rw[hv0]
    unfold BZ at hp ⊢
    split at hp
    ·rename_i hh
     rw[if_pos hh]
    ·cases hp
   rw[hv]at h
   exact absurd ⟨J,e1⟩ h
theorem Akb_ {a:ByteArray}{d:List UInt8}(hd:a.data.toList=d)(h11:d.length=11){Q:Value×FrameMode->St->Prop}{s:St}
  (q1: ∀n' tm' td',400<=n'->skim 64 td'=PL->T.get tm' 0=some (.string a)->T.get tm' 4=some (.int .i64 (BR 0 (d.drop 5)))->W (runF envS n' ⟨42,Mi,CT,tm',td', .run, .normal,none⟩) s Q): ∀(k i n:Nat) (tm:T Value) (td:List Item),i+k=11->5<=i->10*k+430<=n->skim 64 td=JX->
  T.get tm 0=some (.string a)->T.get tm 4=some (.int .i64 (BR 0 ((d.drop 5).take (i-5))))->T.get tm 5=some (.int .i64 (i:Nat))->
  W (runF envS n ⟨42,Mi,CT,tm,td, .run, .normal,none⟩) s Q:=by
 have hl6:(d.drop 5).length=6:=by rw[List.length_drop];omega
 intro k
 induction k with
 |zero=>
  intro i n tm td hi hi5 hn hT h0 h4 h5
  refine Js_.u ?_ hT
  simp only[M0,RR,SS,Nat.reduceEqDiff,reduceCtorEq, ↓reduceIte,Ad,Ah,Ab,Ae,Ak,An,Al,Ag,h5]
  refine aE VT_ ?_
  rw[List.take_of_length_le J]at h4
  exact q1 _ _ _ J rfl (an h0) (an h4)
 |succ k ih=>
  intro i n tm td hi hi5 hn hT h0 h4 h5
  have hid:i<d.length:=J
  obtain⟨c,hc⟩: ∃c,d[i]=c:=⟨_,rfl⟩
  have hb:a.data.toList[i]?=some c:=by rw[hd,List.getElem?_eq_getElem hid,hc]
  have hsnoc:(d.drop 5).take (i+1-5)=(d.drop 5).take (i-5)++[c]:=by
   rw[show i+1-5=(i-5)+1 by omega,List.take_add_one,List.getElem?_drop,show 5+(i-5)=i by omega,List.getElem?_eq_getElem hid,hc];rfl
  have hbd:=AbV_ ((d.drop 5).take (i-5))
  have hpw:10^((d.drop 5).take (i-5)).length<=10^6:=Nat.pow_le_pow_right al (by rw[List.length_take];omega)
  have hc256:c.toNat<256:=c.toNat_lt
  have hs:=Wp_ 0 ((d.drop 5).take (i-5)) c
  rw[<-hsnoc]at hs
  generalize hV:BR 0 ((d.drop 5).take (i-5))=V at *
  generalize 10^((d.drop 5).take (i-5)).length=K at *
  have hK:K<=1000000:=hpw
  refine Js_.u ?_ hT
  simp only[M0,RR,SS,Nat.reduceEqDiff,reduceCtorEq, ↓reduceIte,Ad,Ah,Ab,Ae,Ak,An,Al,Ag,h5]
  refine aH VT_ ?_
  refine YY_.u ?_
  have e2:IntKind.i64.wrap ((c.toNat:Nat):Int)=((c.toNat:Nat):Int):=Xv _ J
  simp only[GX_,RR,SS,Nat.reduceEqDiff,reduceCtorEq, ↓reduceIte,Nat.reduceEqDiff, ↓reduceIte,h0,h4,h5,IH CB hb]
  rw[AbW_ J J]
  simp only[SS,Nat.reduceEqDiff,reduceCtorEq, ↓reduceIte,DA TZ_ Vy,e2]
  have e3:wrap64 (10*V+(c.toNat:Nat))=10*V+(c.toNat:Nat):=AN J J
  have e4:wrap64 (10*V+(c.toNat:Nat)-48)=10*V+(c.toNat:Nat)-48:=AN J J
  simp only[SS,Nat.reduceEqDiff,reduceCtorEq, ↓reduceIte,Ad,Ah,Ab,Ae,Ak,An,Al,Ag,e3,e4]
  refine AbX_.u ?_
  have e5:wrap64 (((i:Nat):Int)+1)=((i+1:Nat):Int):=by
   rw[AN J J];omega
  simp only[Pz_,RR,SS,Nat.reduceEqDiff,reduceCtorEq, ↓reduceIte,Ad,Ah,Ab,Ae,Ak,An,Al,Ag,Nat.reduceEqDiff, ↓reduceIte,h5,e5]
  exact ih (i+1) _ _ _ J J J ZT_ (an h0) (by rw[hs];simp[T.get_set]) Y
theorem Adj_ {n:Nat}{a:ByteArray}{s:St}{Q:Value->St->Prop}(hbd:s.lim<=s.next)(hn:600<=n)(q: ∀s1,Ext Any Non s s1->Q (.tuple #[.int .i64 ((BZ a.data.toList).1:Nat), .bool (BZ a.data.toList).2]) s1):W (Ac envS (runF envS n) 42 [.string a]) s Q:=by
 have hb0:(s.cxN cxN).lim<=(s.cxN cxN).next:=hbd
 obtain⟨d,hd⟩: ∃d,a.data.toList=d:=⟨_,rfl⟩
 have hsz:a.size=d.length:=by rw[Gj,hd]
 rw[hd]at q
 refine ApB_ λtm h0=> ?_
 refine Afa_.u ?_
 simp only[KI_,RR,SS,Nat.reduceEqDiff,reduceCtorEq, ↓reduceIte]
 refine Aoi_.u ?_
 simp only[Ua,RR,SS,Nat.reduceEqDiff,reduceCtorEq, ↓reduceIte,Ad,Ah,Ab,Ae,Ak,An,Al,Ag,Nat.reduceEqDiff, ↓reduceIte,h0,Fm CB,hsz]
 by_cases h11:d.length=11
 ·refine aE Vc_ ?_ rfl (an h11)
  refine ApC_.u ?_
  simp only[Mq_,RR,SS,Nat.reduceEqDiff,reduceCtorEq, ↓reduceIte]
  refine Ww_.u ?_
  simp only[Tf,RR,SS,Nat.reduceEqDiff,reduceCtorEq, ↓reduceIte]
  refine Akb_ (d:=d) hd h11 (λn' tm' td' hn' hT' g0 g4=> ?_) 6 5 _ _ _ rfl (Nat.le_refl _) J rfl (an h0) (by simp[T.get_set,BR]) Y
  have hpr:=AvS_ h11
  generalize hV:BR 0 (d.drop 5)=V at *
  have bad: ∀(n2:Nat) (tm2:T Value) (s2:St) (td2:List Item),20<=n2->skim 64 td2=Je->Ext Any Non (s.cxN cxN) s2->T.get tm2 28=some (.bool true)-> ¬(1<=V/\Cr V=d)->W (runF envS n2 ⟨42,Mi,CT,tm2,td2, .run, .normal,none⟩) s2 λp s1=>Q p.1 (s1.cxN s.cx):=by
   intro n2 tm2 s2 td2 hn2 hT2 hx2 g28 hno
   refine aH Sf_ ?_ hT2 g28
   refine Aki_.u ?_
   simp only[SW,RR,SS,Nat.reduceEqDiff,reduceCtorEq, ↓reduceIte]
   refine aB (rs:=[2,3]) (vs:=[.int .i64 0, .bool false]) rfl (.inl Agl_) J Kp ND hx2.cx Y ?_
   rw[if_neg hno]at hpr
   have:=q _ hx2.cx'
   rw[hpr]at this
   exact this
  refine Aet_.u ?_ hT'
  simp only[Ip_,RR,SS,Nat.reduceEqDiff,reduceCtorEq, ↓reduceIte,Ad,Ah,Ab,Ae,Ak,An,Al,Ag,Nat.reduceEqDiff, ↓reduceIte,g0,g4]
  by_cases c1:V<1
  ·simp only[SS,c1,decide_true,Nat.reduceEqDiff,reduceCtorEq, ↓reduceIte]
   exact bad _ _ _ _ J rfl (Ext.refl _) Y J
  ·simp only[SS,c1,decide_false,Nat.reduceEqDiff,reduceCtorEq, ↓reduceIte,Nat.reduceEqDiff, ↓reduceIte,g0,g4]
   refine Bl_ (s:=s.cxN cxN) hb0 J λs2 b hb x2=> ?_
   rw[QX_,hb,hd]
   by_cases c2:Cr V=d
   ·have hok:1<=V/\Cr V=d:=⟨J,c2⟩
    refine aE Sf_ ?_ rfl (an c2)
    refine AiL_.u ?_
    simp only[VC,RR,SS,Nat.reduceEqDiff,reduceCtorEq, ↓reduceIte,Nat.reduceEqDiff, ↓reduceIte,g4]
    refine aB (rs:=[2,3]) (vs:=[.int .i64 V, .bool true]) rfl (.inl AmX_) J Kp ND x2.cx Y ?_
    rw[if_pos hok]at hpr
    have:=q _ x2.cx'
    rw[hpr]at this
    rw[show((V.toNat:Nat):Int)=V by omega]at this
    exact this
   ·exact bad _ _ _ _ J rfl x2 (an c2) (λh=>c2 h.2)
 ·refine aH Vc_ ?_
  refine AjZ_.u ?_
  simp only[BM_,RR,SS,Nat.reduceEqDiff,reduceCtorEq, ↓reduceIte]
  refine aB (rs:=[2,3]) (vs:=[.int .i64 0, .bool false]) rfl (.inl AcH_) J Kp ND rfl Y ?_
  have hp:BZ d=(0,false):=by unfold BZ;rw[if_neg λh=>h11 h.2.1]
  have:=q _ (Ext.refl (F:=Any) (G:=Non) (s.cxN cxN)).cx'
  rw[hp]at this
  exact this
def C9 (b:List Nat):List Nat:=b++[160+b.length%90,160+(b.length+1)%90,160+(b.length+2)%90]
theorem Km (b:List Nat):(C9 b).length=b.length+3:=by simp[C9]
def KR (l:List Nat)(i:Nat):Nat->List Nat
 |0=>l
 |k+1=>KR (l.set i (160+i%90)) (i+1) k
theorem Awk_ (b:List Nat):KR (b++[0,0,0]) b.length 3=C9 b:=by
 simp only[KR,C9]
 rw[List.set_append_right _ _ J,List.set_append_right _ _ J,List.set_append_right _ _ J]
 simp[show b.length+1+1-b.length=2 by omega]
theorem AjA_:hasT envS 3=true:=X
theorem AuS_ {E:Env}{t:Nat}{s:St}{xo yo:Operand}{m:Nat}(Q:Value->St->Prop):W (Cl.get (aBin E .rem t xo yo) (.int .i64 (m:Nat)) (.int .i64 90)) s Q=Q (.int .i64 (m%90:Nat)) s:=IT (n:=90) al Q
theorem Acy_ {L N:Nat}{s0:St}{w:Value}{Q:Value×FrameMode->St->Prop}(hb0:s0.lim<=s0.next)(hL:s0.next<=L)(hN:N<=1000000): ∀(k i n:Nat) (l:List Nat) (tm:T Value) (s:St) (td:List Item),i+k=N->l.length=N->5*k+10<=n->skim 64 td=KO->Ext Any Non s0 s->Aa s L 0 (u8l l)->
  T.get tm 0=some w->T.get tm 3=some (.slice (some ⟨L,0,none⟩) N N)->T.get tm 4=some (.int .i64 (i:Nat))->
  (∀n' tm' s1 td',5<=n'->skim 64 td'=Ni->Ext Any Non s0 s1->Aa s1 L 0 (u8l (KR l i k))->T.get tm' 0=some w->T.get tm' 3=some (.slice (some ⟨L,0,none⟩) N N)->W (runF envS n' ⟨16,CT_,DG,tm',td', .run, .normal,none⟩) s1 Q)->
  W (runF envS n ⟨16,CT_,DG,tm,td, .run, .normal,none⟩) s Q:=by
 intro k
 induction k with
 |zero=>
  intro i n l tm s td hi hl hn hT hx ho h0 h3 h4 q
  refine Ce_.u ?_ hT
  simp only[Np,RR,SS,Ab,h3,h4,BC AH]
  refine aE YT ?_
  exact q _ _ _ _ J rfl hx ho (an h0) (an h3)
 |succ k ih=>
  intro i n l tm s td hi hl hn hT hx ho h0 h3 h4 q
  refine Ce_.u ?_ hT
  simp only[Np,RR,SS,Ab,h3,h4,BC AH]
  refine aH YT ?_
  refine WE_.u ?_
  have e1:wrap64 ((160:Int)+((i%90:Nat):Int))=((160+i%90:Nat):Int):=by
   rw[AN J J];simp
  simp only[Au_,RR,SS,Nat.reduceEqDiff, ↓reduceIte,Ad,h3,h4,AuS_,e1,DA AjA_ Hl,wrap_u8,AO AH (show i<N by omega)]
  have e2:(160+i%90)%256=160+i%90:=J
  rw[e2]
  have hO:Own s L (0+i*1) (u8 l[i]):=by
   rw[Nat.mul_one]
   exact ho i _ (by rw[List.getElem?_map,List.getElem?_eq_getElem J];rfl)
  refine aI Dd rfl hO λs1 n1 x1 o1=> ?_
  have ho1:Aa s1 L 0 (u8l (l.set i (160+i%90))):=by
   have:=Aa.set (o:=0) (i:=i) ho (by rw[Nat.mul_one]at x1;exact x1) (by rw[Nat.mul_one]at o1;exact o1)
   unfold u8l
   rw[List.map_set]
   exact this
  refine Amw_.u ?_
  have e3:wrap64 ((i:Nat)+1:Int)=((i+1:Nat):Int):=by
   rw[AN J J];simp
  simp only[Nf_,RR,SS,Nat.reduceEqDiff, ↓reduceIte,Ad,h4,e3]
  exact ih (i+1) _ _ _ _ _ J (by rw[List.length_set];exact hl) J AgE_ (hx.thenW x1 hb0 hL) ho1 (an h0) (an h3) Y λn' tm' s2 td'=>q n' tm' s2 td'
theorem QC_ {v:Value}{b:List Nat}{n:Nat}{s:St}{Q:Value->St->Prop}(hbd:s.lim<=s.next)(hb:Bs s v b)(hz:b.length<=100000)(hn:60<=n)
  (q: ∀s1,Ext Any Non s s1->Aa s1 s.next 0 (u8l (C9 b))->s.next+b.length+3<=s1.next->Q (.slice (some ⟨s.next,0,none⟩) b.length (b.length+3)) s1):W (Ac envS (runF envS n) 16 [v]) s Q:=by
 refine Afj_ λtm h0=> ?_
 have hb0:(s.cxN cxN).lim<=(s.cxN cxN).next:=hbd
 have hb':Bs (s.cxN cxN) v b:=hb.same rfl rfl
 refine AnK_.u ?_
 simp only[IJ_,RR,SS]
 refine Aix_.u ?_
 simp only[En_,RR,SS,reduceCtorEq, ↓reduceIte,h0]
 rw[hb'.len AH]
 have e1:wrap64 (((b.length:Nat):Int)+3)=((b.length+3:Nat):Int):=by
  rw[AN J J];simp
 simp only[Ad,e1]
 refine W.mkSl DI (Nat.le_refl _) J λsa na xa oa=> ?_
 rw[Kq]at oa na
 rw[List.length_replicate]at na
 have na':sa.next=s.next+(b.length+3)+1:=na
 have oa':Aa sa s.next 0 (List.replicate (b.length+3) (.int .u8 0)):=oa
 have y1:Ext Any Non (s.cxN cxN) sa:=(Ext.refl _).then0 xa hb0
 refine AkS_.u ?_
 simp only[Cp_,RR,SS,reduceCtorEq, ↓reduceIte,h0]
 have hsrc:=(hb'.ext0 xa).src
 obtain⟨p,c,rfl⟩:=hb.sl
 refine W.copy (k:=b.length) (l:=u8l b) DI (by show b.length=min (b.length+3) b.length;omega) hsrc.2 (by rw[AQ,Nat.mul_one]) (CG _) (λi hi=> ?_) λsb nb xb ob=> ?_
 ·exact⟨_,oa' i (.int .u8 0) (by rw[List.getElem?_replicate,if_pos J])⟩
 have nb':sb.next=sa.next:=nb
 have hob:Aa sb s.next 0 (u8l (b++[0,0,0])):=by
  unfold u8l
  rw[List.map_append]
  refine Aa.append ob λi u e=> ?_
  have hi:i<3:=(List.getElem?_eq_some_iff.1 e).1
  have hu:u= .int .u8 0:=by
   match i,hi,e with
   |0,_,e=>cases e;rfl
   |1,_,e=>cases e;rfl
   |2,_,e=>cases e;rfl
  subst hu
  rw[List.length_map]
  refine Own.ext (s:=sa) ?_ xb λh=>by have h2:_<s.next+0+b.length*1:=h.2;omega
  have:=oa' (b.length+i) (.int .u8 0) (by rw[List.getElem?_replicate,if_pos J])
  rwa [show 0+b.length+i=0+(b.length+i) by omega]
 have y2:Ext Any Non (s.cxN cxN) sb:=y1.trans xb hb0 (λ_ _ _=>trivial) λy hy h=>by
  have h1:s.next+0<=y:=h.1
  have h2:y<s.next:=hy
  omega
 refine Aai_.u ?_
 simp only[XV,RR,SS,reduceCtorEq, ↓reduceIte,h0,BC AH]
 refine Acy_ (L:=s.next) (N:=b.length+3) (w:= .slice p b.length c) (s0:=s.cxN cxN) hb0 (Nat.le_refl _) J 3 b.length _ (b++[0,0,0]) _ sb _ J am J rfl y2 hob (an h0) Y Y λn1 tm1 s1 td1 hn1 hT1 y3 ho g0 g3=> ?_
 refine AtM_.u ?_ hT1
 simp only[YU,RR,SS,g0,g3,BC AH]
 rw[FL (l:=0) (h:=b.length) AH rfl rfl (Nat.zero_le _) (by rw[Nat.mod_eq_of_lt (A0 J)];omega) (ER (A0 J))]
 rw[if_pos (by rw[Nat.mod_eq_of_lt (A0 J)];omega)]
 refine aB (rs:=[2]) (vs:=[.slice (some ⟨s.next,0,none⟩) b.length (b.length+3)]) rfl (.inl Amh_) J Pr_ AsP_ y3.cx Y ?_
 rw[Awk_]at ho
 refine q _ y3.cx' (λi u e=>(ho i u e).same rfl rfl) ?_
 have hl:(u8l (C9 b)).length=b.length+3:=by rw[AQ,Km]
 have:=(ho (b.length+2) _ (List.getElem?_eq_getElem (by rw[hl];omega))).1
 show s.next+b.length+3<=s1.next
 omega
theorem AtF_ {E:Env}{t:Nat}{s:St}{sz n c:Nat}{a:Addr}(h:slN E t=some sz)(hc:c<capU)(Q:Value->St->Prop):W (Bg E .cap [t] [.slice (some a) n c]) s Q=Q (.int .i64 (c:Nat)) s:=by
 obtain⟨i,e,ie,h1,h2,h3,h4⟩:=FQ h
 refine AD ?_
 show aCap E t (.slice (some a) n c) s=_
 unfold aCap
 rw[AM (show ti E t s= .some i s by unfold ti;rw[h1];rfl)]
 simp only[h2]
 rw[BT hc]
 show pN c s=_
 unfold pN
 rw[AB]
 rfl
theorem Xl_ {v:Value}{b:List Nat}{L n:Nat}{s:St}{Q:Value->St->Prop}(hbd:s.lim<=s.next)(hb:Bs s v b)(hz:b.length<=100000)(hL:Row s L 0 (u8l (C9 b)))(hn:100<=n)
  (q: ∀s1,Ext Any Non s s1->Q (.bool true) s1):W (Ac envS (runF envS n) 23 [.slice (some ⟨L,0,none⟩) b.length (b.length+3),v]) s Q:=by
 refine AeF_ λtm h0 h1=> ?_
 have hb0:(s.cxN cxN).lim<=(s.cxN cxN).next:=hbd
 refine Anb_.u ?_
 simp only[Ef_,RR,SS]
 refine ApJ_.u ?_
 have hU:b.length+3<capU:=A0 J
 have hmod:(b.length+3)%capU=b.length+3:=Nat.mod_eq_of_lt hU
 have e1:wrap64 (((b.length:Nat):Int)+3)=((b.length+3:Nat):Int):=by
  rw[AN J J];simp
 have hlen: ∀(s:St) (Q:Value->St->Prop),W (Bg envS .len [22] [v]) s Q=Q (.int .i64 (b.length:Nat)) s:=λs Q=>by
  obtain⟨p,c,rfl⟩:=hb.sl
  exact BC AH Q
 simp only[UM_,RR,T.get_set,Nat.reduceEqDiff, ↓reduceIte,h0,h1,AA,BH,Bb,A7,AX,Dn,Aw]
 rw[W_dq λs Q=>BC AH Q]
 simp only[Aw]
 rw[W_dq hlen]
 simp only[Aw]
 rw[W_dq λs Q=>Al _ _]
 simp only[decide_true,A4,ED,Cb,if_t,Aw]
 rw[W_dq λs Q=>AtF_ AH hU Q]
 simp only[Aw]
 rw[W_dq λs Q=>FL (s:=s) (l:=0) (h:=b.length+3) AH rfl rfl (Nat.zero_le _) (by rw[hmod];exact Nat.le_refl _) (ER hU) Q]
 rw[if_pos (by rw[hmod];omega)]
 simp only[Aw]
 refine aU (QC_ (s:=oSt s.mem s.next) (Nat.le_refl _) (hb.same rfl rfl) hz J λs1 x1 o1 l1=>⟨_,x1,λrd1 hr1=> ?_⟩)
 simp only[Aw]
 rw[W_dq hlen]
 simp only[Aw]
 rw[W_dq λs Q=>Ad (s:=s) _ _,e1]
 rw[W_dq λs Q=>FL (s:=s) (l:=0) (h:=b.length+3) AH rfl rfl (Nat.zero_le _) (by rw[hmod];exact Nat.le_refl _) (ER hU) Q]
 rw[if_pos (by rw[hmod];omega)]
 have o1':Aa s1 s.next 0 (u8l (C9 b)):=o1
 have hsub: ∀(s2:St) (B:Nat),Row s2 B 0 (u8l (C9 b))->Bs s2 (.slice (some ⟨B,0+0*1,none⟩) (b.length+3-0) (b.length+3-0)) (C9 b):=λs2 B h=> .inr ⟨B,0,b.length+3,by rw[Km,Nat.zero_mul,Nat.sub_zero],by rw[hmod,Km];exact Nat.le_refl _,ER hU,h⟩
 refine aU (IE_ (s:=oSt s1.mem s1.next) (Nat.le_refl _) (hsub _ L λi u e=>((((hL i u e).same (s':=oSt s.mem s.next) rfl rfl).ext0 x1).same rfl rfl)) (hsub _ s.next λi u e=>((o1' i u e).same (s':=oSt s1.mem s1.next) rfl rfl).at') J λs2 x2 m2 n2=>⟨_,x2,λrd2 hr2=> ?_⟩)
 rw[W_dq λs Q=>B9 (s:=s) _ _ _ _]
 simp only[reduceIte,AJ]
 have hn1:s.next<=s1.next:=x1.nxt
 have hn2:s2.next=s1.next:=n2
 refine⟨E8 ?_, ?_⟩
 ·simp only[List.reverse_cons,List.reverse_nil,List.nil_append,List.cons_append,allP,Ds,List.take,Eo]
  simp+contextual [hn2]
  exact .inl rfl
 ·refine W.cast (AvU_ ..) ?_
  simp only[SS]
  generalize hs3:(⟨(dSt s2.mem s2.next).mem,(dSt s2.mem s2.next).next,(s.cxN cxN).lim,_,_,(s.cxN cxN).cx⟩:St)=s3
  have hx:Ext Any Non (s.cxN cxN) s3:=by
   rw[<-hs3]
   refine Ext.draw (by show s.next<=s2.next;omega) (λx hx=> ?_) ?_ λ_ _ _ _ _=>trivial
   ·have e2:T.get s1.mem x=T.get s.mem x:=x1.mem x hx id
    have e3:T.get s2.mem x=T.get s1.mem x:=x2.mem x (by show x<s1.next;exact Nat.lt_of_lt_of_le hx hn1) id
    exact e3.trans e2
   ·simp
  refine aB (rs:=[4]) (vs:=[.bool true]) rfl (.inl Aic_) J Tj Yk_ hx.cx Y ?_
  exact q _ hx.cx'
def Dj:Nat:=Ao Try.f46
abbrev Lb:Nat:=32
def Jh_:Code:=Try.f46.body.getD .skip
theorem QE:envS.fn.get 46=some Try.f46:=X
theorem Xz_:G1 envS 46 32 Dj Jh_:=λh=>
 aK QE (h _ X)
theorem VJ_:Try.f46.results.toList=[]:=X
def ZQ:List Item:=skim 64 [.code Jh_]
def J0:=nx ZQ
def Mh:=nx J0
def Wk_:=bt Mh
def AmR_:=bf Mh
def JE:=nx Wk_
def P1:=nx JE
def Gr_:=bt P1
def KZ:=bf P1
def FS_:=nx Gr_
def UB:=nx KZ
theorem YJ_:skim 64 FS_.tail=JE:=X
theorem Ako_:skim 64 UB.tail=J0:=X
def Ad_:Rg:=λE u r t=>
 sV 2 (.int .i64 0) t
theorem Ys_:RegEq 46 32 Dj ZQ Ad_:={}
def JS:Rg:=λE u r t=>
 mG t 2 λv4=>
 mG t 0 λv5=>
 lL E 55 v5 λv6=>
 bT E .lss 3 4 6 v4 v6 λv7=>
 ac 7 v7 t
theorem MF:RegEq 46 32 Dj J0 JS:={}
theorem PG:Aj Mh=some 7:=X
def Qa_:Rg:=λE u r t=>
 sV 3 (.int .i64 0) t
theorem XB_:RegEq 46 32 Dj Wk_ Qa_:={}
def LX:Rg:=λE u r t=>
 mG t 3 λv10=>
 mG t 0 λv11=>
 mG t 2 λv12=>
 iD E 55 (some v11) (some v12) λv13=>
 fD E 85 2 (some v13) λv14=>
 lD E 36 (some v14) λv15=>
 lL E 36 v15 λv16=>
 bT E .lss 3 10 16 v10 v16 λv17=>
 ac 17 v17 t
theorem OL:RegEq 46 32 Dj JE LX:={}
theorem NC:Aj P1=some 17:=X
def Na_:Rg:=λE u r t=>
 mG t 0 λv20=>
 mG t 2 λv21=>
 iD E 55 (some v20) (some v21) λv22=>
 fD E 85 2 (some v22) λv23=>
 lD E 36 (some v23) λv24=>
 mG t 3 λv25=>
 M.bind (oS (seqP [(1,(some (.int .i64 (-7))))]) λps=>Br E 35 ps) λv26=>
 iD E 36 (some v24) (some v25) λv27=>
 sT E 35 (some v27) (some v26) λ_=>
 M.pure t
theorem AeV_:RegEq 46 32 Dj Gr_ Na_:={}
def Hd_:Rg:=λE u r t=>
 mG t 0 λv28=>
 mG t 2 λv29=>
 M.bind (oS (seqP [(0,(some (.int .i64 (-7))))]) λps=>Br E 85 ps) λv30=>
 iD E 55 (some v28) (some v29) λv31=>
 sT E 85 (some v31) (some v30) λ_=>
 M.pure t
theorem AnV_:RegEq 46 32 Dj KZ Hd_:={}
def Y8:Rg:=λE u r t=>
 mG t 3 λv18=>
 bN E .add 18 1 (some v18) λv19=>
 sV 3 v19 t
theorem Akp_:RegEq 46 32 Dj FS_ Y8:={}
def Np_:Rg:=λE u r t=>
 mG t 2 λv8=>
 bN E .add 8 1 (some v8) λv9=>
 sV 2 v9 t
theorem AsD_:RegEq 46 32 Dj UB Np_:={}
theorem AmA_:C5 envS 35 [(1, .int .i64 (-7))]=some (u8l (List.replicate 16 0)++[.int .i64 (-7), .int .i64 0]):=X
theorem Ato_:C5 envS 85 [(0, .int .i64 (-7))]=some [.int .i64 (-7), .int .i64 0, .slice none 0 0]:=X
theorem RN_:AmR_=[]:=X
section
variable {os:List PkI}{bo C n0:Nat}{s0:St}
def OvI (os:List PkI)(bo i:Nat)(s:St):Prop:= ∀j (hj:j<os.length),i<=j->Own s bo (j*3+2) os[j].v/\C4 s bo (j*3) 3/\HiW s os[j].v
theorem OvI.same {i:Nat}{s s':St}(h:OvI os bo i s)(hm:s'.mem=s.mem)(hn:s'.next=s.next):OvI os bo i s':=λj hj hi=>
 let ⟨a,b,c⟩:=h j hj hi
 ⟨a.same hm hn,λk hk=>let ⟨u,hu⟩:=b k hk;⟨u,hu.same hm hn⟩,c.same hm hn⟩
theorem AiM_ {α:Type}{R:α->α->Prop}{l:List α}(h:l.Pairwise R){i j:Nat}(hi:i<l.length)(hj:j<l.length)(hij:i<j):R l[i] l[j]:=List.pairwise_iff_getElem.1 h i j hi hj hij
theorem Axl_ (hno:n0<=bo)(hlo: ∀o∈os,∀x,HiF o.v x->n0<=x/\ ¬MkF 3 os.length bo x)(hsp:os.Pairwise λp q=> ∀x,HiF p.v x-> ¬HiF q.v x){i:Nat}(hi:i<os.length){b o N c:Nat}(hv:os[i].v= .slice (some ⟨b,o,none⟩) N c){Q:Value×FrameMode->St->Prop}(hb0:s0.lim<=s0.next)(hN:N<=1000000000):
  ∀(k m n:Nat) (tm:T Value) (s:St) (td:List Item),k+m=N->10*m+10<=n->skim 64 td=JE->Ext Any (λy=>n0<=y) s0 s->OvI os bo i s->
  T.get tm 0=some (.slice (some ⟨bo,0,none⟩) os.length C)->T.get tm 2=some (.int .i64 (i:Nat))->T.get tm 3=some (.int .i64 (k:Nat))->
  (∀n' tm' s1 td',n<=n'+10*m+5->skim 64 td'=KZ->Ext Any (λy=>n0<=y) s0 s1->OvI os bo i s1->T.get tm' 0=some (.slice (some ⟨bo,0,none⟩) os.length C)->T.get tm' 2=some (.int .i64 (i:Nat))->W (runF envS n' ⟨46,Lb,Dj,tm',td', .run, .normal,none⟩) s1 Q)->
  W (runF envS n ⟨46,Lb,Dj,tm,td, .run, .normal,none⟩) s Q:=by
 have hF: ∀x,In b o (N*18) x->HiF os[i].v x:=λx hx=>by rw[hv];exact hx
 intro k m
 induction m generalizing k with
 |zero=>
  intro n tm s td hk hn hT hx hI h0 h2 h3 q
  obtain⟨g1,g2,g3⟩:=hI i hi (Nat.le_refl _)
  refine OL.u ?_ hT
  simp only[LX,RR,SS,h0,h2,h3,AO A8 hi,Af BG al]
  refine aA (v:=os[i].v) Bu (by rw[Nat.zero_add];exact g1.at') ?_
  rw[hv]
  simp only[Ab,BC CV]
  refine aE NC ?_
  exact q _ _ _ _ J rfl (hx.trans (Ext.rdN (F:=Any) (G:=Non) s _ λ_=>trivial) hb0 (λ_ _ _=>trivial) λ_ _ h=>h.elim) (hI.same rfl rfl) (an h0) (an h2)
 |succ m ih=>
  intro n tm s td hk hn hT hx hI h0 h2 h3 q
  obtain⟨g1,g2,g3⟩:=hI i hi (Nat.le_refl _)
  have hkN:k<N:=J
  refine OL.u ?_ hT
  simp only[LX,RR,SS,h0,h2,h3,AO A8 hi,Af BG al]
  refine aA (v:=os[i].v) Bu (by rw[Nat.zero_add];exact g1.at') ?_
  rw[hv]
  simp only[Ab,BC CV]
  refine aH NC ?_
  have x1:Ext Any (λy=>n0<=y) s0 (s.rdN (bo+(0+i*3+2))):=hx.trans (Ext.rdN (F:=Any) (G:=Non) s _ λ_=>trivial) hb0 (λ_ _ _=>trivial) λ_ _ h=>h.elim
  have I1:OvI os bo i (s.rdN (bo+(0+i*3+2))):=hI.same rfl rfl
  generalize s.rdN (bo+(0+i*3+2))=s1 at *
  obtain⟨f1,f2,f3⟩:=I1 i hi (Nat.le_refl _)
  refine AeV_.u ?_
  simp only[Na_,RR,SS,Nat.reduceEqDiff,reduceCtorEq, ↓reduceIte,h0,h2,h3,AO A8 hi,Af BG al]
  refine aA (v:=os[i].v) Bu (by rw[Nat.zero_add];exact f1.at') ?_
  have x2:Ext Any (λy=>n0<=y) s0 (s1.rdN (bo+(0+i*3+2))):=x1.trans (Ext.rdN (F:=Any) (G:=Non) s1 _ λ_=>trivial) hb0 (λ_ _ _=>trivial) λ_ _ h=>h.elim
  have I2:OvI os bo i (s1.rdN (bo+(0+i*3+2))):=I1.same rfl rfl
  generalize s1.rdN (bo+(0+i*3+2))=s2 at *
  obtain⟨e1,e2,e3⟩:=I2 i hi (Nat.le_refl _)
  rw[hv]
  simp only[Ci AmA_,AO CV hkN]
  have hO:C4 s2 b o (N*18):=by
   rcases e3 with h|⟨b',o',N',c',h,hO⟩
   ·rw[hv]at h;cases h
   ·rw[hv]at h;cases h;exact hO
  have hk18:(k+1)*18<=N*18:=Nat.mul_le_mul_right _ hkN
  have hl:(u8l (List.replicate 16 0)++[Value.int .i64 (-7),Value.int .i64 0]:List Value).length=18:=rfl
  refine W.store CH (by rw[BV];rfl) (by rw[BV];rfl) (λj hj=>by
   obtain⟨u,hu⟩:=hO (k*18+j) J
   exact⟨u,by rw[Nat.add_assoc];exact hu⟩) λs3 n3 x3 o3=> ?_
  rw[BV]at o3
  have hin: ∀y,In b (o+k*18) 18 y->In b o (N*18) y:=λy h=>⟨by have:=h.1;omega,by have:=h.2;omega⟩
  have x3':Ext Any (λy=>n0<=y) s0 s3:=x2.trans x3 hb0 (λ_ _ _=>trivial) λy _ h=>(hlo _ (List.getElem_mem hi) y (hF y (hin y h))).1
  have I3:OvI os bo i s3:=λj hj hij=>by
   obtain⟨a1,a2,a3⟩:=I2 j hj hij
   have hrow: ∀y,In bo (j*3) 3 y-> ¬In b (o+k*18) 18 y:=λy h1 h2=>by
    refine(hlo _ (List.getElem_mem hi) y (hF y (hin y h2))).2 ⟨J,by have:=h1.1;omega, ?_⟩
    have h3:=h1.2
    have:(j+1)*3<=os.length*3:=Nat.mul_le_mul_right _ hj
    omega
   refine⟨a1.ext x3 (hrow _ ⟨J,J⟩),a2.ext1 x3 hrow, ?_⟩
   rcases Nat.lt_or_ge i j with h|h
   ·exact a3.ext x3 λy h1 h2=>AiM_ hsp hi hj h y (hF y (hin y h2)) h1
   ·have hj':j=i:=J
    subst hj'
    refine .inr ⟨b,o,N,c,hv, ?_⟩
    exact C4.ext (a:=o+k*18) hO (by rw[hl];exact x3) o3
  refine Akp_.u ?_
  have ei:=eiW (i:=k) J
  simp only[Y8,RR,SS,Nat.reduceEqDiff, ↓reduceIte,Ad,h3,ei]
  exact ih (k+1) _ _ s3 _ J J YJ_ x3' I3 (an h0) (an h2) Y λn' tm' s4 td' e=>q n' tm' s4 td' J
theorem AuY_ (hno:n0<=bo)(hlo: ∀o∈os,∀x,HiF o.v x->n0<=x/\ ¬MkF 3 os.length bo x)(hsp:os.Pairwise λp q=> ∀x,HiF p.v x-> ¬HiF q.v x){Q:Value×FrameMode->St->Prop}(hb0:s0.lim<=s0.next)(hcx:s0.cx=cxN){M:Nat}(hM: ∀o∈os,o.hs.length<=M)(hM2:M<=1000000)(hl0:os.length<=1000000)(hlen: ∀p∈os,∀a N c,p.v= .slice a N c->N=p.hs.length)
  (q: ∀s1,Ext Any (λy=>n0<=y) s0 s1->Q (.tuple #[], .run) s1):
  ∀(k i n:Nat) (tm:T Value) (s:St) (td:List Item),i+k=os.length->(10*M+40)*k+20<=n->skim 64 td=J0->Ext Any (λy=>n0<=y) s0 s->OvI os bo i s->
  T.get tm 0=some (.slice (some ⟨bo,0,none⟩) os.length C)->T.get tm 2=some (.int .i64 (i:Nat))->
  W (runF envS n ⟨46,Lb,Dj,tm,td, .run, .normal,none⟩) s Q:=by
 intro k
 induction k with
 |zero=>
  intro i n tm s td hi hn hT hx hI h0 h2
  refine MF.u ?_ hT
  simp only[JS,RR,SS,Ab,h0,h2,BC A8]
  refine aE PG ?_
  exact aB (rs:=[]) (vs:=[]) rfl (.inr RN_) J QE VJ_ (hx.cx.trans hcx) rfl (q s hx)
 |succ k ih=>
  intro i n tm s td hi hn hT hx hI h0 h2
  have hil:i<os.length:=J
  have hmul:(10*M+40)*(k+1)=(10*M+40)*k+(10*M+40):=Nat.mul_succ _ _
  refine MF.u ?_ hT
  simp only[JS,RR,SS,Ab,h0,h2,BC A8]
  refine aH PG ?_
  refine XB_.u ?_
  simp only[Qa_,RR,SS]
  have last: ∀n' tm' s1 td',(10*M+40)*k+30<=n'->skim 64 td'=KZ->Ext Any (λy=>n0<=y) s0 s1->OvI os bo i s1->T.get tm' 0=some (.slice (some ⟨bo,0,none⟩) os.length C)->T.get tm' 2=some (.int .i64 (i:Nat))->W (runF envS n' ⟨46,Lb,Dj,tm',td', .run, .normal,none⟩) s1 Q:=by
   intro n' tm' s1 td' hn' hT' x1 I1 k0 k2
   obtain⟨g1,g2,g3⟩:=I1 i hil (Nat.le_refl _)
   refine AnV_.u ?_ hT'
   simp only[Hd_,RR,SS,k0,k2,Ci Ato_,AO A8 hil]
   refine W.store Ca rfl rfl (λj hj=>by rw[Nat.zero_add];exact g2 j hj) λs2 n2 x2 o2=> ?_
   rw[Nat.zero_add]at x2
   have hmk: ∀y,In bo (i*3) 3 y->MkF 3 os.length bo y:=λy h=>⟨J,by have:=h.1;omega,by
    have h3:=h.2
    have:(i+1)*3<=os.length*3:=Nat.mul_le_mul_right _ hil
    omega⟩
   have x2':Ext Any (λy=>n0<=y) s0 s2:=x1.trans x2 hb0 (λ_ _ _=>trivial) λy _ h=>by have:=h.1;omega
   have I2:OvI os bo (i+1) s2:=λj hj hij=>by
    obtain⟨a1,a2,a3⟩:=I1 j hj J
    have hd: ∀y,In bo (j*3) 3 y-> ¬In bo (i*3) 3 y:=λy h1 h2=>by
     have h3:=h1.1
     have h4:=h2.2
     have:(i+1)*3<=j*3:=Nat.mul_le_mul_right _ hij
     omega
    exact⟨a1.ext x2 (hd _ ⟨J,J⟩),a2.ext1 x2 hd,a3.ext x2 λy h1 h2=>(hlo _ (List.getElem_mem hj) y h1).2 (hmk y h2)⟩
   refine AsD_.u ?_
   have ei:=eiW (i:=i) J
   simp only[Np_,RR,SS,Ad,k2,ei]
   exact ih (i+1) _ _ s2 _ J J Ako_ x2' I2 (an k0) Y
  obtain⟨g1,g2,g3⟩:=hI i hil (Nat.le_refl _)
  rcases g3 with hv|⟨b,o,N,c,hv,hO⟩
  ·refine OL.u ?_
   simp only[LX,RR,SS,Nat.reduceEqDiff,reduceCtorEq, ↓reduceIte,h0,h2,AO A8 hil,Af BG al]
   refine aA (v:=os[i].v) Bu (by rw[Nat.zero_add];exact g1.at') ?_
   rw[hv]
   simp only[Ab,BC CV]
   refine aE NC ?_
   exact last _ _ _ _ J rfl (hx.trans (Ext.rdN (F:=Any) (G:=Non) s _ λ_=>trivial) hb0 (λ_ _ _=>trivial) λ_ _ h=>h.elim) (hI.same rfl rfl) (an h0) (an h2)
  ·have hN:=hlen _ (List.getElem_mem hil) _ _ _ hv
   have hNM:=hM _ (List.getElem_mem hil)
   exact Axl_ hno hlo hsp hil hv hb0 J 0 N _ _ s _ J J rfl hx hI (an h0) (an h2) Y λn' tm' s1 td' hn'=>last n' tm' s1 td' J
end
theorem Anf_ {n n0 bo M:Nat}{vo:Value}{os:List PkI}{s:St}{Q:Value->St->Prop}(hb:s.lim<=s.next)(hp:PkR s vo os)(hw:PkW n0 s os vo bo)(hM: ∀o∈os,o.hs.length<=M)(hM2:M<=1000000)(hl:os.length<=1000000)(hn:(10*M+40)*os.length+100<=n)
  (q: ∀s1,Ext Any (λy=>n0<=y) s s1->Q (.tuple #[]) s1):W (Ac envS (runF envS n) 46 [vo]) s Q:=by
 refine Xz_ λtm h0=> ?_
 refine Ys_.u ?_
 simp only[Ad_,RR,SS]
 rcases hw.mo with⟨rfl,h1,_⟩|⟨hm,_⟩
 ·refine MF.u ?_
  simp only[JS,RR,SS,reduceCtorEq, ↓reduceIte,Ab,h0,BC A8]
  refine aE PG ?_
  exact aB (rs:=[]) (vs:=[]) rfl (.inr RN_) J QE VJ_ rfl rfl (q _ (Ext.refl s))
 ·have hlen: ∀p∈os,∀a N c,p.v= .slice a N c->N=p.hs.length:=λp hp' a N c e=>by
   rcases hp.hs p hp' with⟨e1,e2⟩|⟨b,o,c',e1,_⟩
   ·rw[e1]at e;cases e;rw[e2];rfl
   ·rw[e1]at e;cases e;rfl
  have hI:OvI os bo 0 s:=λj hj _=>by
   have h3: ∀k (hk:k<3),Own s bo (j*3+k) ((pkC os[j])[k]'(hk)):=λk hk=>by
    have:=hm.own (j*3+k) _ (by rw[FG hj hk];exact List.getElem?_eq_getElem (by exact hk))
    rwa [Nat.zero_add]at this
   exact⟨h3 2 al,λk hk=>⟨_,h3 k hk⟩,hw.ow _ (List.getElem_mem hj)⟩
  have hv:=hm.val
  refine AuY_ (s0:=s.cxN cxN) hw.no hw.lo hw.sp hb rfl hM hM2 hl hlen (λs1 x1=>q _ x1.cx') os.length 0 _ _ _ _ J ?_ rfl (Ext.refl _) (hI.same rfl rfl) (by simp[T.get_set,h0,hv];rfl) Y
  omega
section
variable {va vb:Value}{l:List Int}{Q:Value×FrameMode->St->Prop}{s0:St}
