import Derived.Carry
import Derived.ChangeSame
import Derived.Test.YtheboekhpelhlaaDSb15
namespace Go.Proofs.Ytheboekhpelhlaa.Am
open Go.RowKit
section
variable {s:St}{E:Env}{t t2:Nat}
theorem W.appV (hbd:s.lim<=s.next){sz by' n len b:Nat}{z l old:List Value}{v x:Value}{F:Nat->Prop}{Q:Value->St->Prop}{g:Bool}(ht:appT E t t2=some (sz,by',g,z))(hm:MkS s sz len old v b)(hx:SrcG s sz by' g z x n l F)(hs0:0<sz)(hs1:sz<1024)
  (hb:(len+n)*(by'+1)<=16777216) (hl:l.length=n*sz) (h1:l.all oneCell=true)
  (q: ∀s2 v2 b2,(b2=b/\n=0\/s.next<=b2)->MkS s2 sz (len+n) (old++l) v2 b2->Ext (λx=>F x\/MkF sz len b x) (MkF sz len b) s s2->Q v2 s2):W (BV E t t2 v x) s Q:=by
 by_cases hn:n=0
 ·rcases hm with⟨rfl,rfl,rfl⟩|⟨hm,h0⟩
  ·subst hn
   have hl0:l=[]:=List.eq_nil_of_length_eq_zero (by rw[hl,Nat.zero_mul])
   subst hl0
   obtain⟨i,i2,e,ie,g1,g2,g3,g4,g5,g6,g7,g8⟩:=IW ht
   obtain⟨hN,s1,e1,m1,n1,x1⟩:=hx ie g5 g6 g8
   subst g5;subst g6
   refine W.bind (W.ti g1 (W.bind (W.ti g2 ?_)))
   rw[g3,g7]
   refine W.bind (W.ti g4 (W.bind (a7 (hN s) (W.bind ?_))))
   refine a7 e1 ?_
   show W (aT (Nat.ble (Nat.add 0 0) (0%capU)) (Fj ie.size none 0 0 0 []) _) s1 Q
   rw[show Nat.ble (Nat.add 0 0) (0%capU)=true from Nat.ble_eq_true_of_le (Nat.zero_le _)]
   show W (M.pure (.slice none 0 0)) s1 Q
   exact W.pure (q s1 _ b (.inl ⟨rfl,rfl⟩) (.inl ⟨rfl,rfl,rfl⟩) (x1.weak hbd (λ_ _ h=> .inl h) λ_ _ h=>h.elim))
  ·refine W.appE hbd ht (.inr ⟨hm,h0⟩) hx hs0 hs1 hb hl h1 λs2 v2 b2 hb2 e2 x2=>q s2 v2 b2 (hb2.elim (λh=> .inl ⟨h,hn⟩) .inr) ?_ x2
   rcases e2 with⟨_,h,_⟩|⟨h,h'⟩
   ·omega
   ·exact .inr ⟨h,h'⟩
 ·exact W.appU hbd ht hm hx J hs0 hs1 hb hl h1 λs2 v2 b2 hb2 mk x2=>q s2 v2 b2 (.inr hb2) mk x2
end
def Cu (n0:Nat)(m a:OpLog):Prop:=(∀x∈m.rd,n0<=x-> ¬(a.lo<=x/\x<a.hi))/\(∀x∈m.wr,n0<=x-> ¬(a.lo<=x/\x<a.hi))/\(∀x∈a.wr,x∉m.rd/\x∉m.wr)/\(∀x∈m.wr,x∉a.rd)
def BS (n0 b:Nat)(m:OpLog):List OpLog->Nat->Prop
 |[],_=>True
 |a::l,i=>(b.testBit i=true\/Cu n0 m a)/\BS n0 b m l (i+1)
def allP (n0:Nat)(all:List OpLog):List OpLog->List Nat->Nat->Prop
 |[],_,_=>True
 |m::l,b::bef,j=>BS n0 b m (all.take j) 0/\allP n0 all l bef (j+1)
 |_::_,[],_=>False
theorem Co_ {x:Nat}: ∀{l:List Nat} {m:Nat},(BQ l m).testBit x=true->x∈l\/m.testBit x=true
 |[],m,h=> .inr h
 |a::l,m,h=>by
  have e:BQ (a::l) m=BQ l (m|||2^a):=by
   show fN (Nat.lor m (Nat.shiftLeft (nat_lit 1) a)) (BQ l)=_
   rw[Ar]
   show BQ l (m|||(1<<<a))=_
   rw[Nat.one_shiftLeft]
  rw[e]at h
  rcases Co_ h with h|h
  ·exact .inl (by simp[h])
  ·rw[Nat.testBit_or,Qy,Bool.or_eq_true]at h
   rcases h with h|h
   ·exact .inr h
   ·have:x=a:=by
     have:=of_decide_eq_true h
     omega
    exact .inl (by simp[this])
theorem TY {a b:Nat}(h: ∀x,¬(a.testBit x=true/\b.testBit x=true)):Nat.beq (Nat.land a b) (nat_lit 0)=true:=by
 have e:a&&&b=0:=by
  refine Nat.eq_of_testBit_eq λx=> ?_
  rw[Nat.testBit_and,Nat.zero_testBit]
  cases h1:a.testBit x with
  |false=>rfl
  |true=>
   cases h2:b.testBit x with
   |false=>rfl
   |true=>exact absurd ⟨h1,h2⟩ (h x)
 show Nat.beq (a&&&b) 0=true
 rw[e]
 rfl
theorem GS {x:Nat}{l:List Nat}(h:(BQ l 0).testBit x=true):x∈l:=by
 rcases Co_ h with h|h
 ·exact h
 ·rw[Nat.zero_testBit]at h;cases h
theorem AdB_ {a m:OpLog}(h1: ∀x∈a.wr,x∉m.rd/\x∉m.wr)(h2: ∀x∈m.wr,x∉a.rd):Eo (Bx a) (Bx m)=true:=by
 unfold Eo
 rw[Bool.and_eq_true,KM,KM]
 refine⟨TY λx ⟨p,q⟩=> ?_,TY λx ⟨p,q⟩=>h2 x (GS p) (GS q)⟩
 have q':(BQ m.rd 0|||BQ m.wr 0).testBit x=true:=q
 rw[Nat.testBit_or,Bool.or_eq_true]at q'
 rcases q' with q|q
 ·exact(h1 x (GS p)).1 (GS q)
 ·exact(h1 x (GS p)).2 (GS q)
theorem V3 {n0 b:Nat}{m:OpLog}(news:List Nat)(hn: ∀x∈news,n0<=x/\(x∈m.rd\/x∈m.wr)): ∀(acc:List OpLog) (i:Nat),BS n0 b m acc i->Ef b news acc i=true
 |[],_,_=>rfl
 |a::acc,i,h=>by
  show((b.testBit i|| !Db a.lo a.hi news)&&Ef b news acc (Nat.succ i))=true
  rw[Bool.and_eq_true]
  refine⟨?_,V3 news hn acc (i+1) h.2⟩
  rcases h.1 with h|h
  ·rw[h];rfl
  ·rw[IG_ _ _ _ λx hx=> ?_]
   ·simp
   ·obtain⟨h1,h2⟩:=hn x hx
    rcases h2 with h2|h2
    ·exact h.1 x h2 h1
    ·exact h.2.1 x h2 h1
theorem TC {n0 b:Nat}{m:OpLog}: ∀(acc:List OpLog) (i:Nat),BS n0 b m acc i->FW b (Bx m) (acc.map Bx) i=true
 |[],_,_=>rfl
 |a::acc,i,h=>by
  show((b.testBit i||Eo (Bx a) (Bx m))&&FW b (Bx m) (acc.map Bx) (Nat.succ i))=true
  rw[Bool.and_eq_true]
  refine⟨?_,TC acc (i+1) h.2⟩
  rcases h.1 with h|h
  ·rw[h];rfl
  ·rw[AdB_ h.2.2.1 h.2.2.2];simp
theorem Ed_ {n0:Nat}{all:List OpLog}: ∀(l:List OpLog) (bef:List Nat) (j:Nat),allP n0 all l bef j->Gk n0 all l bef j=true
 |[],_,_,_=>rfl
 |_::_,[],_,h=>h.elim
 |m::l,b::bef,j,h=>by
  show(GJ b (Bi n0 m.rd (Bi n0 m.wr [])) (all.take j)&&Gk n0 all l bef (Nat.succ j))=true
  rw[Bool.and_eq_true]
  refine⟨?_,Ed_ l bef (j+1) h.2⟩
  have hn: ∀x∈Bi n0 m.rd (Bi n0 m.wr []),n0<=x/\(x∈m.rd\/x∈m.wr):=λx hx=>by
   rcases Qm _ _ _ x hx with h|h
   ·exact⟨h.2, .inl h.1⟩
   ·rcases Qm _ _ _ x h with h|h
    ·exact⟨h.2, .inr h.1⟩
    ·cases h
  have hj:=V3 _ hn _ _ h.1
  unfold GJ
  generalize Bi n0 m.rd (Bi n0 m.wr [])=z at hj
  cases z with
  |nil=>rfl
  |cons x z=>exact hj
theorem Ux {n0:Nat}{all:List OpLog}: ∀(l:List OpLog) (bef:List Nat) (j:Nat),allP n0 all l bef j->HP (all.map Bx) (l.map Bx) bef j=true
 |[],_,_,_=>rfl
 |_::_,[],_,h=>h.elim
 |m::l,b::bef,j,h=>by
  show(FW b (Bx m) ((all.map Bx).take j) 0&&HP (all.map Bx) (l.map Bx) bef (Nat.succ j))=true
  rw[Bool.and_eq_true,<-List.map_take]
  exact⟨TC _ _ h.1,Ux l bef (j+1) h.2⟩
theorem CP {n0:Nat}{l:List OpLog}{bef:List Nat}(h:allP n0 l l bef 0):BN n0 l bef=true:=by
 unfold BN
 rw[Ed_ l bef 0 h,Mg,Ux l bef 0 h]
 simp
section
variable {α β:Type}{s:St}
theorem aS {m:M α}{f:α×OpLog->M β}{mem:T Cell}{next:Nat}{Q:β->St->Prop}
  (h:W m (oSt mem next) λv s1=> ∃F G,Ext F G (oSt mem next) s1/\ ∀rd wr,(∀x∈rd,x<next/\F x)->(∀x∈wr,x<next/\G x)->W (f (v,⟨next,s1.next,rd,wr⟩)) (dSt s1.mem s1.next) Q):W (M.bind (apartO m) f) (dSt mem next) Q:=by
 obtain⟨a,s1,e,F,G,x,q⟩:=h
 obtain⟨mem1,next1,lim1,rd1,wr1,cx1⟩:=s1
 have hcx:cx1= .no:=x.cx
 obtain⟨d1,p1,p2⟩:=x.rd
 obtain⟨d2,p3,p4⟩:=x.wr
 have e1:rd1=d1:=by simpa [oSt]using p1
 have e2:wr1=d2:=by simpa [oSt]using p3
 subst hcx
 refine W.bind (a7 (a:=(a,⟨next,next1,rd1,wr1⟩)) (s':=dSt mem1 next1) ?_ (q rd1 wr1 (λy hy=>p2 y (by rw[<-e1];exact hy)) λy hy=>p4 y (by rw[<-e2];exact hy)))
 have e':m ⟨mem,next,next,[],[], .no⟩= .some a ⟨mem1,next1,lim1,rd1,wr1, .no⟩:=e
 show Am.apartO m ⟨mem,next,0,[],[], .no⟩=_
 unfold Am.apartO
 simp only[e']
 rfl
theorem AnM_ (lim:Nat)(l:List OpLog)(base:List Nat): ∃d,wrsL lim l base=d++base/\ ∀x∈d,x<lim/\ ∃m∈l,x∈m.wr:=by
 induction l with
 |nil=>exact⟨[],rfl,λ_ h=>by cases h⟩
 |cons m l ih=>
  obtain⟨d,e,q⟩:=ih
  obtain⟨d2,e2,q2⟩:=FG_ lim m.wr (wrsL lim l base)
  refine⟨d2++d, ?_,λx hx=> ?_⟩
  ·show addL lim m.wr (wrsL lim l base)=_
   rw[e2,e,List.append_assoc]
  ·rcases List.mem_append.1 hx with hx|hx
   ·exact⟨(q2 x hx).1,m,am,(q2 x hx).2⟩
   ·obtain⟨h1,m',h2,h3⟩:=q x hx
    exact⟨h1,m',by simp[h2],h3⟩
theorem aU {F G:Nat->Prop}{mem':T Cell}{next':Nat}{l:List OpLog}(h1:s.next<=next')(h2: ∀x,x<s.next-> ¬G x->T.get mem' x=T.get s.mem x)(hw: ∀m∈l,∀x∈m.wr,x<s.lim->G x)(hr: ∀m∈l,∀x∈m.rd,x<s.lim->F x):
  Ext F G s ⟨mem',next',s.lim,rdsL s.lim l s.rd,wrsL s.lim l s.wr,s.cx⟩:=by
 obtain⟨d,e,q⟩:=OY_ s.lim l s.rd
 obtain⟨d2,e2,q2⟩:=AnM_ s.lim l s.wr
 exact⟨h1,rfl,rfl,λx hx hg=>h2 x hx hg,⟨d,e,λx hx=>by obtain⟨a,m,b,c⟩:=q x hx;exact⟨a,hr m b x c a⟩⟩,⟨d2,e2,λx hx=>by obtain⟨a,m,b,c⟩:=q2 x hx;exact⟨a,hw m b x c a⟩⟩⟩
end
section
variable {s:St}{E:Env}{t:Nat}{xo yo:Operand}
theorem cmp8 (c:Nat->Nat->Bool)(m n:Nat):cmpK c .u8 .u8 m n=some (.bool (c m n)):=by
 unfold cmpK B0
 rw[Nat.beq_refl]
 show mkB (c m n)=_
 unfold mkB
 cases c m n<;>rfl
theorem Fi_ (m n:Nat):Cl.get (aBin E .geq t xo yo) (.int .u8 (m:Nat)) (.int .u8 (n:Nat)) s= .some (.bool (decide (n<=m))) s:=by
 show int3 (cmpK λm n=>Nat.ble n m) (AJ E .geq t xo yo) (.int .u8 (.ofNat m)) (.int .u8 (.ofNat n)) s=_
 show Option.rec (motive:=λ_=>R Value) _ (λv=> .some v s) (cmpK (λm n=>Nat.ble n m) .u8 .u8 m n)=_
 have e:Nat.ble n m=decide (n<=m):=by
  by_cases h:n<=m
  ·rw[decide_eq_true h]
   exact Nat.ble_eq_true_of_le h
  ·rw[decide_eq_false h]
   cases hb:Nat.ble n m with
   |false=>rfl
   |true=>exact absurd (Nat.le_of_ble_eq_true hb) h
 rw[cmp8,e]
end
def Cls (n0:Nat):List OpLog->List Bool->Prop
 |[],[]=>True
 |m::l,c::cs=>(m.wr=[]/\(c=false->m.lo=m.hi/\ ∀x∈m.rd,x<n0))/\Cls n0 l cs
 |_,_=>False
def ordA (b:Nat):List Bool->Nat->Bool
 |[],_=>true
 |c::cs,i=>(!c||b.testBit i)&&ordA b cs (i+1)
def ordK (all:List Bool):List Bool->List Nat->Nat->Bool
 |[],_,_=>true
 |_::_,[],_=>false
 |c::cs,b::bs,j=>(!c||ordA b (all.take j) 0)&&ordK all cs bs (j+1)
theorem Cls.len {n0:Nat}: ∀{l:List OpLog} {cs:List Bool},Cls n0 l cs->l.length=cs.length
 |[],[],_=>rfl
 |_::_,_::_,h=>by rw[List.length_cons,List.length_cons,Cls.len h.2]
 |[],_::_,h=>h.elim
 |_::_,[],h=>h.elim
theorem Cls.at {n0:Nat}: ∀{l:List OpLog} {cs:List Bool},Cls n0 l cs-> ∀{k:Nat} {m:OpLog},l[k]?=some m-> ∃c,cs[k]?=some c/\m.wr=[]/\(c=false->m.lo=m.hi/\ ∀x∈m.rd,x<n0)
 |[],[],_,_,_,e=>by simp at e
 |m::l,c::cs,h,0,m',e=>by
  obtain rfl:m=m':=by simpa using e
  exact⟨c,rfl,h.1⟩
 |m::l,c::cs,h,k+1,m',e=>h.2.at (k:=k) (by simpa using e)
 |[],_::_,h,_,_,_=>h.elim
 |_::_,[],h,_,_,_=>h.elim
theorem Ry {b:Nat}: ∀{cs:List Bool} {i:Nat},ordA b cs i=true-> ∀{t:Nat},cs[t]?=some true->b.testBit (i+t)=true
 |c::cs,i,h,0,e=>by
  obtain rfl:c=true:=by simpa using e
  have h':((!true||b.testBit i)&&ordA b cs (i+1))=true:=h
  rw[Bool.and_eq_true]at h'
  simpa using h'.1
 |c::cs,i,h,t+1,e=>by
  have h':((!c||b.testBit i)&&ordA b cs (i+1))=true:=h
  rw[Bool.and_eq_true]at h'
  have:=Ry h'.2 (t:=t) (by simpa using e)
  rwa [show i+(t+1)=i+1+t by omega]
 |[],_,_,_,e=>by simp at e
theorem QI {all:List Bool}: ∀{cs:List Bool} {bs:List Nat} {j:Nat},ordK all cs bs j=true-> ∀{k b:Nat},cs[k]?=some true->bs[k]?=some b->ordA b (all.take (j+k)) 0=true
 |c::cs,b::bs,j,h,0,b',e1,e2=>by
  obtain rfl:c=true:=by simpa using e1
  obtain rfl:b=b':=by simpa using e2
  have h':((!true||ordA b (all.take j) 0)&&ordK all cs bs (j+1))=true:=h
  rw[Bool.and_eq_true]at h'
  simpa using h'.1
 |c::cs,b::bs,j,h,k+1,b',e1,e2=>by
  have h':((!c||ordA b (all.take j) 0)&&ordK all cs bs (j+1))=true:=h
  rw[Bool.and_eq_true]at h'
  have:=QI h'.2 (k:=k) (by simpa using e1) (by simpa using e2)
  rwa [show j+(k+1)=j+1+k by omega]
 |[],_,_,_,_,_,e1,_=>by simp at e1
 |_::_,[],_,_,_,_,_,e2=>by simp at e2
theorem Aes_ {n0:Nat}{l:List OpLog}{bef:List Nat}{cs:List Bool}(h:Cls n0 l cs)(hl:cs.length<=bef.length)(ho:ordK cs cs bef 0=true):BN n0 l bef=true:=by
 refine EA_ (by rw[h.len];exact hl) (λk m b e1 e2=> ?_) λm hm=> ?_
 ·obtain⟨c,hc,hw,hf⟩:=h.at e1
  refine⟨hw,λi a hi ea=> ?_⟩
  cases c with
  |false=>exact .inr λx hx hn=>absurd ((hf rfl).2 x hx) J
  |true=>
   obtain⟨ca,hca,_,hfa⟩:=h.at ea
   cases ca with
   |false=>
    have:=(hfa rfl).1
    exact .inr λx _ _=>J
   |true=>
    have h1:=QI ho hc e2
    have h2:=Ry h1 (t:=i) (by
     rw[Nat.zero_add,List.getElem?_take,if_pos hi]
     exact hca)
    rw[Nat.zero_add]at h2
    exact .inl h2
 ·obtain⟨k,hk,rfl⟩:=List.getElem_of_mem hm
  obtain⟨_,_,hw,_⟩:=h.at (List.getElem?_eq_getElem hk)
  exact hw
open Go.RowKit Go.ChangeShapes
noncomputable def zeroT (P:Program)(t:Nat):Value:=((P.info? t).bind (·.zero)).getD .nilFunc
section
variable {H:Type}{enc:TypeId×Value->H}{P:Program}{W W':World}
theorem below_all (hl:laidOutB P=true)(hb:Below W.heap.size W W'){sp:Nat->Bool}: ∀{ts:List TypeId} {vs:List Value} {ds:List (DataW H)} {ps:List MemPlace},(ts.all λt=>P.readableRec t&&decide (t<P.types.size))=true->DataW.TrodAll enc P W 0 (λ_=>true) true ts vs ds ps->(∀x∈ps,x.block<W.heap.size)->(∀x∈ps,sp x.block=true)->
  DataW.TrodAll enc P W' 0 sp true ts vs ds ps
 |[],_,_,_,_,h,_,_=>by
  obtain⟨rfl,rfl,rfl⟩:=trodAll_nil h
  exact trodAll_mk0
 |t::ts,_,_,_,hr,h,hlt,hsp=>by
  obtain⟨v,vs,d,ds,p,q,rfl,rfl,rfl,h1,h2⟩:=trodAll_cons h
  rw[List.all_cons,Bool.and_eq_true,Bool.and_eq_true]at hr
  refine⟨p,q,WideElems.Trod_stays hl hr.1.1 (of_decide_eq_true hr.1.2) h1 (λx hx=>hb.same (hlt x (List.mem_append_left _ hx))) (λx hx=>hsp x (List.mem_append_left _ hx)), ?_,rfl⟩
  exact below_all hl hb hr.2 h2 (λx hx=>hlt x (List.mem_append_right _ hx)) (λx hx=>hsp x (List.mem_append_right _ hx))
