import Derived.Test.YtofanlcjeohcjaaIBz08
import GoSem.Op.String
import Derived.Carry
import Derived.ChangeSame
namespace Go.Proofs.Ytofanlcjeohcjaa.Am
open Go.RowKit
section
variable {s:St}{E:Env}{t t2:Nat}
theorem W.appV (hbd:s.lim<=s.next){sz by' n len b:Nat}{z l old:List Value}{v x:Value}{F:Nat->Prop}{Q:Value->St->Prop}{g:Bool}(ht:appT E t t2=some (sz,by',g,z))(hm:MkS s sz len old v b)(hx:SrcG s sz by' g z x n l F)(hs0:0<sz)(hs1:sz<1024)
  (hb:(len+n)*(by'+1)<=16777216) (hl:l.length=n*sz) (h1:l.all oneCell=true)
  (q: ∀s2 v2 b2,(b2=b/\n=0\/s.next<=b2)->MkS s2 sz (len+n) (old++l) v2 b2->Ext (λx=>F x\/MkF sz len b x) (MkF sz len b) s s2->Q v2 s2):W (CK E t t2 v x) s Q:=by
 by_cases hn:n=0
 ·rcases hm with⟨rfl,rfl,rfl⟩|⟨hm,h0⟩
  ·subst hn
   have hl0:l=[]:=List.eq_nil_of_length_eq_zero (by rw[hl,Nat.zero_mul])
   subst hl0
   obtain⟨i,i2,e,ie,g1,g2,g3,g4,g5,g6,g7,g8⟩:=Ii ht
   obtain⟨hN,s1,e1,m1,n1,x1⟩:=hx ie g5 g6 g8
   subst g5;subst g6
   refine W.bind (W.ti g1 (W.bind (W.ti g2 ?_)))
   rw[g3,g7]
   refine W.bind (W.ti g4 (W.bind (W.of (hN s) (W.bind ?_))))
   refine W.of e1 ?_
   show W (aO (Nat.ble (Nat.add 0 0) (0%capU)) (Fp ie.size none 0 0 0 []) _) s1 Q
   rw[show Nat.ble (Nat.add 0 0) (0%capU)=true from Nat.ble_eq_true_of_le (Nat.zero_le _)]
   show W (M.pure (.slice none 0 0)) s1 Q
   exact W.pure (q s1 _ b (.inl ⟨rfl,rfl⟩) (.inl ⟨rfl,rfl,rfl⟩) (x1.weak hbd (λ_ _ h=> .inl h) λ_ _ h=>h.elim))
  ·refine W.appE hbd ht (.inr ⟨hm,h0⟩) hx hs0 hs1 hb hl h1 λs2 v2 b2 hb2 e2 x2=>q s2 v2 b2 (hb2.elim (λh=> .inl ⟨h,hn⟩) .inr) ?_ x2
   rcases e2 with⟨_,h,_⟩|⟨h,h'⟩
   ·omega
   ·exact .inr ⟨h,h'⟩
 ·exact bA hbd ht hm hx J hs0 hs1 hb hl h1 λs2 v2 b2 hb2 mk x2=>q s2 v2 b2 (.inr hb2) mk x2
end
section
variable {s:St}{E:Env}{t:Nat}{xo yo:Operand}
theorem X8 (r:Nat):fitI .u32 r=some (.int .u32 (r%4294967296:Nat)):=by
 unfold fitI
 by_cases h:r<=4294967295
 ·rw[Nat.ble_eq_true_of_le (show r<=mxOf .u32 from h),Nat.mod_eq_of_lt J]
  show mkI .u32 r=_
  unfold mkI
  rw[AB]
  rfl
 ·have e:Nat.ble r (mxOf .u32)=false:=by
   cases hb:Nat.ble r (mxOf .u32)with
   |false=>rfl
   |true=>exact absurd (Nat.le_of_ble_eq_true hb) h
  rw[e]
  show mkI .u32 (Nat.mod r 4294967296)=_
  unfold mkI
  rw[AB]
  rfl
theorem Aah_ (m n:Nat)(h:m^^^n<4294967296):Cl.get (aBin E .xor t xo yo) (.int .u32 (m:Nat)) (.int .u32 (n:Nat)) s= .some (.int .u32 (m^^^n:Nat)) s:=by
 show int3 xorK (AP E .xor t xo yo) (.int .u32 (.ofNat m)) (.int .u32 (.ofNat n)) s=_
 show Option.rec (motive:=λ_=>R Value) _ (λv=> .some v s) (xorK .u32 .u32 m n)=_
 have:xorK .u32 .u32 m n=some (.int .u32 (m^^^n:Nat)):=by
  unfold xorK BO
  rw[Nat.beq_refl]
  refine(X8 _).trans ?_
  rw[Nat.mod_eq_of_lt (show Nat.xor m n<4294967296 from h)]
  rfl
 rw[this]
theorem AgB_ {m n:Nat}(h:m^^^n<4294967296)(Q:Value->St->Prop):W (Cl.get (aBin E .xor t xo yo) (.int .u32 (m:Nat)) (.int .u32 (n:Nat))) s Q=Q (.int .u32 (m^^^n:Nat)) s:=AD (Aah_ m n h)
theorem AmO_ {m n:Nat}(Q:Value->St->Prop):W (Cl.get (aBin E .neq t xo yo) (.int .u32 (m:Nat)) (.int .u32 (n:Nat))) s Q=Q (.bool (!decide (m=n))) s:=AD (neqU .u32 rfl m n xo yo)
theorem ZZ_ {m:Nat}(h:m<4294967296):4294967295^^^m<4294967296:=Nat.xor_lt_two_pow (n:=32) al h
theorem Zx_ (P:Program)(m:Nat)(hm:m<4294967296):kUn P .xor (.int .u32 (m:Nat)) s= .some (.int .u32 (4294967295^^^m:Nat)) s:=by
 show Option.rec (motive:=λ_=>M Value) (C6 P .xor (.int .u32 (.ofNat m))) (λx=>M.pure x) (notK .u32 m) s=_
 have:notK .u32 m=some (.int .u32 (4294967295^^^m:Nat)):=by
  unfold notK
  show sOpt true (fitI .u32 (Nat.xor 4294967295 m))=_
  show fitI .u32 (Nat.xor 4294967295 m)=_
  rw[X8,Nat.mod_eq_of_lt (show Nat.xor 4294967295 m<4294967296 from ZZ_ hm)]
  rfl
 rw[this]
 rfl
theorem Aon_ {P:Program}{m:Nat}(hm:m<4294967296)(Q:Value->St->Prop):W (kUn P .xor (.int .u32 (m:Nat))) s Q=Q (.int .u32 (4294967295^^^m:Nat)) s:=AD (Zx_ P m hm)
theorem wrap_u32 (n:Nat):IntKind.u32.wrap (n:Int)=((n%4294967296:Nat):Int):=by
 have e:IntKind.u32.wrap (n:Int)=(n:Int)%4294967296:=by unfold IntKind.wrap;simp[IntKind.bits,IntKind.signed]
 rw[e]
 omega
end
section
variable {α β:Type}{s:St}{E:Env}{t t2:Nat}
end
section
variable {α β:Type}{s:St}{E:Env}{t:Nat}{xo yo:Operand}
section
variable {γ:Type}{f:Value×OpLog->M γ}{mem:T Cell}{next:Nat}{Q:γ->St->Prop}{m n:Nat}{kk:IntKind}
end
variable {n f nt g:Nat}{tm:T Value}{T P:List Item}{ki:CallKind}{Q:Value×FrameMode->St->Prop}
end
def preL:List UInt8:=[112,97,99,107,47]
def dig6 (n:Nat):List Nat:=[48+n/100000%10,48+n/10000%10,48+n/1000%10,48+n/100%10,48+n/10%10,48+n%10]
def Cr (n:Int):List UInt8:=if 1<=n/\n<=999999 then preL++(dig6 n.toNat).map UInt8.ofNat else []
def BP (c:UInt8):Bool:=decide (48<=c.toNat)&&decide (c.toNat<=57)
def val6 (a:Nat)(l:List UInt8):Nat:=l.foldl (λa c=>10*a+(c.toNat-48)) a
def BZ (d:List UInt8):Nat×Bool:=
 if d.take 5=preL/\d.length=11/\(d.drop 5).all BP=true then(val6 0 (d.drop 5),decide (0<val6 0 (d.drop 5)))else(0,false)
theorem Gk {k:Nat}(h:k<256):(UInt8.ofNat k).toNat=k:=by simp;omega
theorem Aik_ (n:Nat):((dig6 n).map UInt8.ofNat).all BP=true:=by
 simp only[dig6,List.map_cons,List.map_nil,List.all_cons,List.all_nil,Bool.and_true,BP,Bool.and_eq_true,decide_eq_true_eq]
 have h: ∀k,k<10->48<=(UInt8.ofNat (48+k)).toNat/\(UInt8.ofNat (48+k)).toNat<=57:=λk hk=>by rw[Gk J];omega
 exact⟨h _ J,h _ J,h _ J,h _ J,h _ J,h _ J⟩
theorem AbB_ {n:Nat}(h:n<=999999):val6 0 ((dig6 n).map UInt8.ofNat)=n:=by
 simp only[dig6,List.map_cons,List.map_nil,val6,List.foldl_cons,List.foldl_nil]
 rw[Gk J,Gk J,Gk J,Gk J,Gk J,Gk J]
 omega
theorem Ajo_ (n:Int):BZ (Cr n)=if 1<=n/\n<=999999 then(n.toNat,true)else(0,false):=by
 unfold Cr
 by_cases h:1<=n/\n<=999999
 ·rw[if_pos h,if_pos h]
  have hd:(preL++(dig6 n.toNat).map UInt8.ofNat).drop 5=(dig6 n.toNat).map UInt8.ofNat:=rfl
  unfold BZ
  rw[hd,Aik_,AbB_ J,if_pos ⟨rfl,rfl,rfl⟩]
  rw[decide_eq_true J]
 ·rw[if_neg h,if_neg h]
  rfl
theorem Gz (c:UInt8)(h:BP c=true):UInt8.ofNat (48+(c.toNat-48))=c:=by
 simp only[BP,Bool.and_eq_true,decide_eq_true_eq]at h
 rw[show 48+(c.toNat-48)=c.toNat by omega]
 simp
theorem AwV_ (d:List UInt8):((BZ d).2=true->Cr (BZ d).1=d/\1<=(BZ d).1/\(BZ d).1<=999999)/\((BZ d).2=false->(BZ d).1=0):=by
 unfold BZ
 by_cases h:d.take 5=preL/\d.length=11/\(d.drop 5).all BP=true
 ·rw[if_pos h]
  obtain⟨h1,h2,h3⟩:=h
  have hlen:(d.drop 5).length=6:=by rw[List.length_drop,h2]
  have hd:d=preL++d.drop 5:=by rw[<-h1,List.take_append_drop]
  obtain⟨v,hv⟩: ∃v,v=val6 0 (d.drop 5):=⟨_,rfl⟩
  rw[<-hv]
  generalize d.drop 5=e at *
  subst hd
  match e,hlen with
  |[a,b,c,x,y,z],_=>
   simp only[List.all_cons,List.all_nil,Bool.and_true,Bool.and_eq_true]at h3
   obtain⟨p1,p2,p3,p4,p5,p6⟩:=h3
   have q: ∀c:UInt8,BP c=true->48<=c.toNat/\c.toNat<=57:=λc h=>by
    simpa only[BP,Bool.and_eq_true,decide_eq_true_eq]using h
   have q1:=q _ p1;have q2:=q _ p2;have q3:=q _ p3;have q4:=q _ p4;have q5:=q _ p5;have q6:=q _ p6
   simp only[val6,List.foldl_cons,List.foldl_nil]at hv
   refine⟨λh=> ?_,λh=> ?_⟩
   ·have h0:0<v:=by simpa using h
    have h9:v<=999999:=J
    refine⟨?_,h0,h9⟩
    show Cr ((v:Nat):Int)=preL++[a,b,c,x,y,z]
    unfold Cr
    rw[if_pos ⟨J,J⟩]
    congr 1
    rw[show((v:Nat):Int).toNat=v from rfl]
    simp only[dig6,List.map_cons,List.map_nil]
    rw[show v/100000%10=a.toNat-48 by omega,show v/10000%10=b.toNat-48 by omega,show v/1000%10=c.toNat-48 by omega,show v/100%10=x.toNat-48 by omega,show v/10%10=y.toNat-48 by omega,show v%10=z.toNat-48 by omega]
    rw[Gz _ p1,Gz _ p2,Gz _ p3,Gz _ p4,Gz _ p5,Gz _ p6]
   ·have: ¬0<v:=by simpa using h
    show v=0
    omega
 ·rw[if_neg h]
  exact⟨λh=>(by cases h),λ_=>rfl⟩
open Go.RowKit Go.ChangeShapes Go.WideShapes
open Go.RowKit Go.ChangeShapes
noncomputable def zeroT (P:Program)(t:Nat):Value:=((P.info? t).bind (·.zero)).getD .nilFunc
section
variable {H:Type}{enc:TypeId×Value->H}{P:Program}{W W':World}
theorem below_all (hl:laidOutB P=true)(hb:Below W.heap.size W W'){sp:Nat->Bool}: ∀{ts:List TypeId} {vs:List Value} {ds:List (DataW H)} {ps:List MemPlace},(ts.all λt=>P.readableRec t&&decide (t<P.types.size))=true->DataW.TrodAll enc P W 0 (λ_=>true) true ts vs ds ps->(∀x∈ps,x.block<W.heap.size)->(∀x∈ps,sp x.block=true)->
  DataW.TrodAll enc P W' 0 sp true ts vs ds ps
 |[],_,_,_,_,h,_,_=>by
  obtain⟨rfl,rfl,rfl⟩:=trodAll_nil h
  exact trodAll_mk0
 |t::ts,_,_,_,hr,h,hlt,hsp=>by
  obtain⟨v,vs,d,ds,p,q,rfl,rfl,rfl,h1,h2⟩:=trodAll_cons h
  rw[List.all_cons,Bool.and_eq_true,Bool.and_eq_true]at hr
  refine⟨p,q,WideElems.Trod_stays hl hr.1.1 (of_decide_eq_true hr.1.2) h1 (λx hx=>hb.same (hlt x (List.mem_append_left _ hx))) (λx hx=>hsp x (List.mem_append_left _ hx)), ?_,rfl⟩
  exact below_all hl hb hr.2 h2 (λx hx=>hlt x (List.mem_append_right _ hx)) (λx hx=>hsp x (List.mem_append_right _ hx))
