import Derived.Test.YtofanlcjeohcjaaIBk20
import Derived.Test.YtofanlcjeohcjaaIBk19
import Derived.Test.YtofanlcjeohcjaaIBk18
import Derived.Test.YtofanlcjeohcjaaIBk08
import Derived.Test.YtofanlcjeohcjaaIBk14
namespace Go.Proofs.Ytofanlcjeohcjaa.Am
open Go.RowKit
theorem HsR.ext0 {F:Nat->Prop}{s s':St}{v:Value}{hs:List Hd}(h:HsR s v hs)(e:Ext F Non s s'):HsR s' v hs:=by
 rcases h with h|⟨b,o,c,h0,h3⟩
 ·exact .inl h
 ·exact .inr ⟨b,o,c,h0,h3.ext e λ_ _=>id⟩
theorem Nb.new {s s':St}{v:Value}{hs:List Hd}(h:Nb s s' v hs): ∀x,HsF v x->s.next<=x:=by
 intro x hx
 rcases h with⟨rfl,_⟩|⟨b,h1,h,_⟩
 ·exact hx.elim
 ·rw[h.val]at hx
  have:=hx.1
  show s.next<=x
  have h2:b+0<=x:=hx.1
  omega
section
variable {parts:List (Value×List Nat)}{b o c:Nat}
end
section
variable {parts:List (Value×List Nat)}{b o c:Nat}
end
def Eu:List (List Nat)->List Nat
 |[]=>[]
 |b::l=>recB b++Eu l
def Sj:Nat->List (List Nat)->List Nat
 |_,[]=>[]
 |k,b::l=>(k+(recB b).length)::Sj (k+(recB b).length) l
def RX:Nat->List (List Nat)->List Hd
 |_,[]=>[]
 |k,b::l=>(idB b,k,b.length)::RX (k+(recB b).length) l
def Je_ (l:List Nat):List Value:=l.map λn=> .int .i64 (n:Nat)
section
variable {parts:List (Value×List Nat)}{b o c:Nat}
def chs (parts:List (Value×List Nat))(i:Nat):List (List Nat):=(parts.take i).map (·.2)
structure AlI (s0:St)(parts:List (Value×List Nat))(b o c i:Nat)(tm:T Value)(s:St)(vb ve vh:Value)(b1 b2 b3:Nat):Prop where
 t0:T.get tm 0=some (.slice (some ⟨b,o,none⟩) parts.length c)
 t6:T.get tm 6=some vb
 t7:T.get tm 7=some ve
 t8:T.get tm 8=some vh
 t11:T.get tm 11=some (.int .i64 (i:Nat))
 mb:MkS s 1 (Eu (chs parts i)).length (u8l (Eu (chs parts i))) vb b1
 me:MkS s 1 i (Je_ (Sj 0 (chs parts i))) ve b2
 mh:MkS s 18 i (Cj (RX 0 (chs parts i))) vh b3
 n1:s0.next<=b1
 n2:s0.next<=b2
 n3:s0.next<=b3
 d12: ∀x,MkF 1 (Eu (chs parts i)).length b1 x-> ¬MkF 1 i b2 x
 d13: ∀x,MkF 1 (Eu (chs parts i)).length b1 x-> ¬MkF 18 i b3 x
 d23: ∀x,MkF 1 i b2 x-> ¬MkF 18 i b3 x
 sm: ∀p∈parts.take i,1<=p.2.length/\p.2.length<=1024
end
structure RecAt (t:List Nat)(k:Nat)(b:List Nat):Prop where
 n:DU t k=b.length
 ok:Vp t k=true
 len:k+26+b.length<=t.length
 rok:UF t k=true
 good:Ph t k b.length=true
 id:Vr t k b.length=idB b
 body:Eo_ t k b.length=b
def DP (l:List Nat)(i j:Nat):List Nat:=l.set i (l.getD i 0^^^2^j)
def crc1 (n:Nat):Nat:=if n%2=1 then n/2^^^3988292384 else n/2
def crcN:Nat->Nat->Nat
 |0,n=>n
 |k+1,n=>crcN k (crc1 n)
theorem Um: ∀(k n:Nat),crc8 n k=crcN k n
 |0,n=>rfl
 |k+1,n=>by
  unfold crc8 crcN crc1
  split
  ·exact Um k _
  ·exact Um k _
theorem NO_ (a b:Nat):crc1 (a^^^b)=crc1 a^^^crc1 b:=by
 have hd:(a^^^b)/2=a/2^^^b/2:=by
  have h:=Nat.shiftRight_xor_distrib (a:=a) (b:=b) (i:=1)
  rw[Nat.shiftRight_eq_div_pow,Nat.shiftRight_eq_div_pow,Nat.shiftRight_eq_div_pow]at h
  exact h
 have hm:(a^^^b)%2=(a%2+b%2)%2:=by
  rw[<-Nat.pow_one 2,Nat.xor_mod_two_pow]
  rcases Nat.mod_two_eq_zero_or_one a with h|h<;>rcases Nat.mod_two_eq_zero_or_one b with h'|h'<;>simp[h,h']
 unfold crc1
 rw[hd,hm]
 have e: ∀x y z:Nat,x^^^z^^^(y^^^z)=x^^^y:=λx y z=>by
  rw[Nat.xor_comm y z,Nat.xor_assoc,<-Nat.xor_assoc z z y,Nat.xor_self,Nat.zero_xor]
 rcases Nat.mod_two_eq_zero_or_one a with h|h<;>rcases Nat.mod_two_eq_zero_or_one b with h'|h'<;>rw[h,h']<;>simp -implicitDefEqProofs only[Nat.reduceAdd,Nat.reduceMod,Nat.zero_ne_one,if_true,if_false]
 ·rw[Nat.xor_assoc]
 ·rw[Nat.xor_assoc,Nat.xor_comm (b/2),<-Nat.xor_assoc]
 ·rw[e]
theorem Ku: ∀(k a b:Nat),crcN k (a^^^b)=crcN k a^^^crcN k b
 |0,_,_=>rfl
 |k+1,a,b=>by
  show crcN k (crc1 (a^^^b))=crcN k (crc1 a)^^^crcN k (crc1 b)
  rw[NO_,Ku k]
theorem Me: ∀(j k n:Nat),crcN (j+k) n=crcN k (crcN j n)
 |0,k,n=>by rw[Nat.zero_add];rfl
 |j+1,k,n=>by
  rw[Nat.succ_add]
  exact Me j k _
theorem JQ: ∀(k n:Nat),crcN k (n*2^k)=n
 |0,n=>by rw[Nat.pow_zero,Nat.mul_one];rfl
 |k+1,n=>by
  show crcN k (crc1 (n*2^(k+1)))=n
  have e:n*2^(k+1)=2*(n*2^k):=by rw[Nat.pow_succ];rw[<-Nat.mul_assoc,Nat.mul_comm]
  unfold crc1
  rw[e,Nat.mul_mod_right,if_neg (by decide),Nat.mul_div_cancel_left _ (by decide)]
  exact JQ k n
theorem AbF_ {n:Nat}(h:n<4294967296):crc1 n<4294967296:=by
 unfold crc1
 split
 ·exact Nat.xor_lt_two_pow (n:=32) (show n/2<2^32 by omega) (by decide)
 ·omega
theorem Act_ {n:Nat}(h:n<4294967296)(h0:n≠0):crc1 n≠0:=by
 unfold crc1
 split
 ·intro e
  have e2:n/2^^^3988292384^^^3988292384=0^^^3988292384:=by rw[e]
  rw[Nat.xor_assoc,Nat.xor_self,Nat.xor_zero,Nat.zero_xor]at e2
  omega
 ·omega
theorem AG_: ∀(k:Nat) {n:Nat},n<4294967296->n≠0->crcN k n≠0
 |0,_,_,h0=>h0
 |k+1,_,h,h0=>AG_ k (AbF_ h) (Act_ h h0)
def leN:List Nat->Nat
 |[]=>0
 |c::l=>c+256*leN l
theorem Pp {a b k:Nat}(h:a<2^k):a^^^b*2^k=a+b*2^k:=by
 apply Nat.eq_of_testBit_eq
 intro i
 rw[Nat.testBit_xor,Nat.add_comm,Nat.mul_comm b,Nat.testBit_two_pow_mul_add _ h,Nat.testBit_two_pow_mul]
 by_cases hi:i<k
 ·rw[if_pos hi]
  simp[show ¬k<=i by omega]
 ·rw[if_neg hi,Nat.testBit_lt_two_pow (Nat.lt_of_lt_of_le h (Nat.pow_le_pow_right (by decide) (by omega)))]
  simp[show k<=i by omega]
theorem BG_ (a b k:Nat):(a^^^b)*2^k=a*2^k^^^b*2^k:=by
 apply Nat.eq_of_testBit_eq
 intro q
 rw[Nat.testBit_xor,Nat.mul_comm _ (2^k),Nat.mul_comm a,Nat.mul_comm b,Nat.testBit_two_pow_mul,Nat.testBit_two_pow_mul,Nat.testBit_two_pow_mul,Nat.testBit_xor]
 cases decide (k<=q)<;>simp
theorem Ko {c:Nat}(h:c<256)(l:List Nat):leN (c::l)=c^^^leN l*2^8:=by
 rw[Pp (k:=8) h]
 show c+256*leN l=_
 omega
theorem Oc_ (n c:Nat):EV n c=crcN 8 (n^^^c):=by
 have e:n=n%256^^^n/256*2^8:=by
  rw[Pp (k:=8) (Nat.mod_lt _ (by decide))]
  omega
 have e2:n^^^c=(n%256^^^c)^^^n/256*2^8:=by
  conv=>lhs;rw[e]
  rw[Nat.xor_assoc,Nat.xor_comm _ c,<-Nat.xor_assoc]
 rw[e2,Ku,JQ]
 unfold EV crcT
 rw[Um]
theorem AH_: ∀(l:List Nat) (n:Nat),Byt l->crcs n l=crcN (8*l.length) (n^^^leN l)
 |[],n,_=>by show n=n^^^0;rw[Nat.xor_zero]
 |c::l,n,h=>by
  have hc:c<256:=h c (by simp)
  have ih:=AH_ l (EV n c) λx hx=>h x (by simp[hx])
  show crcs (EV n c) l=_
  rw[ih,Ko hc,<-Nat.xor_assoc,List.length_cons,show 8*(l.length+1)=8+8*l.length by omega,Me,Ku 8,JQ,Oc_]
theorem Ff_: ∀(l r:List Nat),leN (l++r)=leN l+leN r*2^(8*l.length)
 |[],r=>by show leN r=0+leN r*2^(8*0);omega
 |c::l,r=>by
  show c+256*leN (l++r)=c+256*leN l+leN r*2^(8*(l.length+1))
  have e:256*(leN r*2^(8*l.length))=leN r*2^(8*(l.length+1)):=by
   rw[show 8*(l.length+1)=8*l.length+8 by omega,Nat.pow_add,<-Nat.mul_assoc,Nat.mul_comm (2^(8*l.length)),Nat.mul_left_comm,<-Nat.mul_assoc]
  rw[Ff_ l r,Nat.mul_add,e]
  omega
theorem IJ_: ∀{l:List Nat},Byt l->leN l<2^(8*l.length)
 |[],_=>by decide
 |c::l,h=>by
  have h1:c<256:=h c (by simp)
  have h2:=IJ_ (l:=l) λx hx=>h x (by simp[hx])
  have e:2^(8*(l.length+1))=256*2^(8*l.length):=by
   rw[show 8*(l.length+1)=8+8*l.length by omega,Nat.pow_add]
  show c+256*leN l<2^(8*(l.length+1))
  omega
theorem Aah_ {n:Nat}(h:n<4294967296):leN (le4 n)=n:=by
 show n%256+256*(n>>>8%256+256*(n>>>16%256+256*(n>>>24%256+256*0)))=n
 rw[Nat.shiftRight_eq_div_pow,Nat.shiftRight_eq_div_pow,Nat.shiftRight_eq_div_pow]
 omega
theorem EL_ {l:List Nat}(hb:Byt l)(h:GOk l)(hlt:crcs 4294967295 (l.take (l.length-4))<4294967296):crcN (8*l.length) (4294967295^^^leN l)=crcN 32 4294967295:=by
 obtain⟨h4,h⟩:=h
 generalize hd:l.take (l.length-4)=d at h hlt
 have hdl:d.length=l.length-4:=by rw[<-hd,List.length_take];omega
 have hbd:Byt d:=λx hx=>hb x (by rw[<-hd]at hx;exact List.mem_of_mem_take hx)
 have hx:CV 0 d=4294967295^^^crcs 4294967295 d:=by unfold CV;rw[Nat.xor_zero]
 have e1:leN l=leN d^^^(4294967295^^^crcs 4294967295 d)*2^(8*d.length):=by
  rw[<-h]
  unfold gput
  rw[Ff_,hx,Aah_ (Nat.xor_lt_two_pow (n:=32) (by decide) hlt),Pp (IJ_ hbd)]
 rw[show 8*l.length=8*d.length+32 by omega,Me,e1,<-Nat.xor_assoc,Ku (8*d.length),JQ,<-AH_ d _ hbd,Nat.xor_comm 4294967295,<-Nat.xor_assoc,Nat.xor_self,Nat.zero_xor]
theorem LA_ {l l':List Nat}{m k:Nat}(hb:Byt l)(hb':Byt l')(hlen:l'.length=l.length)(hm:m<4294967296)(h0:m≠0)(he:leN l'=leN l^^^m*2^k)(hk:k<=8*l.length)
  (hlt: ∀d:List Nat,Byt d->crcs 4294967295 d<4294967296) (h:GOk l): ¬GOk l':=by
 intro h'
 have e1:=EL_ hb h (hlt _ λx hx=>hb x (List.mem_of_mem_take hx))
 have e2:=EL_ hb' h' (hlt _ λx hx=>hb' x (List.mem_of_mem_take hx))
 rw[hlen,he,<-Nat.xor_assoc,Ku,e1,show 8*l.length=k+(8*l.length-k) by omega,Me,JQ]at e2
 have:=AG_ (8*l.length-k) hm h0
 apply this
 have e3:crcN 32 4294967295^^^(crcN 32 4294967295^^^crcN (8*l.length-k) m)=crcN 32 4294967295^^^crcN 32 4294967295:=by rw[e2]
 rwa [<-Nat.xor_assoc,Nat.xor_self,Nat.zero_xor]at e3
theorem FZ_: ∀(l:List Nat) (i j:Nat),Byt l->i<l.length->j<8->leN (DP l i j)=leN l^^^2^(8*i+j)
 |[],i,j,_,hi,_=>by simp at hi
 |c::l,0,j,h,_,hj=>by
  have hc:c<256:=h c (by simp)
  have hx:c^^^2^j<256:=Nat.xor_lt_two_pow (n:=8) hc (Nat.pow_lt_pow_right (by decide) hj)
  show leN ((c^^^2^j)::l)=_
  rw[Ko hx,Ko hc,Nat.mul_zero,Nat.zero_add,Nat.xor_assoc,Nat.xor_assoc,Nat.xor_comm (2^j)]
 |c::l,i+1,j,h,hi,hj=>by
  have hc:c<256:=h c (by simp)
  have ih:=FZ_ l i j (λx hx=>h x (by simp[hx])) (by simpa using hi) hj
  have e:DP (c::l) (i+1) j=c::DP l i j:=by unfold DP;simp
  rw[e,Ko hc,Ko hc,ih,Nat.xor_assoc]
  congr 1
  rw[BG_,show 8*(i+1)+j=8*i+j+8 by omega,Nat.pow_add 2 (8*i+j) 8]
def CA (l:List Nat)(from' mask:Nat):Nat->List Nat
 |0=>l
 |i+1=>if mask/2^i%2=1 then DP (CA l from' mask i) ((from'+i)/8) ((from'+i)%8)else CA l from' mask i
theorem Adj_ (l:List Nat)(i j:Nat):(DP l i j).length=l.length:=by unfold DP;rw[List.length_set]
theorem GZ (l:List Nat)(k m:Nat): ∀i,(CA l k m i).length=l.length
 |0=>rfl
 |i+1=>by
  unfold CA
  split
  ·rw[Adj_,GZ l k m i]
  ·exact GZ l k m i
theorem Ms_ {l:List Nat}(h:Byt l)(i j:Nat)(hj:j<8):Byt (DP l i j):=by
 intro x hx
 unfold DP at hx
 by_cases hi:i<l.length
 ·rcases List.mem_or_eq_of_mem_set hx with hx|hx
  ·exact h x hx
  ·subst hx
   rw[List.getD_eq_getElem?_getD,List.getElem?_eq_getElem hi]
   have h1:l[i]<2^8:=h _ (List.getElem_mem hi)
   have h2:2^j<2^8:=Nat.pow_lt_pow_right (by decide) hj
   exact Nat.xor_lt_two_pow h1 h2
 ·rw[List.set_eq_of_length_le (by omega)]at hx
  exact h x hx
theorem Gt {l:List Nat}(h:Byt l)(k m:Nat): ∀i,Byt (CA l k m i)
 |0=>h
 |i+1=>by
  unfold CA
  split
  ·exact Ms_ (Gt h k m i) _ _ (Nat.mod_lt _ (by decide))
  ·exact Gt h k m i
theorem Aew_ (m i:Nat):m%2^(i+1)=if m/2^i%2=1 then m%2^i^^^2^i else m%2^i:=by
 have e:m%2^(i+1)=m%2^i+2^i*(m/2^i%2):=by rw[Nat.pow_succ,Nat.mod_mul]
 have hx:=Pp (a:=m%2^i) (b:=1) (k:=i) (Nat.mod_lt _ (Nat.two_pow_pos i))
 rw[Nat.one_mul]at hx
 rw[e]
 split
 ·rename_i h
  rw[h,hx,Nat.mul_one]
 ·rename_i h
  rw[show m/2^i%2=0 by omega]
  omega
theorem Fw_ {l:List Nat}(h:Byt l)(k m:Nat): ∀i,k+i<=8*l.length->leN (CA l k m i)=leN l^^^(m%2^i)*2^k
 |0,_=>by
  show leN l=_
  rw[Nat.pow_zero,Nat.mod_one,Nat.zero_mul,Nat.xor_zero]
 |i+1,hi=>by
  have ih:=Fw_ h k m i (by omega)
  unfold CA
  rw[Aew_]
  split
  ·rw[FZ_ _ _ _ (Gt h k m i) (by rw[GZ];omega) (Nat.mod_lt _ (by decide)),ih,Nat.xor_assoc]
   congr 1
   rw[BG_,show 8*((k+i)/8)+(k+i)%8=i+k by omega,Nat.pow_add]
  ·exact ih
theorem XX_ {l:List Nat}{p m:Nat}(hb:Byt l)(hg:GOk l)(hm:m<4294967296)(h0:m≠0)(hp:p+32<=8*l.length): ¬GOk (CA l p m 32):=by
 refine LA_ (m:=m) (k:=p) hb (Gt hb p m 32) (GZ l p m 32) hm h0 ?_ (by omega) (λd hd=>UT d _ (by decide) hd) hg
 rw[Fw_ hb p m 32 hp,Nat.mod_eq_of_lt (show m<2^32 from hm)]
def hiB:Nat->Nat->List Nat
 |0,_=>[]
 |k+1,m=>hiB k (m/128)++[m%128+128]
def BQ (n:Nat):Nat:=if n<128 then 1 else if n<16384 then 2 else if n<2097152 then 3 else if n<268435456 then 4 else 5
def numB (n:Nat):List Nat:=hiB (BQ n-1) (n/128)++[n%128]
def D7:Nat->Nat->List Nat->Option (Nat×List Nat)
 |0,_,_=>none
 |_+1,_,[]=>none
 |k+1,a,c::r=>if 128<=c then D7 k (a*128+c%128) r else if 2147483647<a*128+c%128 then none else some (a*128+c%128,r)
def numR (l:List Nat):Option (Nat×List Nat):=if l.head?=some 128 then none else D7 5 0 l
theorem Du_: ∀k m,(hiB k m).length=k
 |0,_=>rfl
 |k+1,m=>by
  show(hiB k (m/128)++[m%128+128]).length=_
  rw[List.length_append,Du_ k]
  rfl
theorem E6 (n:Nat):1<=BQ n/\BQ n<=5:=by
 unfold BQ
 repeat' split
 all_goals omega
theorem ME (n:Nat):(numB n).length=BQ n:=by
 have:=E6 n
 unfold numB
 rw[List.length_append,Du_]
 show BQ n-1+1=_
 omega
theorem BU_: ∀k m,Byt (hiB k m)
 |0,_=>λx hx=>by cases hx
 |k+1,m=>λx hx=>by
  have hx':x∈hiB k (m/128)++[m%128+128]:=hx
  rcases List.mem_append.1 hx' with h|h
  ·exact BU_ k _ x h
  ·have:x=m%128+128:=by simpa using h
   omega
theorem Ga (n:Nat):Byt (numB n):=λx hx=>by
 unfold numB at hx
 rcases List.mem_append.1 hx with h|h
 ·exact BU_ _ _ x h
 ·have:x=n%128:=by simpa using h
  omega
theorem OS: ∀(k d m:Nat),d<128->m<128^k->hiB (k+1) (d*128^k+m)=(d+128)::hiB k m
 |0,d,m,hd,hm=>by
  have:m=0:=by rw[Nat.pow_zero]at hm;omega
  subst this
  show []++[(d*128^0+0)%128+128]=_
  rw[Nat.pow_zero,Nat.mul_one]
  show [(d+0)%128+128]=_
  rw[show(d+0)%128=d by omega]
  rfl
 |k+1,d,m,hd,hm=>by
  have e:d*128^(k+1)=128*(d*128^k):=by rw[Nat.pow_succ,<-Nat.mul_assoc,Nat.mul_comm]
  have hm':m/128<128^k:=by
   rw[Nat.pow_succ]at hm
   exact Nat.div_lt_of_lt_mul (by rw[Nat.mul_comm];exact hm)
  show hiB (k+1) ((d*128^(k+1)+m)/128)++[(d*128^(k+1)+m)%128+128]=_
  rw[e,show(128*(d*128^k)+m)/128=d*128^k+m/128 by omega,show(128*(d*128^k)+m)%128=m%128 by omega,OS k d _ hd hm']
  rfl
theorem Dl_: ∀(j k a m:Nat) (t:List Nat),j<=k->m<128^j->D7 k a (hiB j m++t)=D7 (k-j) (a*128^j+m) t
 |0,k,a,m,t,_,hm=>by
  have:m=0:=by rw[Nat.pow_zero]at hm;omega
  subst this
  rw[Nat.pow_zero,Nat.mul_one]
  rfl
 |j+1,k,a,m,t,hk,hm=>by
  have hm':m/128<128^j:=by
   rw[Nat.pow_succ]at hm
   exact Nat.div_lt_of_lt_mul (by rw[Nat.mul_comm];exact hm)
  show D7 k a ((hiB j (m/128)++[m%128+128])++t)=_
  rw[List.append_assoc,Dl_ j k a (m/128) _ (by omega) hm']
  obtain⟨q,hq⟩: ∃q,k-j=q+1:=⟨k-j-1,by omega⟩
  have e:a*128^(j+1)=128*(a*128^j):=by rw[Nat.pow_succ,<-Nat.mul_assoc,Nat.mul_comm]
  rw[hq,show k-(j+1)=q by omega,e]
  show(if 128<=m%128+128 then D7 q ((a*128^j+m/128)*128+(m%128+128)%128) t else _)=_
  rw[if_pos (by omega)]
  congr 1
  omega
theorem Gs_ {n:Nat}(h:n<=2147483647):n/128<128^(BQ n-1)/\(2<=BQ n->128^(BQ n-2)<=n/128):=by
 unfold BQ
 repeat' split
 all_goals refine⟨?_,λhh=> ?_⟩
 all_goals first|(simp;omega)|(simp at hh;done)
theorem Xe_ {n:Nat}(h:n<=2147483647)(r:List Nat):(numB n++r).head?≠some 128:=by
 obtain⟨h1,h2⟩:=Gs_ h
 have hb:=E6 n
 unfold numB
 by_cases h3:BQ n=1
 ·rw[h3]
  show some (n%128)≠some 128
  intro e
  have:n%128=128:=by injection e
  omega
 ·obtain⟨k,hk⟩: ∃k,BQ n-1=k+1:=⟨BQ n-2,by omega⟩
  have h4:=h2 (by omega)
  rw[show BQ n-2=k by omega]at h4
  rw[hk]at h1 ⊢
  generalize n/128=m at *
  have hp:0<128^k:=Nat.pow_pos (by decide)
  have e:=Nat.div_add_mod m (128^k)
  have hd0:1<=m/128^k:=(Nat.le_div_iff_mul_le hp).2 (by omega)
  have hd1:m/128^k<128:=Nat.div_lt_of_lt_mul (by rw[Nat.pow_succ]at h1;exact h1)
  have:=OS k (m/128^k) (m%128^k) hd1 (Nat.mod_lt _ hp)
  rw[Nat.mul_comm,e]at this
  rw[this]
  show some (m/128^k+128)≠some 128
  intro e
  have:m/128^k+128=128:=by injection e
  omega
theorem OL_ {n:Nat}(h:n<=2147483647)(r:List Nat):numR (numB n++r)=some (n,r):=by
 obtain⟨h1,_⟩:=Gs_ h
 have hb:=E6 n
 unfold numR
 rw[if_neg (Xe_ h r)]
 unfold numB
 rw[List.append_assoc,Dl_ _ 5 0 _ _ (by omega) h1]
 obtain⟨q,hq⟩: ∃q,5-(BQ n-1)=q+1:=⟨5-(BQ n-1)-1,by omega⟩
 rw[hq,Nat.zero_mul,Nat.zero_add]
 show(if 128<=n%128 then _ else if 2147483647<n/128*128+n%128%128 then none else some (n/128*128+n%128%128,r))=_
 rw[if_neg (by omega),if_neg (by omega)]
 congr 2
 omega
theorem Ei_: ∀(k a:Nat) (l:List Nat) (n:Nat) (r:List Nat),Byt l->D7 k a l=some (n,r)->n<=2147483647/\ ∃j m c,j<k/\m<128^j/\c<128/\l=hiB j m++c::r/\n=(a*128^j+m)*128+c
 |0,_,_,_,_,_,h=>by cases h
 |_+1,_,[],_,_,_,h=>by cases h
 |k+1,a,x::l,n,r,hb,h=>by
  have hx:x<256:=hb x (by simp)
  have h':(if 128<=x then D7 k (a*128+x%128) l else if 2147483647<a*128+x%128 then none else some (a*128+x%128,l))=some (n,r):=h
  by_cases h1:128<=x
  ·rw[if_pos h1]at h'
   obtain⟨g,j,m,c,g1,g2,g3,g4,g5⟩:=Ei_ k _ l n r (λy hy=>hb y (by simp[hy])) h'
   refine⟨g,j+1,x%128*128^j+m,c,by omega, ?_,g3, ?_, ?_⟩
   ·have:x%128*128^j<=127*128^j:=Nat.mul_le_mul_right _ (by omega)
    rw[Nat.pow_succ]
    omega
   ·rw[OS j _ _ (by omega) g2,g4,show x%128+128=x by omega]
    rfl
   ·have e:a*128^(j+1)=a*128*128^j:=by rw[Nat.pow_succ,Nat.mul_comm (128^j),Nat.mul_assoc]
    rw[g5,Nat.add_mul (a*128),e,Nat.add_assoc]
  ·rw[if_neg h1]at h'
   by_cases h2:2147483647<a*128+x%128
   ·rw[if_pos h2]at h'
    cases h'
   ·rw[if_neg h2]at h'
    injection h' with h'
    injection h' with e1 e2
    subst e1 e2
    refine⟨by omega,0,0,x,by omega,by decide,by omega,rfl, ?_⟩
    rw[Nat.pow_zero]
    omega
theorem Xa_ {l r:List Nat}{n:Nat}(hb:Byt l)(h:numR l=some (n,r)):n<=2147483647/\l=numB n++r:=by
 unfold numR at h
 split at h
 ·cases h
 rename_i hh
 obtain⟨g,j,m,c,g1,g2,g3,g4,g5⟩:=Ei_ 5 0 l n r hb h
 refine⟨g, ?_⟩
 rw[Nat.zero_mul,Nat.zero_add]at g5
 have e1:n/128=m:=by omega
 have e2:n%128=c:=by omega
 have hj:BQ n-1=j:=by
  rcases Nat.eq_zero_or_pos j with rfl|hj0
  ·have:m=0:=by rw[Nat.pow_zero]at g2;omega
   unfold BQ
   rw[if_pos (by omega)]
  ·obtain⟨i,rfl⟩: ∃i,j=i+1:=⟨j-1,by omega⟩
   have hlow:128^i<=m:=by
    rcases Nat.lt_or_ge m (128^i)with h0|h0
    ·exfalso
     apply hh
     have:=OS i 0 m (by decide) h0
     rw[Nat.zero_mul,Nat.zero_add]at this
     rw[g4,this]
     rfl
    ·exact h0
   have:i=0\/i=1\/i=2\/i=3:=by omega
   unfold BQ
   rcases this with rfl|rfl|rfl|rfl<;>simp at hlow g2<;>repeat' split
   all_goals omega
 unfold numB
 rw[hj,e1,e2,List.append_assoc]
 exact g4
abbrev Rd:Type:=Option (List Nat)
def rInt (lo hi:Nat):Rd->Nat×Rd
 |none=>(0,none)
 |some r=>match numR r with
  |none=>(0,none)
  |some (n,r')=>if hi<n\/n<lo then(0,none)else(n,some r')
def rID:Rd->List Nat×Rd
 |none=>(List.replicate 16 0,none)
 |some r=>if r.length<16 then(List.replicate 16 0,none)else(r.take 16,some (r.drop 16))
def rH (st:Rd):HdI×Rd:=(((rID st).1,((rInt 0 2147483647 (rID st).2).1:Int),((rInt 1 1024 (rInt 0 2147483647 (rID st).2).2).1:Int)),(rInt 1 1024 (rInt 0 2147483647 (rID st).2).2).2)
def rHs:Nat->Rd->List HdI×Rd
 |0,st=>([],st)
 |_+1,none=>([],none)
 |k+1,some r=>((rH (some r)).1::(rHs k (rH (some r)).2).1,(rHs k (rH (some r)).2).2)
def rPk (st:Rd):(Int×Int×List HdI)×Rd:=
 let a:=rInt 1 999999 st
 let b:=rInt 0 65536 a.2
 let c:=rInt 0 20000 b.2
 let d:=rHs c.1 c.2
 (((a.1:Int),(b.1:Int),d.1),d.2)
def rPs:Nat->Rd->List (Int×Int×List HdI)×Rd
 |0,st=>([],st)
 |_+1,none=>([],none)
 |k+1,some r=>((rPk (some r)).1::(rPs k (rPk (some r)).2).1,(rPs k (rPk (some r)).2).2)
def rAll (l:List Nat):List (Int×Int×List HdI)×Rd:=rPs (rInt 0 500 (some l)).1 (rInt 0 500 (some l)).2
def encH (h:HdI):List Nat:=h.1++(numB h.2.1.toNat++numB h.2.2.toNat)
def BT:List HdI->List Nat
 |[]=>[]
 |h::l=>encH h++BT l
def encP (p:Int×Int×List HdI):List Nat:=numB p.1.toNat++(numB p.2.1.toNat++(numB p.2.2.length++BT p.2.2))
def CP:List (Int×Int×List HdI)->List Nat
 |[]=>[]
 |p::l=>encP p++CP l
def Cf (l:List (Int×Int×List HdI)):List Nat:=numB l.length++CP l
theorem Gy {lo hi n:Nat}(h1:lo<=n)(h2:n<=hi)(h3:hi<=2147483647)(r:List Nat):rInt lo hi (some (numB n++r))=(n,some r):=by
 unfold rInt
 simp only[OL_ (show n<=2147483647 by omega) r]
 rw[if_neg (by omega)]
def okH (h:HdI):Prop:=h.1.length=16/\0<=h.2.1/\h.2.1<=2147483647/\1<=h.2.2/\h.2.2<=1024
def okP (p:Int×Int×List HdI):Prop:=1<=p.1/\p.1<=999999/\0<=p.2.1/\p.2.1<=65536/\p.2.2.length<=20000/\ ∀h∈p.2.2,okH h
theorem XC_ {h:HdI}(k:okH h)(r:List Nat):rH (some (encH h++r))=(h,some r):=by
 obtain⟨h1,h2,h3,h4,h5⟩:=k
 have e1:rID (some (encH h++r))=(h.1,some (numB h.2.1.toNat++(numB h.2.2.toNat++r))):=by
  unfold rID encH
  simp only
  rw[if_neg (by simp only[List.length_append];omega),List.append_assoc,List.take_left' h1,List.drop_left' h1,List.append_assoc]
 have e2:rInt 0 2147483647 (some (numB h.2.1.toNat++(numB h.2.2.toNat++r)))=(h.2.1.toNat,some (numB h.2.2.toNat++r)):=Gy (by omega) (by omega) (by omega) _
 have e3:rInt 1 1024 (some (numB h.2.2.toNat++r))=(h.2.2.toNat,some r):=Gy (by omega) (by omega) (by omega) _
 unfold rH
 rw[e1]
 simp only
 rw[e2]
 simp only
 rw[e3]
 simp only
 rw[Int.toNat_of_nonneg h2,Int.toNat_of_nonneg (show 0<=h.2.2 by omega)]
theorem Iy_: ∀(l:List HdI) (r:List Nat),(∀h∈l,okH h)->rHs l.length (some (BT l++r))=(l,some r)
 |[],_,_=>rfl
 |h::l,r,k=>by
  show rHs (l.length+1) (some ((encH h++BT l)++r))=_
  rw[List.append_assoc]
  show((rH _).1::(rHs l.length (rH _).2).1,(rHs l.length (rH _).2).2)=_
  rw[XC_ (k h (by simp)),Iy_ l r λx hx=>k x (by simp[hx])]
theorem RX_ {p:Int×Int×List HdI}(k:okP p)(r:List Nat):rPk (some (encP p++r))=(p,some r):=by
 obtain⟨h1,h2,h3,h4,h5,h6⟩:=k
 have e1:rInt 1 999999 (some (encP p++r))=(p.1.toNat,some (numB p.2.1.toNat++(numB p.2.2.length++(BT p.2.2++r)))):=by
  unfold encP
  rw[List.append_assoc,List.append_assoc,List.append_assoc]
  exact Gy (by omega) (by omega) (by omega) _
 have e2:rInt 0 65536 (some (numB p.2.1.toNat++(numB p.2.2.length++(BT p.2.2++r))))=(p.2.1.toNat,some (numB p.2.2.length++(BT p.2.2++r))):=Gy (by omega) (by omega) (by omega) _
 have e3:rInt 0 20000 (some (numB p.2.2.length++(BT p.2.2++r)))=(p.2.2.length,some (BT p.2.2++r)):=Gy (by omega) (by omega) (by omega) _
 unfold rPk
 simp only[e1,e2,e3,Iy_ _ r h6]
 rw[Int.toNat_of_nonneg (show 0<=p.1 by omega),Int.toNat_of_nonneg h3]
theorem Bo_: ∀(l:List (Int×Int×List HdI)) (r:List Nat),(∀p∈l,okP p)->rPs l.length (some (CP l++r))=(l,some r)
 |[],_,_=>rfl
 |p::l,r,k=>by
  show rPs (l.length+1) (some ((encP p++CP l)++r))=_
  rw[List.append_assoc]
  show((rPk _).1::(rPs l.length (rPk _).2).1,(rPs l.length (rPk _).2).2)=_
  rw[RX_ (k p (by simp)),Bo_ l r λx hx=>k x (by simp[hx])]
theorem Aax_ {l:List (Int×Int×List HdI)}(hl:l.length<=500)(k: ∀p∈l,okP p):rAll (Cf l)=(l,some []):=by
 unfold rAll Cf
 rw[Gy (Nat.zero_le _) hl (by omega)]
 simp only
 have:=Bo_ l [] k
 rwa [List.append_nil]at this
theorem FZ {lo hi n:Nat}{l r:List Nat}(hb:Byt l)(h:rInt lo hi (some l)=(n,some r)):lo<=n/\n<=hi/\l=numB n++r:=by
 unfold rInt at h
 simp only at h
 split at h
 ·cases h
 ·rename_i m r' e
  split at h
  ·cases h
  ·injection h with e1 e2
   injection e2 with e2
   subst e1 e2
   exact⟨by omega,by omega,(Xa_ hb e).2⟩
theorem M7 {lo hi n:Nat}{st:Rd}{r:List Nat}(h:rInt lo hi st=(n,some r)): ∃l,st=some l:=by
 cases st with
 |none=>cases h
 |some l=>exact⟨l,rfl⟩
theorem EO {a b:List Nat}(h:Byt (a++b)):Byt b:=λx hx=>h x (List.mem_append_right _ hx)
theorem Xm {l r:List Nat}{h:HdI}(hb:Byt l)(e:rH (some l)=(h,some r)):okH h/\l=encH h++r:=by
 unfold rH at e
 injection e with e1 e2
 obtain⟨st1,h1⟩: ∃x,rID (some l)=x:=⟨_,rfl⟩
 obtain⟨x1,h2⟩: ∃x,rInt 0 2147483647 (rID (some l)).2=x:=⟨_,rfl⟩
 obtain⟨x2,h3⟩: ∃x,rInt 1 1024 (rInt 0 2147483647 (rID (some l)).2).2=x:=⟨_,rfl⟩
 rw[h3,h2]at e1
 rw[h3]at e2
 obtain⟨b,rb⟩:=x2
 simp only at e2
 subst e2
 obtain⟨l2,e3⟩:=M7 h3
 rw[h2]at e3
 obtain⟨a,ra⟩:=x1
 simp only at e3
 subst e3
 obtain⟨l1,e4⟩:=M7 h2
 unfold rID at e4
 simp only at e4
 by_cases hl:l.length<16
 ·rw[if_pos hl]at e4
  cases e4
 ·rw[if_neg hl]at e4
  injection e4 with e4
  have hb1:Byt l1:=λy hy=>hb y (List.mem_of_mem_drop (by rw[e4];exact hy))
  have hid:rID (some l)=(l.take 16,some l1):=by
   unfold rID
   simp only
   rw[if_neg hl,e4]
  rw[hid]at h2 e1
  simp only at h2 e1
  rw[hid]at h3
  simp only at h3
  rw[h2]at h3
  simp only at h3
  obtain⟨_,g1,g2⟩:=FZ hb1 h2
  have hb2:Byt l2:=EO (a:=numB a) (by rw[<-g2];exact hb1)
  obtain⟨g3,g4,g5⟩:=FZ hb2 h3
  subst e1
  refine⟨⟨?_, ?_, ?_, ?_, ?_⟩, ?_⟩
  ·show(l.take 16).length=16
   rw[List.length_take]
   omega
  ·show(0:Int)<=(a:Nat)
   omega
  ·show((a:Nat):Int)<=2147483647
   omega
  ·show(1:Int)<=(b:Nat)
   omega
  ·show((b:Nat):Int)<=1024
   omega
  ·unfold encH
   show l=(l.take 16++(numB ((a:Nat):Int).toNat++numB ((b:Nat):Int).toNat))++r
   rw[Int.toNat_natCast,Int.toNat_natCast,List.append_assoc,List.append_assoc,<-g5,<-g2,<-e4,List.take_append_drop]
theorem GV_: ∀(k:Nat) (st:Rd) (hs:List HdI) (r:List Nat),(∀l,st=some l->Byt l)->rHs k st=(hs,some r)-> ∃l,st=some l/\hs.length=k/\(∀h∈hs,okH h)/\l=BT hs++r
 |0,st,hs,r,hb,e=>by
  injection e with e1 e2
  subst e1 e2
  exact⟨r,rfl,rfl,λh hh=>(by cases hh),rfl⟩
 |k+1,none,hs,r,hb,e=>by cases e
 |k+1,some l,hs,r,hb,e=>by
  have e':((rH (some l)).1::(rHs k (rH (some l)).2).1,(rHs k (rH (some l)).2).2)=(hs,some r):=e
  injection e' with e1 e2
  obtain⟨⟨h,st⟩,hh⟩: ∃x,rH (some l)=x:=⟨_,rfl⟩
  rw[hh]at e1 e2
  simp only at e1 e2
  have hb0:=hb l rfl
  have hbs: ∀l',st=some l'->Byt l':=λl' es=>by
   subst es
   have g:=Xm hb0 hh
   exact EO (a:=encH h) (by rw[<-g.2];exact hb0)
  obtain⟨l1,g1,g2,g3,g4⟩:=GV_ k st (rHs k st).1 r hbs (by rw[<-e2])
  subst g1
  obtain⟨g5,g6⟩:=Xm hb0 hh
  subst e1
  refine⟨l,rfl,by rw[List.length_cons,g2],λx hx=> ?_, ?_⟩
  ·rcases List.mem_cons.1 hx with rfl|hx
   ·exact g5
   ·exact g3 x hx
  ·show l=(encH h++BT (rHs k (some l1)).1)++r
   rw[List.append_assoc,<-g4,<-g6]
theorem FU_ {l r:List Nat}{p:Int×Int×List HdI}(hb:Byt l)(e:rPk (some l)=(p,some r)):okP p/\l=encP p++r:=by
 unfold rPk at e
 obtain⟨⟨a,sa⟩,ha⟩: ∃x,rInt 1 999999 (some l)=x:=⟨_,rfl⟩
 obtain⟨⟨b,sb⟩,hb'⟩: ∃x,rInt 0 65536 sa=x:=⟨_,rfl⟩
 obtain⟨⟨c,sc⟩,hc⟩: ∃x,rInt 0 20000 sb=x:=⟨_,rfl⟩
 simp only[ha,hb',hc]at e
 injection e with e1 e2
 have hsc: ∃lc,sc=some lc:=by
  cases sc with
  |some lc=>exact⟨lc,rfl⟩
  |none=>cases c<;>cases e2
 obtain⟨lc,rfl⟩:=hsc
 obtain⟨lb,rfl⟩:=M7 hc
 obtain⟨la,rfl⟩:=M7 hb'
 obtain⟨a1,a2,a3⟩:=FZ hb ha
 have hba:Byt la:=EO (a:=numB a) (by rw[<-a3];exact hb)
 obtain⟨b1,b2,b3⟩:=FZ hba hb'
 have hbb:Byt lb:=EO (a:=numB b) (by rw[<-b3];exact hba)
 obtain⟨c1,c2,c3⟩:=FZ hbb hc
 have hbc:Byt lc:=EO (a:=numB c) (by rw[<-c3];exact hbb)
 obtain⟨l',g1,g2,g3,g4⟩:=GV_ c (some lc) (rHs c (some lc)).1 r (λl' e=>by injection e with e;subst e;exact hbc) (by rw[<-e2])
 injection g1 with g1
 subst g1
 subst e1
 refine⟨⟨?_, ?_, ?_, ?_, ?_,g3⟩, ?_⟩
 ·show(1:Int)<=(a:Nat)
  omega
 ·show((a:Nat):Int)<=999999
  omega
 ·show(0:Int)<=(b:Nat)
  omega
 ·show((b:Nat):Int)<=65536
  omega
 ·show(rHs c (some lc)).1.length<=20000
  omega
 ·unfold encP
  show l=(numB ((a:Nat):Int).toNat++(numB ((b:Nat):Int).toNat++(numB (rHs c (some lc)).1.length++BT (rHs c (some lc)).1)))++r
  rw[Int.toNat_natCast,Int.toNat_natCast,g2,List.append_assoc,List.append_assoc,List.append_assoc,<-g4,<-c3,<-b3,<-a3]
theorem CY_: ∀(k:Nat) (st:Rd) (ps:List (Int×Int×List HdI)) (r:List Nat),(∀l,st=some l->Byt l)->rPs k st=(ps,some r)-> ∃l,st=some l/\ps.length=k/\l=CP ps++r
 |0,st,ps,r,hb,e=>by
  injection e with e1 e2
  subst e1 e2
  exact⟨r,rfl,rfl,rfl⟩
 |k+1,none,ps,r,hb,e=>by cases e
 |k+1,some l,ps,r,hb,e=>by
  have e':((rPk (some l)).1::(rPs k (rPk (some l)).2).1,(rPs k (rPk (some l)).2).2)=(ps,some r):=e
  injection e' with e1 e2
  obtain⟨⟨p,st⟩,hh⟩: ∃x,rPk (some l)=x:=⟨_,rfl⟩
  rw[hh]at e1 e2
  simp only at e1 e2
  have hb0:=hb l rfl
  have hbs: ∀l',st=some l'->Byt l':=λl' es=>by
   subst es
   have g:=FU_ hb0 hh
   exact EO (a:=encP p) (by rw[<-g.2];exact hb0)
  obtain⟨l1,g1,g2,g4⟩:=CY_ k st (rPs k st).1 r hbs (by rw[<-e2])
  subst g1
  obtain⟨_,g6⟩:=FU_ hb0 hh
  subst e1
  refine⟨l,rfl,by rw[List.length_cons,g2], ?_⟩
  show l=(encP p++CP (rPs k (some l1)).1)++r
  rw[List.append_assoc,<-g4,<-g6]
theorem AdR_ {l:List Nat}{ps:List (Int×Int×List HdI)}(hb:Byt l)(e:rAll l=(ps,some [])):l=Cf ps:=by
 unfold rAll at e
 obtain⟨⟨c,sc⟩,hc⟩: ∃x,rInt 0 500 (some l)=x:=⟨_,rfl⟩
 rw[hc]at e
 have hbs: ∀l',sc=some l'->Byt l':=λl' es=>by
  subst es
  have g:=FZ hb hc
  exact EO (a:=numB c) (by rw[<-g.2.2];exact hb)
 obtain⟨l1,g1,g2,g4⟩:=CY_ c sc ps [] hbs e
 subst g1
 obtain⟨_,_,g5⟩:=FZ hb hc
 unfold Cf
 rw[g2,g5,g4,List.append_nil]
end Go.Proofs.Ytofanlcjeohcjaa.Am
