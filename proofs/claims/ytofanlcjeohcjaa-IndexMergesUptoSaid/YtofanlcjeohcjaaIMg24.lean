import Derived.Test.YtofanlcjeohcjaaIMg23
namespace Go.Proofs.Ytofanlcjeohcjaa.Am
open Go.RowKit
theorem HsR.ext0 {F:Nat->Prop}{s s':St}{v:Value}{hs:List Hd}(h:HsR s v hs)(e:Ext F Non s s'):HsR s' v hs:=by
 rcases h with h|⟨b,o,c,h0,h3⟩
 ·exact .inl h
 ·exact .inr ⟨b,o,c,h0,h3.ext e λ_ _=>id⟩
theorem Es.hsR {s s':St}{v:Value}{hs:List Hd}(h:Es s s' v hs):HsR s' v hs:=by
 rcases h with h|⟨b,_,h,_⟩
 ·exact .inl h
 ·exact .inr ⟨b,0,_,h.val,λi u e=>(h.own i u e).at'⟩
theorem Es.new {s s':St}{v:Value}{hs:List Hd}(h:Es s s' v hs): ∀x,HsF v x->s.next<=x:=by
 intro x hx
 rcases h with⟨rfl,_⟩|⟨b,h1,h,_⟩
 ·exact hx.elim
 ·rw[h.val]at hx
  have:=hx.1
  show s.next<=x
  have h2:b+0<=x:=hx.1
  omega
section
variable {parts:List (Value×List Nat)}{b o c:Nat}
end
section
variable {parts:List (Value×List Nat)}{b o c:Nat}
end
def Em:List (List Nat)->List Nat
 |[]=>[]
 |b::l=>recB b++Em l
def PJ:Nat->List (List Nat)->List Nat
 |_,[]=>[]
 |k,b::l=>(k+(recB b).length)::PJ (k+(recB b).length) l
def Ox:Nat->List (List Nat)->List Hd
 |_,[]=>[]
 |k,b::l=>(idB b,k,b.length)::Ox (k+(recB b).length) l
def AS_ (l:List Nat):List Value:=l.map λn=> .int .i64 (n:Nat)
section
variable {parts:List (Value×List Nat)}{b o c:Nat}
def chs (parts:List (Value×List Nat))(i:Nat):List (List Nat):=(parts.take i).map (·.2)
structure AlI (s0:St)(parts:List (Value×List Nat))(b o c i:Nat)(tm:T Value)(s:St)(vb ve vh:Value)(b1 b2 b3:Nat):Prop where
 t0:T.get tm 0=some (.slice (some ⟨b,o,none⟩) parts.length c)
 t6:T.get tm 6=some vb
 t7:T.get tm 7=some ve
 t8:T.get tm 8=some vh
 t11:T.get tm 11=some (.int .i64 (i:Nat))
 mb:MkS s 1 (Em (chs parts i)).length (u8l (Em (chs parts i))) vb b1
 me:MkS s 1 i (AS_ (PJ 0 (chs parts i))) ve b2
 mh:MkS s 18 i (AV (Ox 0 (chs parts i))) vh b3
 n1:s0.next<=b1
 n2:s0.next<=b2
 n3:s0.next<=b3
 d12: ∀x,MkF 1 (Em (chs parts i)).length b1 x-> ¬MkF 1 i b2 x
 d13: ∀x,MkF 1 (Em (chs parts i)).length b1 x-> ¬MkF 18 i b3 x
 d23: ∀x,MkF 1 i b2 x-> ¬MkF 18 i b3 x
 sm: ∀p∈parts.take i,1<=p.2.length/\p.2.length<=1024
theorem UZ_ {id:List Nat}(h:id.length=16)(a b:Nat)(s:St)(Q:Value->St->Prop):W (Bj envS 35 [(0, .agg (u8l id).toArray),(1, .int .i64 (a:Nat)),(2, .int .i64 (b:Nat))]) s Q=Q (.agg (A2 (id,a,b)).toArray) s:=CA (DG_ h a b) Q
end
structure RecAt (t:List Nat)(k:Nat)(b:List Nat):Prop where
 n:AE t k=b.length
 ok:Ct t k=true
 len:k+26+b.length<=t.length
 rok:BR t k=true
 good:Bt t k b.length=true
 id:Bu t k b.length=idB b
 body:BM t k b.length=b
def crc1 (n:Nat):Nat:=if n%2=1 then n/2^^^3988292384 else n/2
def crcN:Nat->Nat->Nat
 |0,n=>n
 |k+1,n=>crcN k (crc1 n)
theorem Qm: ∀(k n:Nat),crc8 n k=crcN k n
 |0,n=>rfl
 |k+1,n=>by
  unfold crc8 crcN crc1
  split
  ·exact Qm k _
  ·exact Qm k _
theorem NG_ (a b:Nat):crc1 (a^^^b)=crc1 a^^^crc1 b:=by
 have hd:(a^^^b)/2=a/2^^^b/2:=by
  have h:=Nat.shiftRight_xor_distrib (a:=a) (b:=b) (i:=1)
  rw[Nat.shiftRight_eq_div_pow,Nat.shiftRight_eq_div_pow,Nat.shiftRight_eq_div_pow]at h
  exact h
 have hm:(a^^^b)%2=(a%2+b%2)%2:=by
  rw[<-Nat.pow_one 2,Nat.xor_mod_two_pow]
  rcases Nat.mod_two_eq_zero_or_one a with h|h<;>rcases Nat.mod_two_eq_zero_or_one b with h'|h'<;>simp[h,h']
 unfold crc1
 rw[hd,hm]
 have e: ∀x y z:Nat,x^^^z^^^(y^^^z)=x^^^y:=λx y z=>by
  rw[Nat.xor_comm y z,Nat.xor_assoc,<-Nat.xor_assoc z z y,Nat.xor_self,Nat.zero_xor]
 rcases Nat.mod_two_eq_zero_or_one a with h|h<;>rcases Nat.mod_two_eq_zero_or_one b with h'|h'<;>rw[h,h']<;>simp -implicitDefEqProofs only[Nat.reduceAdd,Nat.reduceMod,Nat.zero_ne_one,if_true,if_false]
 ·rw[Nat.xor_assoc]
 ·rw[Nat.xor_assoc,Nat.xor_comm (b/2),<-Nat.xor_assoc]
 ·rw[e]
theorem MB_: ∀(k a b:Nat),crcN k (a^^^b)=crcN k a^^^crcN k b
 |0,_,_=>rfl
 |k+1,a,b=>by
  show crcN k (crc1 (a^^^b))=crcN k (crc1 a)^^^crcN k (crc1 b)
  rw[NG_,MB_ k]
theorem GK_: ∀(j k n:Nat),crcN (j+k) n=crcN k (crcN j n)
 |0,k,n=>by rw[Nat.zero_add];rfl
 |j+1,k,n=>by
  rw[Nat.succ_add]
  exact GK_ j k _
theorem ER_: ∀(k n:Nat),crcN k (n*2^k)=n
 |0,n=>by rw[Nat.pow_zero,Nat.mul_one];rfl
 |k+1,n=>by
  show crcN k (crc1 (n*2^(k+1)))=n
  have e:n*2^(k+1)=2*(n*2^k):=by rw[Nat.pow_succ];rw[<-Nat.mul_assoc,Nat.mul_comm]
  unfold crc1
  rw[e,Nat.mul_mod_right,if_neg (by decide),Nat.mul_div_cancel_left _ (by decide)]
  exact ER_ k n
theorem AaS_ {n:Nat}(h:n<4294967296):crc1 n<4294967296:=by
 unfold crc1
 split
 ·exact Nat.xor_lt_two_pow (n:=32) (show n/2<2^32 by omega) (by decide)
 ·omega
theorem AjW_ {a b k:Nat}(h:a<2^k):a^^^b*2^k=a+b*2^k:=by
 apply Nat.eq_of_testBit_eq
 intro i
 rw[Nat.testBit_xor,Nat.add_comm,Nat.mul_comm b,Nat.testBit_two_pow_mul_add _ h,Nat.testBit_two_pow_mul]
 by_cases hi:i<k
 ·rw[if_pos hi]
  simp[show ¬k<=i by omega]
 ·rw[if_neg hi,Nat.testBit_lt_two_pow (Nat.lt_of_lt_of_le h (Nat.pow_le_pow_right (by decide) (by omega)))]
  simp[show k<=i by omega]
theorem AdW_ (n c:Nat):ES n c=crcN 8 (n^^^c):=by
 have e:n=n%256^^^n/256*2^8:=by
  rw[AjW_ (k:=8) (Nat.mod_lt _ (by decide))]
  omega
 have e2:n^^^c=(n%256^^^c)^^^n/256*2^8:=by
  conv=>lhs;rw[e]
  rw[Nat.xor_assoc,Nat.xor_comm _ c,<-Nat.xor_assoc]
 rw[e2,MB_,ER_]
 unfold ES crcT
 rw[Qm]
theorem Fs_: ∀(k:Nat) {n:Nat},n<4294967296->crcN k n<4294967296
 |0,_,h=>h
 |k+1,_,h=>Fs_ k (AaS_ h)
theorem Wr_ (k n:Nat):crcN (k+1) n=crc1 (crcN k n):=GK_ k 1 n
theorem Ajq_ (x d:Nat):(if((x^^^d)%2=d%2)then(x^^^d)>>>1 else(x^^^d)>>>1^^^3988292384)=crc1 x^^^d>>>1:=by
 have hp:(x^^^d)%2=(x%2+d%2)%2:=by
  rw[<-Nat.pow_one 2,Nat.xor_mod_two_pow]
  rcases Nat.mod_two_eq_zero_or_one x with h|h<;>rcases Nat.mod_two_eq_zero_or_one d with h'|h'<;>simp[h,h']
 have hs:(x^^^d)>>>1=x>>>1^^^d>>>1:=Nat.shiftRight_xor_distrib
 have h1:x>>>1=x/2:=Nat.shiftRight_eq_div_pow x 1
 unfold crc1
 rw[hp,hs,h1]
 by_cases hx:x%2=1
 ·rw[if_neg (by omega),if_pos hx,Nat.xor_assoc,Nat.xor_assoc,Nat.xor_comm (d>>>1)]
 ·rw[if_pos (by omega),if_neg hx]
theorem VC_ {n c:Nat}(hc:c<256):crcN 8 (n^^^c)^^^c>>>8=ES n c:=by
 have h:c>>>8=0:=by rw[Nat.shiftRight_eq_div_pow];omega
 rw[h,Nat.xor_zero,AdW_]
theorem Ty:hasT envS 5=true:=by kernel_rfl
theorem CR_:intK envS 51=some .u32:=by kernel_rfl
section
variable {s:St}{E:Env}{t:Nat}{xo yo:Operand}
theorem Acb_ {k kk:IntKind}{m:Nat}(hn:1<=btOf k)(Q:Value->St->Prop):W (Cl.get (aBin E .shr t xo yo) (.int k (m:Nat)) (.int kk 1)) s Q=Q (.int k (m>>>1:Nat)) s:=Fk (n:=1) hn Q
theorem Agv_ {m:Nat}(h:m^^^3988292384<4294967296)(Q:Value->St->Prop):W (Cl.get (aBin E .xor t xo yo) (.int .u32 (m:Nat)) (.int .u32 3988292384)) s Q=Q (.int .u32 (m^^^3988292384:Nat)) s:=Pr_ (n:=3988292384) h Q
end
theorem JR {x:Nat}(h:x<4294967296)(k:Nat):x>>>k<4294967296:=Nat.lt_of_le_of_lt (Nat.shiftRight_le x k) h
theorem PS_ {b o cc len i c R:Nat}{F:Nat->Prop}{Q:Value×FrameMode->St->Prop}{s0:St}(hb0:s0.lim<=s0.next)(hat:At s0 b (o+i*1) (.int .u8 (c:Nat)))(hF:F (b+(o+i*1)))(hil:i<len)(hc:c<256)(hR:R<4294967296): ∀(k j n:Nat) (tm:T Value) (s:St) (td:List Item),j+k=8->12*k+20<=n->skim 64 td=I8->Ext F Non s0 s->s.mem=s0.mem->s.next=s0.next->
  T.get tm 0=some (.slice (some ⟨b,o,none⟩) len cc)->T.get tm 3=some (.int .u32 (crcN j (R^^^c)^^^c>>>j:Nat))->T.get tm 4=some (.int .i64 (i:Nat))->T.get tm 5=some (.int .i64 (j:Nat))->
  (∀n' tm' s1 td',n<=n'+12*k+10->skim 64 td'=Pg->Ext F Non s0 s1->s1.mem=s0.mem->s1.next=s0.next->T.get tm' 0=some (.slice (some ⟨b,o,none⟩) len cc)->T.get tm' 3=some (.int .u32 (ES R c:Nat))->T.get tm' 4=some (.int .i64 (i:Nat))->W (runF envS n' ⟨108,KK,Cb,tm',td', .run, .normal,none⟩) s1 Q)->
  W (runF envS n ⟨108,KK,Cb,tm,td, .run, .normal,none⟩) s Q:=by
 intro k
 induction k with
 |zero=>
  intro j n tm s td hj hn hT hx hm hnx h0 h3 h4 h5 q
  obtain rfl:j=8:=by omega
  rw[VC_ hc]at h3
  refine Gj_.u ?_ hT
  simp only[Ob,RR,SS,h5]
  simp only[Ak,show decide (((8:Nat):Int)<8)=false from rfl]
  refine aH BX_ ?_
  exact q _ _ _ _ (by omega) rfl hx hm hnx (by simp[T.get_set,h0]) (by simp[T.get_set,h3]) (by simp[T.get_set,h4])
 |succ k ih=>
  intro j n tm s td hj hn hT hx hm hnx h0 h3 h4 h5 q
  have hRc:R^^^c<4294967296:=Sha.xor_lt hR (by omega)
  have hxl:crcN j (R^^^c)<4294967296:=Fs_ j hRc
  have hdl:c>>>j<4294967296:=JR (by omega) j
  have hst:=Ajq_ (crcN j (R^^^c)) (c>>>j)
  rw[<-Wr_,<-Nat.shiftRight_add]at hst
  have hyl:crcN j (R^^^c)^^^c>>>j<4294967296:=Sha.xor_lt hxl hdl
  generalize hy:crcN j (R^^^c)^^^c>>>j=y at *
  refine Gj_.u ?_ hT
  simp only[Ob,RR,SS,h5]
  simp only[Ak,show decide (((j:Nat):Int)<8)=true from decide_eq_true (by omega)]
  refine aI BX_ ?_
  refine AiG_.u ?_
  simp only[ZN,RR,SS,Nat.reduceEqDiff,reduceCtorEq, ↓reduceIte,h0,h3,h4,h5,Al_,AL Al hil]
  refine aB Cd (hat.same hm hnx) ?_
  simp only[Fk (k:= .u8) (show j<=btOf .u8 by show j<=8;omega),Cu Ty CR_,wrap_u32,Nat.mod_eq_of_lt hdl,Al_,AjJ_]
  have hx1:Ext F Non s0 (s.rdN (b+(o+i*1))):=hx.trans (Ext.rdN (F:=F) s _ λ_=>hF) hb0 (λ_ _ h=>h) λ_ _ h=>h
  refine Abx_.u ?_
  simp only[Wu,RR,SS,Nat.reduceEqDiff, ↓reduceIte,h3,Acb_ (k:= .u32) (show 1<=btOf .u32 by decide)]
  refine AbI_.u ?_
  simp only[IK_,RR,SS,Nat.reduceEqDiff, ↓reduceIte]
  have ej:wrap64 ((j:Nat)+1:Int)=((j+1:Nat):Int):=by
   rw[Ax (by omega) (by omega)];simp
  by_cases he:y%2=(c>>>j)%2
  ·rw[if_pos he]at hst
   refine aH Mh_ ?_ rfl (by simp[T.get_set,he])
   refine Un.u ?_
   simp only[OK,RR,SS,Nat.reduceEqDiff, ↓reduceIte,Aw,h5,ej]
   exact ih (j+1) _ _ _ _ (by omega) (by omega) EN_ hx1 hm hnx (by simp[T.get_set,h0]) (by simp[T.get_set,hst]) (by simp[T.get_set,h4]) (by simp[T.get_set]) λn' tm' s1 td' e=>q n' tm' s1 td' (by omega)
  ·rw[if_neg he]at hst
   refine aI Mh_ ?_ rfl (by simp[T.get_set,he])
   refine PQ_.u ?_
   have hz:y>>>1^^^3988292384<4294967296:=Sha.xor_lt (JR hyl 1) (by decide)
   simp only[S0,RR,SS,Nat.reduceEqDiff, ↓reduceIte,Agv_ hz]
   refine Un.u ?_ Acr_
   simp only[OK,RR,SS,Nat.reduceEqDiff, ↓reduceIte,Aw,h5,ej]
   exact ih (j+1) _ _ _ _ (by omega) (by omega) EN_ hx1 hm hnx (by simp[T.get_set,h0]) (by simp[T.get_set,hst]) (by simp[T.get_set,h4]) (by simp[T.get_set]) λn' tm' s1 td' e=>q n' tm' s1 td' (by omega)
theorem Adv_ {b o cc:Nat}{l:List Nat}{F:Nat->Prop}{Q:Value×FrameMode->St->Prop}{s0:St}(hb0:s0.lim<=s0.next)(hrow:Row s0 b o (u8l l))(hF: ∀x,In b o l.length x->F x)(hl:Byt l)(hz:l.length<=1000000): ∀(k i n:Nat) (tm:T Value) (s:St) (td:List Item),i+k=l.length->120*k+20<=n->skim 64 td=Jp->Ext F Non s0 s->s.mem=s0.mem->s.next=s0.next->
  T.get tm 0=some (.slice (some ⟨b,o,none⟩) l.length cc)->T.get tm 3=some (.int .u32 (crcs 4294967295 (l.take i):Nat))->T.get tm 4=some (.int .i64 (i:Nat))->
  (∀n' tm' s1 td',n<=n'+120*k+10->skim 64 td'=Qu->Ext F Non s0 s1->s1.mem=s0.mem->s1.next=s0.next->T.get tm' 3=some (.int .u32 (crcs 4294967295 l:Nat))->W (runF envS n' ⟨108,KK,Cb,tm',td', .run, .normal,none⟩) s1 Q)->
  W (runF envS n ⟨108,KK,Cb,tm,td, .run, .normal,none⟩) s Q:=by
 intro k
 induction k with
 |zero=>
  intro i n tm s td hi hn hT hx hm hnx h0 h3 h4 q
  refine BS_.u ?_ hT
  simp only[RW,RR,SS,Ak,h0,h4,AP Al]
  refine aH WQ ?_
  rw[show i=l.length by omega,List.take_length]at h3
  exact q _ _ _ _ (by omega) rfl hx hm hnx (by simp[T.get_set,h3])
 |succ k ih=>
  intro i n tm s td hi hn hT hx hm hnx h0 h3 h4 q
  have hil:i<l.length:=by omega
  refine BS_.u ?_ hT
  simp only[RW,RR,SS,Ak,h0,h4,AP Al]
  refine aI WQ ?_
  refine Ahd_.u ?_
  simp only[Xf,RR,SS]
  have hc:l[i]<256:=hl _ (List.getElem_mem hil)
  have hR:crcs 4294967295 (l.take i)<4294967296:=LV _ _ (by decide) λc hc=>hl c (List.mem_of_mem_take hc)
  have hat:At s0 b (o+i*1) (.int .u8 (l[i]:Nat)):=by
   rw[Nat.mul_one]
   exact hrow i _ (by unfold u8l;rw[List.getElem?_map,List.getElem?_eq_getElem hil];rfl)
  refine PS_ (c:=l[i]) (R:=crcs 4294967295 (l.take i)) (cc:=cc) hb0 hat (hF _ ⟨by omega,by omega⟩) hil hc hR 8 0 _ _ _ _ (by omega) (by omega) rfl hx hm hnx (by simp[T.get_set,h0]) ?_ (by simp[T.get_set,h4]) (by simp[T.get_set]) λn1 tm1 s1 td1 hn1 hT1 hx1 hm1 hnx1 g0 g3 g4=> ?_
  ·have e:crcN 0 (crcs 4294967295 (l.take i)^^^l[i])^^^l[i]>>>0=crcs 4294967295 (l.take i):=by
    show(crcs 4294967295 (l.take i)^^^l[i])^^^l[i]=_
    rw[Nat.xor_assoc,Nat.xor_self,Nat.xor_zero]
   rw[e]
   simp[T.get_set,h3]
  have ei:=eiW (i:=i) (by omega)
  refine Tv_.u ?_ hT1
  simp only[UJ,RR,SS,Aw,g4,ei]
  rw[<-Ce_ 4294967295 l i hil]at g3
  exact ih (i+1) _ _ _ _ (by omega) (by omega) Ahy_ hx1 hm1 hnx1 (by simp[T.get_set,g0]) (by simp[T.get_set,g3]) (by simp[T.get_set]) λn' tm' s2 td' e=>q n' tm' s2 td' (by omega)
theorem Ym {n:Nat}{s:St}{v:Value}{l:List Nat}{Q:Value->St->Prop}(hbd:s.lim<=s.next)(hn:120*l.length+60<=n)(h:Bn s v l)(hl:Byt l)(hz:l.length<=1000000)
  (q: ∀s1,s1.mem=s.mem->s1.next=s.next->Ext (BsF v) Non s s1->Q (.int .u32 (BX 0 l:Nat)) s1):W (Ab envS (runF envS n) 108 [v]) s Q:=by
 refine Op_ λtm hk0=> ?_
 obtain⟨b,o,cc,rfl,h1,h2,h3⟩:=h
 refine Rw_.u ?_
 simp only[Li_,RR,SS]
 refine AgC_.u ?_
 simp only[Jm_,RR,SS]
 refine AhP_.u ?_
 simp only[XO,RR,SS]
 refine Adv_ (s0:=s.cxN cxN) (cc:=cc) (F:=BsF (.slice (some ⟨b,o,none⟩) l.length cc)) hbd h3 (λx h=>h) hl hz l.length 0 _ _ _ _ (by omega) (by omega) rfl (Ext.refl _) rfl rfl (by simp[T.get_set,hk0]) (by simp[T.get_set,crcs]) (by simp[T.get_set]) λn1 tm1 s1 td1 hn1 hT1 hx1 hm1 hnx1 g3=> ?_
 have hR:crcs 4294967295 l<4294967296:=LV _ _ (by decide) hl
 refine QM_.u ?_ hT1
 simp only[Zw,RR,SS,g3,AkK_ hR]
 have e:4294967295^^^crcs 4294967295 l=BX 0 l:=by unfold BX;rw[Nat.xor_zero]
 refine aF (rs:=[2]) (vs:=[.int .u32 (BX 0 l:Nat)]) rfl (.inl Tr_) (by omega) Eb_ Oq_ hx1.cx (by simp[T.get_set,e]) ?_
 exact q _ hm1 hnx1 hx1.cx'
def EmB (s:St)(l:List Nat)(v:Value)(b:Nat):Prop:=EmS s 1 l.length (u8l l) v b
theorem EmB.same {s s':St}{l:List Nat}{v:Value}{b:Nat}(h:EmB s l v b)(hm:s'.mem=s.mem)(hn:s'.next=s.next):EmB s' l v b:=EmS.same h hm hn
theorem EmB.ext {F G:Nat->Prop}{s s':St}{l:List Nat}{v:Value}{b:Nat}(h:EmB s l v b)(e:Ext F G s s')(hG: ∀x,MkF 1 l.length b x-> ¬G x):EmB s' l v b:=by
 rcases h with h|⟨h,h0⟩
 ·exact .inl h
 ·exact .inr ⟨h.ext e λx hx=>hG x ⟨h0,hx⟩,h0⟩
theorem EmB.ext0 {F:Nat->Prop}{s s':St}{l:List Nat}{v:Value}{b:Nat}(h:EmB s l v b)(e:Ext F Non s s'):EmB s' l v b:=h.ext e λ_ _=>id
theorem EmB.bn {s:St}{l:List Nat}{v:Value}{b:Nat}(h:EmB s l v b)(hz:l.length<=1000000):Bn s v l:=by
 rcases h with⟨rfl,h0,h1⟩|⟨h,_⟩
 ·obtain rfl:l=[]:=List.eq_nil_of_length_eq_zero h0
  exact⟨b,0,0,rfl,by simp,D4 (by unfold capU;decide),λi v e=>by simp[u8l]at e⟩
 ·have hl:l.length<capU:=Az (by omega)
  exact⟨b,0,_,h.val,by rw[FX hl];exact Nat.le_refl _,Ep hl (by decide),h.own.row⟩
theorem EmB.at {s:St}{l:List Nat}{v:Value}{b:Nat}(h:EmB s l v b): ∃c,v= .slice (some ⟨b,0,none⟩) l.length c:=by
 obtain⟨c,e,_⟩:=EmS.row h
 exact⟨c,e⟩
theorem EmB.new {s0 s:St}{l:List Nat}{v:Value}{b:Nat}(h:EmB s l v b)(hb:s0.next<=b)(hz:l.length<=1000000):New s0 s v l:=by
 refine⟨h.bn hz,λx hx=> ?_⟩
 obtain⟨c,rfl⟩:=h.at
 have:b+0<=x:=hx.1
 omega
theorem EmB.nil {s:St}{b:Nat}:EmB s [] (.slice (some ⟨b,0,none⟩) 0 0) b:= .inl ⟨rfl,rfl,rfl⟩
theorem W.appBy {s:St}{l m:List Nat}{v x:Value}{b:Nat}{Q:Value->St->Prop}(hbd:s.lim<=s.next)(h:EmB s l v b)(hx:Bs s x m)(hz:l.length+m.length<=1000000)
  (q: ∀s2 v2 b2,(b2=b\/s.next<=b2)->EmB s2 (l++m) v2 b2->Ext (λy=>BsF x y\/MkF 1 l.length b y) (MkF 1 l.length b) s s2->Q v2 s2):W (AS envS .append [22,22] [v,x]) s Q:=by
 rw[CC]
 refine W.appE hbd GF h hx.src.g (by decide) (by decide) (by omega) (by rw[Av,Nat.mul_one]) (Bx _) λs2 v2 b2 hb2 h2 x2=>q s2 v2 b2 hb2 ?_ x2
 have e:u8l (l++m)=u8l l++u8l m:=List.map_append
 unfold EmB
 rw[e,List.length_append]
 exact h2
theorem Akp_ {n:Nat}{s:St}{v:Value}{l:List Nat}{Q:Value->St->Prop}(hbd:s.lim<=s.next)(hn:120*l.length+200<=n)(h:Bn s v l)(hl:Byt l)(hz:l.length<=900000)
  (q: ∀s1 w b,s.next<=b->Ext (BsF v) Non s s1->EmB s1 (gput l) w b->Q w s1):W (Ab envS (runF envS n) 67 [v]) s Q:=by
 refine AjT_ λtm h0=> ?_
 have hc:Bn (s.cxN cxN) v l:=h.same rfl rfl
 refine Ok_.u ?_
 simp only[Hp_,RR,SS]
 refine Oj_.u ?_
 simp only[FP_,RR,SS,reduceCtorEq, ↓reduceIte,h0]
 refine Ym (s:=s.cxN cxN) hbd (by omega) hc hl (by omega) λs1 m1 n1 x1=> ?_
 refine TV_.u ?_
 generalize hS:BX 0 l=S
 have hb1:s1.lim<=s1.next:=x1.bnd hbd
 simp only[Hu_,RR,SS,reduceCtorEq, ↓reduceIte,h0]
 refine aK hb1 (r:=[]) Ck (by decide) rfl (Az (by decide)) λs2 n2 x2 r2=> ?_
 have hb2:s2.lim<=s2.next:=x2.bnd hb1
 have hx2:Ext (BsF v) Non (s.cxN cxN) s2:=x1.step x2 hbd (λ_ _ h=>h.elim) λ_ h=>h.elim
 refine W.appBy hb2 EmB.nil (hc.bs.ext0 hx2) (by show 0+_<=_;omega) λs3 w3 b3 hb3 h3 x3=> ?_
 have hnm: ∀y,¬MkF 1 ([]:List Nat).length s1.next y:=λy hy=>absurd hy.1 (by simp)
 have x3':Ext (BsF v) Non s2 s3:=x3.weak hb2 (λy _ hy=>hy.elim id λhy=>(hnm y hy).elim) λy _ hy=>hnm y hy
 have hx3:Ext (BsF v) Non (s.cxN cxN) s3:=hx2.step x3' hbd (λ_ _ h=>h) λ_ h=>h.elim
 have hbd3:s3.lim<=s3.next:=x3.bnd hb2
 have hn1:s.next<=s1.next:=x1.nxt
 have hs3:s.next<=b3:=by
  have:s1.next<=s2.next:=x2.nxt
  rcases hb3 with rfl|hb3<;>omega
 rw[List.nil_append]at h3
 simp only[Cu Gg Dy,wrap_u8,Gt (k:= .u32) (by decide),Qk (k:= .u32) (by decide),PE (k:= .u32) (by decide)]
 refine aK hbd3 (r:=u8l (le4 S)) Ck (by decide) rfl (Az (by decide)) λs4 n4 x4 r4=> ?_
 have hb4:s4.lim<=s4.next:=x4.bnd hbd3
 have hB4:Bs s4 (.slice (some ⟨s3.next,0,none⟩) 4 4) (le4 S):=Aa.bn r4 (Az (by simp[le4]))
 have hx4:=hx3.step x4 hbd (λ_ _ h=>h.elim) λ_ h=>h.elim
 refine W.appBy hb4 (h3.ext0 x4) hB4 (by simp[le4];omega) λs5 w5 b5 hb5 h5 x5=> ?_
 have hx5:Ext (BsF v) Non (s.cxN cxN) s5:=hx4.step x5 hbd (λy hy h=>by
  have h6:y<s.lim:=hy
  have h8:s3.next<=s4.next:=x4.nxt
  have h9:s.next<=s3.next:=hx3.nxt
  rcases h with h|h
  ·have h7:s3.next+0<=y:=h.1
   omega
  ·have h7:b3+0<=y:=h.2.1
   omega) λy h=>by
  have h7:b3+0<=y:=h.2.1
  show s.next<=y
  omega
 refine aF (rs:=[2]) (vs:=[w5]) rfl (.inl QA_) (by omega) Vu AgV_ hx5.cx (by simp[T.get_set]) ?_
 refine q _ _ b5 ?_ hx5.cx' ?_
 ·have h9:s.next<=s4.next:=hx4.nxt
  rcases hb5 with rfl|hb5<;>omega
 ·have:=h5.same (s':=s5.cxN s.cx) rfl rfl
  unfold gput
  rw[hS]
  exact this
section
variable {parts:List (Value×List Nat)}{b o c:Nat}
end
section
variable {parts:List (Value×List Nat)}{b o c:Nat}
structure AlR (s0:St)(parts:List (Value×List Nat))(s:St)(vb ve vh:Value)(b1 b2 b3:Nat):Prop where
 mb:MkS s 1 (Em (parts.map (·.2))).length (u8l (Em (parts.map (·.2)))) vb b1
 me:MkS s 1 parts.length (AS_ (PJ 0 (parts.map (·.2)))) ve b2
 mh:MkS s 18 parts.length (AV (Ox 0 (parts.map (·.2)))) vh b3
 n1:s0.next<=b1
 n2:s0.next<=b2
 n3:s0.next<=b3
 d12: ∀x,MkF 1 (Em (parts.map (·.2))).length b1 x-> ¬MkF 1 parts.length b2 x
 d13: ∀x,MkF 1 (Em (parts.map (·.2))).length b1 x-> ¬MkF 18 parts.length b3 x
 d23: ∀x,MkF 1 parts.length b2 x-> ¬MkF 18 parts.length b3 x
 sm: ∀p∈parts,1<=p.2.length/\p.2.length<=1024
 le:parts.length<=20
 tt:tot parts<=4000
end
section
variable {E:Env}{s:St}{t:Nat}{xo yo:Operand}
end
section
variable {E:Env}{s s':St}{t:Nat}{xo yo:Operand}
theorem MkS.bs {l:List Nat}{v:Value}{b:Nat}(h:MkS s 1 l.length (u8l l) v b)(hn:l.length<capU):Bs s v l:=by
 rcases h with⟨rfl,h0,_⟩|⟨h,_⟩
 ·exact .inl ⟨rfl,List.eq_nil_of_length_eq_zero h0⟩
 ·refine .inr ⟨b,0,_,h.val, ?_,Ep hn (by decide),λi u e=>(h.own i u e).at'⟩
  rw[Nat.mul_add_mod,Nat.mod_eq_of_lt hn]
  exact Nat.le_refl _
theorem MkS.hsR {hs:List Hd}{n:Nat}{v:Value}{b:Nat}(h:MkS s 18 n (AV hs) v b)(hn:n=hs.length):HsR s v hs:=by
 subst hn
 rcases h with⟨rfl,h0,_⟩|⟨h,_⟩
 ·exact .inl ⟨rfl,List.eq_nil_of_length_eq_zero h0⟩
 ·exact .inr ⟨b,0,_,h.val,λi u e=>(h.own i u e).at'⟩
theorem MkS.put {l:List Nat}{k x:Nat}{v:Value}{b:Nat}{G:Nat->Prop}(h:MkS s 1 l.length (u8l l) v b)(hk:k<l.length)(hn:s'.next=s.next)(e:Ext G (In b k 1) s s')(ho:Own s' b k (.int .u8 (x:Nat))):MkS s' 1 (l.set k x).length (u8l (l.set k x)) v b:=by
 rw[List.length_set]
 rcases h with⟨_,h0,_⟩|⟨h,h0⟩
 ·omega
 ·refine .inr ⟨⟨h.val,λi u hi=> ?_, ?_, ?_,by rw[hn];exact h.lt⟩,h0⟩
  ·by_cases hik:i=k
   ·subst hik
    unfold u8l at hi
    rw[List.getElem?_map,List.getElem?_set_self hk]at hi
    have:u= .int .u8 (x:Nat):=by injection hi with hi;exact hi.symm
    subst this
    rwa [Nat.zero_add]
   ·have hi':(u8l l)[i]?=some u:=by
     unfold u8l at hi ⊢
     rw[List.getElem?_map,List.getElem?_set_ne (λq=>hik q.symm)]at hi
     rw[List.getElem?_map]
     exact hi
    exact(h.own i u hi').ext e λq=>by
     have h1:=In1.1 q
     omega
  ·rw[Av,List.length_set,Nat.mul_one]
  ·have hlt:b+l.length*1<s.next:=h.lt
   rw[e.mem _ hlt λq=>by have h1:=In1.1 q;omega]
   exact h.tok
theorem MkS.get {l:List Nat}{k:Nat}{v:Value}{b:Nat}(h:MkS s 1 l.length (u8l l) v b)(hk:k<l.length): ∃c,v= .slice (some ⟨b,0,none⟩) l.length c/\Own s b k (.int .u8 (l.getD k 0:Nat)):=by
 rcases h with⟨_,h0,_⟩|⟨h,h0⟩
 ·omega
 ·refine⟨_,h.val, ?_⟩
  have:=h.own k (.int .u8 (l.getD k 0:Nat)) (by
   unfold u8l
   rw[List.getElem?_map,List.getElem?_eq_getElem hk,List.getD_eq_getElem?_getD,List.getElem?_eq_getElem hk]
   rfl)
  rwa [Nat.zero_add]at this
end
theorem VE_:Sg envS 22=true:=by kernel_rfl
theorem AlF_:QY envS 9=true:=by kernel_rfl
