import Derived.Test.YtofanlcjeohcjaaPSc19
import Derived.Test.YtofanlcjeohcjaaPSc13
import Derived.Test.YtofanlcjeohcjaaPSc15
import Derived.Test.YtofanlcjeohcjaaPSc08
import Derived.Test.YtofanlcjeohcjaaPSc16
namespace Go.Proofs.Ytofanlcjeohcjaa.Am
def crc1 (n:Nat):Nat:=if n%2=1 then n/2^^^3988292384 else n/2
def crcN:Nat→Nat→Nat
 |0,n=>n
 |k+1,n=>crcN k (crc1 n)
theorem MN: ∀(k n:Nat),crc8 n k=crcN k n
 |0,n=>rfl
 |k+1,n=>by
  unfold crc8 crcN crc1
  split
  ·exact MN k _
  ·exact MN k _
theorem Uw_ (a b:Nat):crc1 (a^^^b)=crc1 a^^^crc1 b:=by
 have hd:(a^^^b)/2=a/2^^^b/2:=by
  have h:=Nat.shiftRight_xor_distrib (a:=a) (b:=b) (i:=1)
  rw[Nat.shiftRight_eq_div_pow,Nat.shiftRight_eq_div_pow,Nat.shiftRight_eq_div_pow]at h
  exact h
 have hm:(a^^^b)%2=(a%2+b%2)%2:=by
  rw[←Nat.pow_one 2,Nat.xor_mod_two_pow]
  rcases Nat.mod_two_eq_zero_or_one a with h|h<;>rcases Nat.mod_two_eq_zero_or_one b with h'|h'<;>simp[h,h']
 unfold crc1
 rw[hd,hm]
 have e: ∀x y z:Nat,x^^^z^^^(y^^^z)=x^^^y:=fun x y z=>by
  rw[Nat.xor_comm y z,Nat.xor_assoc,←Nat.xor_assoc z z y,Nat.xor_self,Nat.zero_xor]
 rcases Nat.mod_two_eq_zero_or_one a with h|h<;>rcases Nat.mod_two_eq_zero_or_one b with h'|h'<;>rw[h,h']<;>simp -implicitDefEqProofs only[Nat.reduceAdd,Nat.reduceMod,Nat.zero_ne_one,if_true,if_false]
 ·rw[Nat.xor_assoc]
 ·rw[Nat.xor_assoc,Nat.xor_comm (b/2),←Nat.xor_assoc]
 ·rw[e]
theorem Wh: ∀(k a b:Nat),crcN k (a^^^b)=crcN k a^^^crcN k b
 |0,_,_=>rfl
 |k+1,a,b=>by
  show crcN k (crc1 (a^^^b))=crcN k (crc1 a)^^^crcN k (crc1 b)
  rw[Uw_,Wh k]
theorem Eh_: ∀(j k n:Nat),crcN (j+k) n=crcN k (crcN j n)
 |0,k,n=>by rw[Nat.zero_add];rfl
 |j+1,k,n=>by
  rw[Nat.succ_add]
  exact Eh_ j k _
theorem R6: ∀(k n:Nat),crcN k (n*2^k)=n
 |0,n=>by rw[Nat.pow_zero,Nat.mul_one];rfl
 |k+1,n=>by
  show crcN k (crc1 (n*2^(k+1)))=n
  have e:n*2^(k+1)=2*(n*2^k):=by rw[Nat.pow_succ];rw[←Nat.mul_assoc,Nat.mul_comm]
  unfold crc1
  rw[e,Nat.mul_mod_right,if_neg (by decide),Nat.mul_div_cancel_left _ (by decide)]
  exact R6 k n
theorem HB_ {n:Nat}(h:n<4294967296):crc1 n<4294967296:=by
 unfold crc1
 split
 ·exact Nat.xor_lt_two_pow (n:=32) (show n/2<2^32 by omega) (by decide)
 ·omega
theorem Vu_ {a b k:Nat}(h:a<2^k):a^^^b*2^k=a+b*2^k:=by
 apply Nat.eq_of_testBit_eq
 intro i
 rw[Nat.testBit_xor,Nat.add_comm,Nat.mul_comm b,Nat.testBit_two_pow_mul_add _ h,Nat.testBit_two_pow_mul]
 by_cases hi:i<k
 ·rw[if_pos hi]
  simp[show ¬k≤i by omega]
 ·rw[if_neg hi,Nat.testBit_lt_two_pow (Nat.lt_of_lt_of_le h (Nat.pow_le_pow_right (by decide) (by omega)))]
  simp[show k≤i by omega]
theorem Nt_ (n c:Nat):Fk n c=crcN 8 (n^^^c):=by
 have e:n=n%256^^^n/256*2^8:=by
  rw[Vu_ (k:=8) (Nat.mod_lt _ (by decide))]
  omega
 have e2:n^^^c=(n%256^^^c)^^^n/256*2^8:=by
  conv=>lhs;rw[e]
  rw[Nat.xor_assoc,Nat.xor_comm _ c,←Nat.xor_assoc]
 rw[e2,Wh,R6]
 unfold Fk crcT
 rw[MN]
open Go.RowKit
theorem Dd_: ∀(k:Nat) {n:Nat},n<4294967296→crcN k n<4294967296
 |0,_,h=>h
 |k+1,_,h=>Dd_ k (HB_ h)
theorem Abd_ (k n:Nat):crcN (k+1) n=crc1 (crcN k n):=Eh_ k 1 n
theorem Oz_ (x d:Nat):(if((x^^^d)%2=d%2)then(x^^^d)>>>1 else(x^^^d)>>>1^^^3988292384)=crc1 x^^^d>>>1:=by
 have hp:(x^^^d)%2=(x%2+d%2)%2:=by
  rw[←Nat.pow_one 2,Nat.xor_mod_two_pow]
  rcases Nat.mod_two_eq_zero_or_one x with h|h<;>rcases Nat.mod_two_eq_zero_or_one d with h'|h'<;>simp[h,h']
 have hs:(x^^^d)>>>1=x>>>1^^^d>>>1:=Nat.shiftRight_xor_distrib
 have h1:x>>>1=x/2:=Nat.shiftRight_eq_div_pow x 1
 unfold crc1
 rw[hp,hs,h1]
 by_cases hx:x%2=1
 ·rw[if_neg (by omega),if_pos hx,Nat.xor_assoc,Nat.xor_assoc,Nat.xor_comm (d>>>1)]
 ·rw[if_pos (by omega),if_neg hx]
theorem YA_ {n c:Nat}(hc:c<256):crcN 8 (n^^^c)^^^c>>>8=Fk n c:=by
 have h:c>>>8=0:=by rw[Nat.shiftRight_eq_div_pow];omega
 rw[h,Nat.xor_zero,Nt_]
theorem Tl:hasT envS 5=true:=by kernel_rfl
theorem Te:intK envS 51=some .u32:=by kernel_rfl
section
variable {s:St}{E:Env}{t:Nat}{xo yo:Operand}
theorem XJ_ {k kk:IntKind}{m:Nat}(hn:1≤btOf k)(Q:Value→St→Prop):W (Cl.get (aBin E .shr t xo yo) (.int k (m:Nat)) (.int kk 1)) s Q=Q (.int k (m>>>1:Nat)) s:=Fh (n:=1) hn Q
theorem Vy_ {m:Nat}(h:m^^^3988292384<4294967296)(Q:Value→St→Prop):W (Cl.get (aBin E .xor t xo yo) (.int .u32 (m:Nat)) (.int .u32 3988292384)) s Q=Q (.int .u32 (m^^^3988292384:Nat)) s:=ZR_ (n:=3988292384) h Q
end
theorem Jt {x:Nat}(h:x<4294967296)(k:Nat):x>>>k<4294967296:=Nat.lt_of_le_of_lt (Nat.shiftRight_le x k) h
theorem Ty_ {b o cc len i c R:Nat}{F:Nat→Prop}{Q:Value×FrameMode→St→Prop}{s0:St}(hb0:s0.lim≤s0.next)(hat:At s0 b (o+i*1) (.int .u8 (c:Nat)))(hF:F (b+(o+i*1)))(hil:i<len)(hc:c<256)(hR:R<4294967296): ∀(k j n:Nat) (tm:T Value) (s:St) (td:List Item),j+k=8→12*k+20≤n→skim 64 td=Ku→Ext F Non s0 s→s.mem=s0.mem→s.next=s0.next→
  T.get tm 0=some (.slice (some ⟨b,o,none⟩) len cc)→T.get tm 3=some (.int .u32 (crcN j (R^^^c)^^^c>>>j:Nat))→T.get tm 4=some (.int .i64 (i:Nat))→T.get tm 5=some (.int .i64 (j:Nat))→
  (∀n' tm' s1 td',n≤n'+12*k+10→skim 64 td'=OG→Ext F Non s0 s1→s1.mem=s0.mem→s1.next=s0.next→T.get tm' 0=some (.slice (some ⟨b,o,none⟩) len cc)→T.get tm' 3=some (.int .u32 (Fk R c:Nat))→T.get tm' 4=some (.int .i64 (i:Nat))→W (runF envS n' ⟨108,Jo,CK,tm',td', .run, .normal,none⟩) s1 Q)→
  W (runF envS n ⟨108,Jo,CK,tm,td, .run, .normal,none⟩) s Q:=by
 intro k
 induction k with
 |zero=>
  intro j n tm s td hj hn hT hx hm hnx h0 h3 h4 h5 q
  obtain rfl:j=8:=by omega
  rw[YA_ hc]at h3
  refine TB.w hT (by omega) ?_
  simp only[NL,Ad,W_oS,Aa,W_mv,Ac,h5]
  simp only[Be,show decide (((8:Nat):Int)<8)=false from rfl]
  refine W.cond (v:=false) rfl Gh_ (by simp[T.get_set]) (by omega) (fun h=>by cases h) fun _=> ?_
  exact q _ _ _ _ (by omega) rfl hx hm hnx (by simp[T.get_set,h0]) (by simp[T.get_set,h3]) (by simp[T.get_set,h4])
 |succ k ih=>
  intro j n tm s td hj hn hT hx hm hnx h0 h3 h4 h5 q
  have hRc:R^^^c<4294967296:=Sha.xor_lt hR (by omega)
  have hxl:crcN j (R^^^c)<4294967296:=Dd_ j hRc
  have hdl:c>>>j<4294967296:=Jt (by omega) j
  have hst:=Oz_ (crcN j (R^^^c)) (c>>>j)
  rw[←Abd_,←Nat.shiftRight_add]at hst
  have hyl:crcN j (R^^^c)^^^c>>>j<4294967296:=Sha.xor_lt hxl hdl
  generalize hy:crcN j (R^^^c)^^^c>>>j=y at *
  refine TB.w hT (by omega) ?_
  simp only[NL,Ad,W_oS,Aa,W_mv,Ac,h5]
  simp only[Be,show decide (((j:Nat):Int)<8)=true from decide_eq_true (by omega)]
  refine W.cond (v:=true) rfl Gh_ (by simp[T.get_set]) (by omega) (fun _=> ?_) fun h=>by cases h
  refine VS_.w rfl (by omega) ?_
  simp only[Fk_,Ad,W_oS,Aa,W_mv,Ac,T.get_set,reduceIte,Nat.reduceEqDiff,reduceCtorEq, ↓reduceIte,h0,h3,h4,h5,Uw,CS AE hil]
  refine W.load1 CG (hat.same hm hnx) ?_
  simp only[Fh (k:= .u8) (show j≤btOf .u8 by show j≤8;omega),CO Tl Te,wrap_u32,Nat.mod_eq_of_lt hdl,Uw,Qa_]
  have hx1:Ext F Non s0 (s.rdN (b+(o+i*1))):=hx.trans (Ext.rdN (F:=F) s _ fun _=>hF) hb0 (fun _ _ h=>h) fun _ _ h=>h
  refine AbB_.w rfl (by omega) ?_
  simp only[WK,Ad,W_oS,Aa,W_mv,Ac,T.get_set,reduceIte,Nat.reduceEqDiff, ↓reduceIte,h3,XJ_ (k:= .u32) (show 1≤btOf .u32 by decide)]
  refine Ny_.w rfl (by omega) ?_
  simp only[BC_,Aa,W_mv,Ac,T.get_set,reduceIte,Nat.reduceEqDiff, ↓reduceIte]
  have ej:wrap64 ((j:Nat)+1:Int)=((j+1:Nat):Int):=by
   rw[AP (by omega) (by omega)];simp
  by_cases he:y%2=(c>>>j)%2
  ·rw[if_pos he]at hst
   refine W.cond (v:=false) rfl Xa (by simp[T.get_set,he]) (by omega) (fun h=>by cases h) fun _=> ?_
   refine Bz_.w rfl (by omega) ?_
   simp only[M1,Ad,W_oS,Aa,W_mv,Ac,T.get_set,reduceIte,Nat.reduceEqDiff, ↓reduceIte,By,h5,ej]
   exact ih (j+1) _ _ _ _ (by omega) (by omega) Zp hx1 hm hnx (by simp[T.get_set,h0]) (by simp[T.get_set,hst]) (by simp[T.get_set,h4]) (by simp[T.get_set]) fun n' tm' s1 td' e=>q n' tm' s1 td' (by omega)
  ·rw[if_neg he]at hst
   refine W.cond (v:=true) rfl Xa (by simp[T.get_set,he]) (by omega) (fun _=> ?_) fun h=>by cases h
   refine OP_.w rfl (by omega) ?_
   have hz:y>>>1^^^3988292384<4294967296:=Sha.xor_lt (Jt hyl 1) (by decide)
   simp only[Du_,Ad,W_oS,Aa,W_mv,Ac,T.get_set,reduceIte,Nat.reduceEqDiff, ↓reduceIte,Vy_ hz]
   refine Bz_.w Xt_ (by omega) ?_
   simp only[M1,Ad,W_oS,Aa,W_mv,Ac,T.get_set,reduceIte,Nat.reduceEqDiff, ↓reduceIte,By,h5,ej]
   exact ih (j+1) _ _ _ _ (by omega) (by omega) Zp hx1 hm hnx (by simp[T.get_set,h0]) (by simp[T.get_set,hst]) (by simp[T.get_set,h4]) (by simp[T.get_set]) fun n' tm' s1 td' e=>q n' tm' s1 td' (by omega)
theorem Pk_ {b o cc:Nat}{l:List Nat}{F:Nat→Prop}{Q:Value×FrameMode→St→Prop}{s0:St}(hb0:s0.lim≤s0.next)(hrow:Row s0 b o (u8l l))(hF: ∀x,In b o l.length x→F x)(hl:Byt l)(hz:l.length≤1000000): ∀(k i n:Nat) (tm:T Value) (s:St) (td:List Item),i+k=l.length→120*k+20≤n→skim 64 td=Jh→Ext F Non s0 s→s.mem=s0.mem→s.next=s0.next→
  T.get tm 0=some (.slice (some ⟨b,o,none⟩) l.length cc)→T.get tm 3=some (.int .u32 (crcs 4294967295 (l.take i):Nat))→T.get tm 4=some (.int .i64 (i:Nat))→
  (∀n' tm' s1 td',n≤n'+120*k+10→skim 64 td'=OF→Ext F Non s0 s1→s1.mem=s0.mem→s1.next=s0.next→T.get tm' 3=some (.int .u32 (crcs 4294967295 l:Nat))→W (runF envS n' ⟨108,Jo,CK,tm',td', .run, .normal,none⟩) s1 Q)→
  W (runF envS n ⟨108,Jo,CK,tm,td, .run, .normal,none⟩) s Q:=by
 intro k
 induction k with
 |zero=>
  intro i n tm s td hi hn hT hx hm hnx h0 h3 h4 q
  refine Ri.w hT (by omega) ?_
  simp only[Pe,Ad,W_oS,Aa,W_mv,Ac,Ah,Ag,Af,Be,h0,h4,B5 AE]
  refine W.cond (v:=false) rfl ZC (by simp[T.get_set];omega) (by omega) (fun h=>by cases h) fun _=> ?_
  rw[show i=l.length by omega,List.take_length]at h3
  exact q _ _ _ _ (by omega) rfl hx hm hnx (by simp[T.get_set,h3])
 |succ k ih=>
  intro i n tm s td hi hn hT hx hm hnx h0 h3 h4 q
  have hil:i<l.length:=by omega
  refine Ri.w hT (by omega) ?_
  simp only[Pe,Ad,W_oS,Aa,W_mv,Ac,Ah,Ag,Af,Be,h0,h4,B5 AE]
  refine W.cond (v:=true) rfl ZC (by simp[T.get_set];omega) (by omega) (fun _=> ?_) fun h=>by cases h
  refine Kp_.w rfl (by omega) ?_
  simp only[FJ_,Aa,W_mv,Ac]
  have hc:l[i]<256:=hl _ (List.getElem_mem hil)
  have hR:crcs 4294967295 (l.take i)<4294967296:=IJ _ _ (by decide) fun c hc=>hl c (List.mem_of_mem_take hc)
  have hat:At s0 b (o+i*1) (.int .u8 (l[i]:Nat)):=by
   rw[Nat.mul_one]
   exact hrow i _ (by unfold u8l;rw[List.getElem?_map,List.getElem?_eq_getElem hil];rfl)
  refine Ty_ (c:=l[i]) (R:=crcs 4294967295 (l.take i)) (cc:=cc) hb0 hat (hF _ ⟨by omega,by omega⟩) hil hc hR 8 0 _ _ _ _ (by omega) (by omega) rfl hx hm hnx (by simp[T.get_set,h0]) ?_ (by simp[T.get_set,h4]) (by simp[T.get_set]) fun n1 tm1 s1 td1 hn1 hT1 hx1 hm1 hnx1 g0 g3 g4=> ?_
  ·have e:crcN 0 (crcs 4294967295 (l.take i)^^^l[i])^^^l[i]>>>0=crcs 4294967295 (l.take i):=by
    show(crcs 4294967295 (l.take i)^^^l[i])^^^l[i]=_
    rw[Nat.xor_assoc,Nat.xor_self,Nat.xor_zero]
   rw[e]
   simp[T.get_set,h3]
  have ei:wrap64 ((i:Nat)+1:Int)=((i+1:Nat):Int):=by
   rw[AP (by omega) (by omega)];simp
  refine Wm_.w hT1 (by omega) ?_
  simp only[An_,Ad,W_oS,Aa,W_mv,Ac,By,g4,ei]
  rw[←RA 4294967295 l i hil]at g3
  exact ih (i+1) _ _ _ _ (by omega) (by omega) Xe_ hx1 hm1 hnx1 (by simp[T.get_set,g0]) (by simp[T.get_set,g3]) (by simp[T.get_set]) fun n' tm' s2 td' e=>q n' tm' s2 td' (by omega)
theorem WM {n:Nat}{s:St}{v:Value}{l:List Nat}{Q:Value→St→Prop}(hbd:s.lim≤s.next)(hn:120*l.length+60≤n)(h:Bn s v l)(hl:Byt l)(hz:l.length≤1000000)
  (q: ∀s1,s1.mem=s.mem→s1.next=s.next→Ext (BsF v) Non s s1→Q (.int .u32 (Cu 0 l:Nat)) s1):W (Ai envS (runF envS n) 108 [v]) s Q:=by
 refine VK_ fun tm hk0=> ?_
 obtain⟨b,o,cc,rfl,h1,h2,h3⟩:=h
 refine OH_.w rfl (by omega) ?_
 simp only[WZ,Aa,W_mv,Ac]
 refine HC_.w rfl (by omega) ?_
 simp only[Zf,Aa,W_mv,Ac]
 refine OW_.w rfl (by omega) ?_
 simp only[QT,Aa,W_mv,Ac]
 refine Pk_ (s0:=s.cxN cxN) (cc:=cc) (F:=BsF (.slice (some ⟨b,o,none⟩) l.length cc)) hbd h3 (fun x h=>h) hl hz l.length 0 _ _ _ _ (by omega) (by omega) rfl (Ext.refl _) rfl rfl (by simp[T.get_set,hk0]) (by simp[T.get_set,crcs]) (by simp[T.get_set]) fun n1 tm1 s1 td1 hn1 hT1 hx1 hm1 hnx1 g3=> ?_
 have hR:crcs 4294967295 l<4294967296:=IJ _ _ (by decide) hl
 refine Abt_.w hT1 (by omega) ?_
 simp only[Tx,Ad,W_oS,Aa,W_mv,Ac,g3,MK_ hR]
 have e:4294967295^^^crcs 4294967295 l=Cu 0 l:=by unfold Cu;rw[Nat.xor_zero]
 refine W.end' (rs:=[2]) (vs:=[.int .u32 (Cu 0 l:Nat)]) rfl (.inl WC_) (by omega) ZF Vw_ hx1.cx (by simp[T.get_set,e]) ?_
 exact q _ hm1 hnx1 hx1.cx'
def EmB (s:St)(l:List Nat)(v:Value)(b:Nat):Prop:=EmS s 1 l.length (u8l l) v b
theorem EmB.same {s s':St}{l:List Nat}{v:Value}{b:Nat}(h:EmB s l v b)(hm:s'.mem=s.mem)(hn:s'.next=s.next):EmB s' l v b:=EmS.same h hm hn
theorem EmB.ext {F G:Nat→Prop}{s s':St}{l:List Nat}{v:Value}{b:Nat}(h:EmB s l v b)(e:Ext F G s s')(hG: ∀x,MkF 1 l.length b x→ ¬G x):EmB s' l v b:=by
 rcases h with h|⟨h,h0⟩
 ·exact .inl h
 ·exact .inr ⟨h.ext e fun x hx=>hG x ⟨h0,hx⟩,h0⟩
theorem EmB.ext0 {F:Nat→Prop}{s s':St}{l:List Nat}{v:Value}{b:Nat}(h:EmB s l v b)(e:Ext F Non s s'):EmB s' l v b:=h.ext e fun _ _=>id
theorem EmB.bn {s:St}{l:List Nat}{v:Value}{b:Nat}(h:EmB s l v b)(hz:l.length≤1000000):Bn s v l:=by
 rcases h with⟨rfl,h0,h1⟩|⟨h,_⟩
 ·obtain rfl:l=[]:=List.eq_nil_of_length_eq_zero h0
  exact⟨b,0,0,rfl,by simp,DX (by unfold capU;decide),fun i v e=>by simp[u8l]at e⟩
 ·have hl:l.length<capU:=Bh (by omega)
  exact⟨b,0,_,h.val,by rw[FM hl];exact Nat.le_refl _,Ey hl (by decide),h.own.row⟩
theorem EmB.at {s:St}{l:List Nat}{v:Value}{b:Nat}(h:EmB s l v b): ∃c,v= .slice (some ⟨b,0,none⟩) l.length c:=by
 obtain⟨c,e,_⟩:=EmS.row h
 exact⟨c,e⟩
theorem EmB.new {s0 s:St}{l:List Nat}{v:Value}{b:Nat}(h:EmB s l v b)(hb:s0.next≤b)(hz:l.length≤1000000):New s0 s v l:=by
 refine⟨h.bn hz,fun x hx=> ?_⟩
 obtain⟨c,rfl⟩:=h.at
 have:b+0≤x:=hx.1
 omega
theorem EmB.nil {s:St}{b:Nat}:EmB s [] (.slice (some ⟨b,0,none⟩) 0 0) b:= .inl ⟨rfl,rfl,rfl⟩
theorem W.appBy {s:St}{l m:List Nat}{v x:Value}{b:Nat}{Q:Value→St→Prop}(hbd:s.lim≤s.next)(h:EmB s l v b)(hx:Bs s x m)(hz:l.length+m.length≤1000000)
  (q: ∀s2 v2 b2,(b2=b∨s.next≤b2)→EmB s2 (l++m) v2 b2→Ext (fun y=>BsF x y∨MkF 1 l.length b y) (MkF 1 l.length b) s s2→Q v2 s2):W (Az envS .append [22,22] [v,x]) s Q:=by
 rw[Eo]
 refine W.appE hbd Gq h hx.src.g (by decide) (by decide) (by omega) (by rw[A6,Nat.mul_one]) (BT _) fun s2 v2 b2 hb2 h2 x2=>q s2 v2 b2 hb2 ?_ x2
 have e:u8l (l++m)=u8l l++u8l m:=List.map_append
 unfold EmB
 rw[e,List.length_append]
 exact h2
theorem NJ_ {n:Nat}{s:St}{v:Value}{l:List Nat}{Q:Value→St→Prop}(hbd:s.lim≤s.next)(hn:120*l.length+200≤n)(h:Bn s v l)(hl:Byt l)(hz:l.length≤900000)
  (q: ∀s1 w b,s.next≤b→Ext (BsF v) Non s s1→EmB s1 (gput l) w b→Q w s1):W (Ai envS (runF envS n) 67 [v]) s Q:=by
 refine Oc_ fun tm h0=> ?_
 have hc:Bn (s.cxN cxN) v l:=h.same rfl rfl
 refine Sx_.w rfl (by omega) ?_
 simp only[Uk,Aa,W_mv,Ac]
 refine WV_.w rfl (by omega) ?_
 simp only[S9,Ad,W_on,Aa,W_mv,Ac,T.get_set,Ah,Ag,Af,Ar,reduceIte,reduceCtorEq, ↓reduceIte,h0]
 refine WM (s:=s.cxN cxN) hbd (by omega) hc hl (by omega) fun s1 m1 n1 x1=> ?_
 refine Up_.w rfl (by omega) ?_
 generalize hS:Cu 0 l=S
 have hb1:s1.lim≤s1.next:=x1.bnd hbd
 simp only[Y8,Ad,W_oS,Aa,W_mv,Ac,T.get_set,Ah,Ag,A8,A2,Af,reduceIte,reduceCtorEq, ↓reduceIte,h0]
 refine W.buildS hb1 (r:=[]) CU (by decide) rfl (Bh (by decide)) fun s2 n2 x2 r2=> ?_
 have hb2:s2.lim≤s2.next:=x2.bnd hb1
 have hx2:Ext (BsF v) Non (s.cxN cxN) s2:=x1.step x2 hbd (fun _ _ h=>h.elim) fun _ h=>h.elim
 refine W.appBy hb2 EmB.nil (hc.bs.ext0 hx2) (by show 0+_≤_;omega) fun s3 w3 b3 hb3 h3 x3=> ?_
 have hnm: ∀y,¬MkF 1 ([]:List Nat).length s1.next y:=fun y hy=>absurd hy.1 (by simp)
 have x3':Ext (BsF v) Non s2 s3:=x3.weak hb2 (fun y _ hy=>hy.elim id fun hy=>(hnm y hy).elim) fun y _ hy=>hnm y hy
 have hx3:Ext (BsF v) Non (s.cxN cxN) s3:=hx2.step x3' hbd (fun _ _ h=>h) fun _ h=>h.elim
 have hbd3:s3.lim≤s3.next:=x3.bnd hb2
 have hn1:s.next≤s1.next:=x1.nxt
 have hs3:s.next≤b3:=by
  have:s1.next≤s2.next:=x2.nxt
  rcases hb3 with rfl|hb3<;>omega
 rw[List.nil_append]at h3
 simp only[CO Gg DP,wrap_u8,Gv (k:= .u32) (by decide),Li (k:= .u32) (by decide),Mi (k:= .u32) (by decide)]
 refine W.buildS hbd3 (r:=u8l (le4 S)) CU (by decide) rfl (Bh (by decide)) fun s4 n4 x4 r4=> ?_
 have hb4:s4.lim≤s4.next:=x4.bnd hbd3
 have hB4:Bs s4 (.slice (some ⟨s3.next,0,none⟩) 4 4) (le4 S):=Ae.bn r4 (Bh (by simp[le4]))
 have hx4:=hx3.step x4 hbd (fun _ _ h=>h.elim) fun _ h=>h.elim
 refine W.appBy hb4 (h3.ext0 x4) hB4 (by simp[le4];omega) fun s5 w5 b5 hb5 h5 x5=> ?_
 have hx5:Ext (BsF v) Non (s.cxN cxN) s5:=hx4.step x5 hbd (fun y hy h=>by
  have h6:y<s.lim:=hy
  have h8:s3.next≤s4.next:=x4.nxt
  have h9:s.next≤s3.next:=hx3.nxt
  rcases h with h|h
  ·have h7:s3.next+0≤y:=h.1
   omega
  ·have h7:b3+0≤y:=h.2.1
   omega) fun y h=>by
  have h7:b3+0≤y:=h.2.1
  show s.next≤y
  omega
 refine W.end' (rs:=[2]) (vs:=[w5]) rfl (.inl Kh_) (by omega) R7 St_ hx5.cx (by simp[T.get_set]) ?_
 refine q _ _ b5 ?_ hx5.cx' ?_
 ·have h9:s.next≤s4.next:=hx4.nxt
  rcases hb5 with rfl|hb5<;>omega
 ·have:=h5.same (s':=s5.cxN s.cx) rfl rfl
  unfold gput
  rw[hS]
  exact this
section
variable {parts:List (Value×List Nat)}{b o c:Nat}
end
section
variable {parts:List (Value×List Nat)}{b o c:Nat}
structure AlR (s0:St)(parts:List (Value×List Nat))(s:St)(vb ve vh:Value)(b1 b2 b3:Nat):Prop where
 mb:MkS s 1 (EE (parts.map (·.2))).length (u8l (EE (parts.map (·.2)))) vb b1
 me:MkS s 1 parts.length (Ef_ (O5 0 (parts.map (·.2)))) ve b2
 mh:MkS s 18 parts.length (Bu (Ph 0 (parts.map (·.2)))) vh b3
 n1:s0.next≤b1
 n2:s0.next≤b2
 n3:s0.next≤b3
 d12: ∀x,MkF 1 (EE (parts.map (·.2))).length b1 x→ ¬MkF 1 parts.length b2 x
 d13: ∀x,MkF 1 (EE (parts.map (·.2))).length b1 x→ ¬MkF 18 parts.length b3 x
 d23: ∀x,MkF 1 parts.length b2 x→ ¬MkF 18 parts.length b3 x
 sm: ∀p∈parts,1≤p.2.length∧p.2.length≤1024
 le:parts.length≤20
 tt:tot parts≤4000
end
section
variable {E:Env}{s:St}{t:Nat}{xo yo:Operand}
end
section
variable {E:Env}{s s':St}{t:Nat}{xo yo:Operand}
theorem MkS.bs {l:List Nat}{v:Value}{b:Nat}(h:MkS s 1 l.length (u8l l) v b)(hn:l.length<capU):Bs s v l:=by
 rcases h with⟨rfl,h0,_⟩|⟨h,_⟩
 ·exact .inl ⟨rfl,List.eq_nil_of_length_eq_zero h0⟩
 ·refine .inr ⟨b,0,_,h.val, ?_,Ey hn (by decide),fun i u e=>(h.own i u e).at'⟩
  rw[Nat.mul_add_mod,Nat.mod_eq_of_lt hn]
  exact Nat.le_refl _
theorem MkS.hsR {hs:List Hd}{n:Nat}{v:Value}{b:Nat}(h:MkS s 18 n (Bu hs) v b)(hn:n=hs.length):HsR s v hs:=by
 subst hn
 rcases h with⟨rfl,h0,_⟩|⟨h,_⟩
 ·exact .inl ⟨rfl,List.eq_nil_of_length_eq_zero h0⟩
 ·exact .inr ⟨b,0,_,h.val,fun i u e=>(h.own i u e).at'⟩
theorem MkS.put {l:List Nat}{k x:Nat}{v:Value}{b:Nat}{G:Nat→Prop}(h:MkS s 1 l.length (u8l l) v b)(hk:k<l.length)(hn:s'.next=s.next)(e:Ext G (In b k 1) s s')(ho:Own s' b k (.int .u8 (x:Nat))):MkS s' 1 (l.set k x).length (u8l (l.set k x)) v b:=by
 rw[List.length_set]
 rcases h with⟨_,h0,_⟩|⟨h,h0⟩
 ·omega
 ·refine .inr ⟨⟨h.val,fun i u hi=> ?_, ?_, ?_,by rw[hn];exact h.lt⟩,h0⟩
  ·by_cases hik:i=k
   ·subst hik
    unfold u8l at hi
    rw[List.getElem?_map,List.getElem?_set_self hk]at hi
    have:u= .int .u8 (x:Nat):=by injection hi with hi;exact hi.symm
    subst this
    rwa [Nat.zero_add]
   ·have hi':(u8l l)[i]?=some u:=by
     unfold u8l at hi ⊢
     rw[List.getElem?_map,List.getElem?_set_ne (fun q=>hik q.symm)]at hi
     rw[List.getElem?_map]
     exact hi
    exact(h.own i u hi').ext e fun q=>by
     have h1:=In1.1 q
     omega
  ·rw[A6,List.length_set,Nat.mul_one]
  ·have hlt:b+l.length*1<s.next:=h.lt
   rw[e.mem _ hlt fun q=>by have h1:=In1.1 q;omega]
   exact h.tok
theorem MkS.get {l:List Nat}{k:Nat}{v:Value}{b:Nat}(h:MkS s 1 l.length (u8l l) v b)(hk:k<l.length): ∃c,v= .slice (some ⟨b,0,none⟩) l.length c∧Own s b k (.int .u8 (l.getD k 0:Nat)):=by
 rcases h with⟨_,h0,_⟩|⟨h,h0⟩
 ·omega
 ·refine⟨_,h.val, ?_⟩
  have:=h.own k (.int .u8 (l.getD k 0:Nat)) (by
   unfold u8l
   rw[List.getElem?_map,List.getElem?_eq_getElem hk,List.getD_eq_getElem?_getD,List.getElem?_eq_getElem hk]
   rfl)
  rwa [Nat.zero_add]at this
theorem MkS.hat {hs:List Hd}{n i:Nat}{v:Value}{b:Nat}(h:MkS s 18 n (Bu hs) v b)(hn:n=hs.length)(h16: ∀h∈hs,h.1.length=16)(hi:i<hs.length): ∃c,v= .slice (some ⟨b,0,none⟩) n c∧(n<capU→c%capU=n∧CA c 18=true)∧Row s b (0+i*18) (AI hs[i])∧ ∀w,w≤hs.length→Row s b 0 (Bu (hs.take w)):=by
 rcases h with⟨_,h0,_⟩|⟨h,h0⟩
 ·omega
 ·refine⟨_,h.val,fun hc=>⟨by rw[Nat.mul_add_mod,Nat.mod_eq_of_lt hc],Ey hc (by decide)⟩,fun j u e=> ?_,fun w hw j u e=> ?_⟩
  ·have hj:j<18:=by
    have:=(List.getElem?_eq_some_iff.1 e).1
    rwa [DZ (h16 _ (List.getElem_mem hi))]at this
   have:=(h.own (i*18+j) u (by rw[Rl h16 hi hj];exact e)).at'
   rwa [show 0+(i*18+j)=0+i*18+j by omega]at this
  ·refine(h.own j u ?_).at'
   have es:hs=hs.take w++hs.drop w:=(List.take_append_drop w hs).symm
   rw[es,R5,List.getElem?_append_left (List.getElem?_eq_some_iff.1 e).1]
   exact e
end
theorem NM_:OJ envS 22=true:=by kernel_rfl
theorem Yb_:N9 envS 9=true:=by kernel_rfl
end Go.Proofs.Ytofanlcjeohcjaa.Am
