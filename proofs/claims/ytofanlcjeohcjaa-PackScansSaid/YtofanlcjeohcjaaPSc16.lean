import Derived.Test.YtofanlcjeohcjaaPSc15
import Derived.Test.YtofanlcjeohcjaaPSc14
import Derived.Test.YtofanlcjeohcjaaPSc07
import Derived.KernelRfl
noncomputable section
namespace Go.Proofs.Ytofanlcjeohcjaa.Am
open Go.RowKit
def tot (l:List (Value×List Nat)):Nat:=(l.map fun p=>p.2.length).sum
theorem WZ_ {l:List (Value×List Nat)}{i:Nat}{p:Value×List Nat}(h:l[i]?=some p):tot (l.take (i+1))=tot (l.take i)+p.2.length:=by
 unfold tot
 rw[List.take_add_one,h]
 simp
theorem T4 {l:List (Value×List Nat)}(i:Nat):tot (l.take i)≤tot l:=by
 unfold tot
 have:(l.map fun p=>p.2.length).sum=((l.take i).map fun p=>p.2.length).sum+((l.drop i).map fun p=>p.2.length).sum:=by
  rw[←List.sum_append,←List.map_append,List.take_append_drop]
 omega
def Fp (b o:Nat)(l:List (Value×List Nat)):Nat→Prop:=fun x=>In b o l.length x∨ ∃p∈l,BsF p.1 x
structure Parts (s:St)(b o:Nat)(l:List (Value×List Nat)):Prop where
 row:Row s b o (l.map (·.1))
 bs: ∀p∈l,Bs s p.1 p.2
theorem Parts.same {s s':St}{b o:Nat}{l:List (Value×List Nat)}(h:Parts s b o l)(hm:s'.mem=s.mem)(hn:s'.next=s.next):Parts s' b o l:=
 ⟨fun i v e=>(h.row i v e).same hm hn,fun p hp=>(h.bs p hp).same hm hn⟩
theorem Parts.ext0 {F:Nat→Prop}{s s':St}{b o:Nat}{l:List (Value×List Nat)}(h:Parts s b o l)(e:Ext F Non s s'):Parts s' b o l:=⟨h.row.ext0 e,fun p hp=>(h.bs p hp).ext0 e⟩
section
variable {b o c:Nat}{parts:List (Value×List Nat)}
theorem Parts.get {s:St}(h:Parts s b o parts){i:Nat}(hi:i<parts.length):At s b (o+i*1) parts[i].1∧Bs s parts[i].1 parts[i].2:=by
 refine⟨?_,h.bs _ (List.getElem_mem hi)⟩
 rw[Nat.mul_one]
 exact h.row i _ (by simp[hi])
theorem UE {i:Nat}(hi:i<parts.length):tot (parts.take (i+1))=tot (parts.take i)+parts[i].2.length:=WZ_ (List.getElem?_eq_getElem hi)
theorem UU_ (ht:tot parts≤1000000)(hlen:parts.length≤4611686018427387904){F:Nat→Prop}(hF: ∀x,Fp b o parts x→F x){Q:Value×FrameMode→St→Prop}{s0:St}(hb0:s0.lim≤s0.next)(hp:Parts s0 b o parts): ∀(k i n:Nat) (tm:T Value) (s:St) (td:List Item),i+k=parts.length→7*k+7≤n→skim 64 td=Kl→Ext F Non s0 s→s.mem=s0.mem→s.next=s0.next→
  T.get tm 0=some (.slice (some ⟨b,o,none⟩) parts.length c)→T.get tm 9=some (.slice (some ⟨b,o,none⟩) parts.length c)→T.get tm 10=some (.int .i64 (parts.length:Nat))→T.get tm 11=some (.int .i64 (i:Nat))→T.get tm 3=some (.int .i64 (tot (parts.take i):Nat))→
  (∀n' tm' s1 td',n≤n'+7*k+2→skim 64 td'=Qc→Ext F Non s0 s1→s1.mem=s0.mem→s1.next=s0.next→T.get tm' 0=some (.slice (some ⟨b,o,none⟩) parts.length c)→T.get tm' 3=some (.int .i64 (tot parts:Nat))→W (runF envS n' ⟨63,Kp,Ct,tm',td', .run, .normal,none⟩) s1 Q)→
  W (runF envS n ⟨63,Kp,Ct,tm,td, .run, .normal,none⟩) s Q:=by
 intro k
 induction k with
 |zero=>
  intro i n tm s td hi hn hT hx hm hnx h0 h9 h10 h11 h3 q
  refine Um.w hT (by omega) ?_
  simp -implicitDefEqProofs only[M3,Ad,W_oS,Aa,Ac,Be,h10,h11]
  refine W.cond (v:=false) rfl VI (by simp[T.get_set];omega) (by omega) (fun h=>by cases h) fun _=> ?_
  have e:tot (parts.take i)=tot parts:=by rw[show i=parts.length by omega,List.take_length]
  rw[e]at h3
  exact q _ _ _ _ (by omega) rfl hx hm hnx (by simp[T.get_set,h0]) (by simp[T.get_set,h3])
 |succ k ih=>
  intro i n tm s td hi hn hT hx hm hnx h0 h9 h10 h11 h3 q
  have hil:i<parts.length:=by omega
  obtain⟨g1,g2⟩:=hp.get hil
  have hlt:=UE hil
  have htl:=T4 (l:=parts) (i+1)
  refine Um.w hT (by omega) ?_
  simp -implicitDefEqProofs only[M3,Ad,W_oS,Aa,Ac,Be,h10,h11]
  refine W.cond (v:=true) rfl VI (by simp[T.get_set];omega) (by omega) (fun _=> ?_) fun h=>by cases h
  refine PN_.w rfl (by omega) ?_
  simp -implicitDefEqProofs only[Hj_,Ad,W_oS,Aa,W_mv,Ac,T.get_set,reduceIte,Nat.reduceEqDiff, ↓reduceIte,h9,h11,CS Jx hil]
  refine W.load1 EH (g1.same hm hnx) ?_
  refine MB_.w rfl (by omega) ?_
  have ew:wrap64 ((tot (parts.take i):Nat)+(parts[i].2.length:Nat):Int)=(tot (parts.take (i+1)):Nat):=by
   rw[AP (by omega) (by omega),hlt];simp
  have ei:wrap64 ((i:Nat)+1:Int)=((i+1:Nat):Int):=by
   have:parts.length≤4611686018427387904:=hlen
   rw[AP (by omega) (by omega)];simp
  have hx1:Ext F Non s0 (s.rdN (b+(o+i*1))):=hx.trans (Ext.rdN (F:=F) s _ fun _=>hF _ (.inl ⟨by omega,by omega⟩)) hb0 (fun _ _ h=>h) fun _ _ h=>h
  simp -implicitDefEqProofs only[XT,Ad,W_oS,Aa,W_mv,Ac,T.get_set,Ah,Ag,Af,reduceIte,Nat.reduceEqDiff, ↓reduceIte,By,h3,Bs.len (s:=s.rdN (b+(o+i*1))) (g2.same hm hnx) AE,ew]
  refine Oo_.w rfl (by omega) ?_
  simp -implicitDefEqProofs only[VY,Ad,W_oS,Aa,W_mv,Ac,T.get_set,reduceIte, ↓reduceIte,Be]
  refine W.cond (v:=false) rfl AbX_ (by simp[T.get_set]) (by omega) (fun h=>by cases h) fun _=> ?_
  refine Pw_.w rfl (by omega) ?_
  simp -implicitDefEqProofs only[TC,Ad,W_oS,Aa,W_mv,Ac,T.get_set,reduceIte,Nat.reduceEqDiff, ↓reduceIte,By,h11,ei]
  exact ih (i+1) _ _ _ _ (by omega) (by omega) AaH_ hx1 hm hnx (by simp[T.get_set,h0]) (by simp[T.get_set,h9]) (by simp[T.get_set,h10]) (by simp[T.get_set]) (by simp[T.get_set]) fun n' tm' s1 td' e=>q n' tm' s1 td' (by omega)
end
section
variable {b o c:Nat}{parts:List (Value×List Nat)}
def fl (l:List (Value×List Nat)):List Nat:=(l.map (·.2)).flatten
theorem FL (l:List (Value×List Nat)):(fl l).length=tot l:=by
 unfold fl tot
 rw[List.length_flatten,List.map_map]
 rfl
theorem AbV_ {l:List (Value×List Nat)}{i:Nat}(h:i<l.length):fl (l.take (i+1))=fl (l.take i)++l[i].2:=by
 unfold fl
 rw[List.take_add_one,List.getElem?_eq_getElem h,List.map_append,List.flatten_append]
 simp
theorem AaV_ (ht:tot parts≤1000000)(hlen:parts.length≤4611686018427387904){F:Nat→Prop}(hF: ∀x,Fp b o parts x→F x){Q:Value×FrameMode→St→Prop}{s0:St}(hb0:s0.lim≤s0.next)(hp:Parts s0 b o parts){nb cc:Nat}(hnb:s0.next≤nb)(hcc:cc%capU=tot parts){z:Nat}{ce:Cell}(hz:nb+tot parts≤z): ∀(k i n:Nat) (tm:T Value) (s:St) (td:List Item),i+k=parts.length→6*k+6≤n→skim 64 td=Kx→Ext F Non s0 s→A3 s nb 0 (tot parts)→Ae s nb 0 (u8l (fl (parts.take i)))→(T.get s.mem z=some ce∧z<s.next)→
  T.get tm 25=some (.slice (some ⟨b,o,none⟩) parts.length c)→T.get tm 26=some (.int .i64 (parts.length:Nat))→T.get tm 27=some (.int .i64 (i:Nat))→T.get tm 6=some (.slice (some ⟨nb,0,none⟩) (tot (parts.take i)) cc)→
  (∀n' tm' s1 td',n≤n'+6*k+2→skim 64 td'=Mu→Ext F Non s0 s1→Ae s1 nb 0 (u8l (fl parts))→(T.get s1.mem z=some ce∧z<s1.next)→T.get tm' 6=some (.slice (some ⟨nb,0,none⟩) (tot parts) cc)→W (runF envS n' ⟨63,Kp,Ct,tm',td', .run, .normal,none⟩) s1 Q)→
  W (runF envS n ⟨63,Kp,Ct,tm,td, .run, .normal,none⟩) s Q:=by
 intro k
 induction k with
 |zero=>
  intro i n tm s td hi hn hT hx hown hrow hce h25 h26 h27 h6 q
  refine FW_.w hT (by omega) ?_
  simp -implicitDefEqProofs only[LJ,Ad,W_oS,Aa,Ac,Be,h26,h27]
  refine W.cond (v:=false) rfl Az_ (by simp[T.get_set];omega) (by omega) (fun h=>by cases h) fun _=> ?_
  have e:parts.take i=parts:=by rw[show i=parts.length by omega,List.take_length]
  rw[e]at h6 hrow
  exact q _ _ _ _ (by omega) rfl hx hrow hce (by simp[T.get_set,h6])
 |succ k ih=>
  intro i n tm s td hi hn hT hx hown hrow hce h25 h26 h27 h6 q
  have hil:i<parts.length:=by omega
  obtain⟨g1,g2⟩:=(hp.ext0 hx).get hil
  have hlt:=UE hil
  have htl:=T4 (l:=parts) (i+1)
  refine FW_.w hT (by omega) ?_
  simp -implicitDefEqProofs only[LJ,Ad,W_oS,Aa,Ac,Be,h26,h27]
  refine W.cond (v:=true) rfl Az_ (by simp[T.get_set];omega) (by omega) (fun _=> ?_) fun h=>by cases h
  refine ZZ_.w rfl (by omega) ?_
  simp -implicitDefEqProofs only[Ex_,Ad,W_oS,Aa,W_mv,Ac,T.get_set,reduceIte,Nat.reduceEqDiff, ↓reduceIte,h25,h27,CS Jx hil]
  refine W.load1 EH g1 ?_
  have hx1:Ext F Non s0 (s.rdN (b+(o+i*1))):=hx.trans (Ext.rdN (F:=F) s _ fun _=>hF _ (.inl ⟨by omega,by omega⟩)) hb0 (fun _ _ h=>h) fun _ _ h=>h
  refine Wv_.w rfl (by omega) ?_
  simp -implicitDefEqProofs only[WN,Ad,W_oS,Aa,W_mv,Ac,T.get_set,Ah,Ag,Af,reduceIte,Nat.reduceEqDiff, ↓reduceIte,h6,Eo]
  refine W.appIn (s:=s.rdN (b+(o+i*1))) Gq (g2.same (s':=s.rdN (b+(o+i*1))) rfl rfl).src.g (by rw[hcc];omega) (by rw[A6,Nat.mul_one]) (BT _) (fun j hj=> ?_) fun s2 n2 x2 r2=> ?_
  ·obtain⟨u,hu⟩:=hown (tot (parts.take i)+j) (by omega)
   exact⟨u,by rw[show 0+tot (parts.take i)*1+j=0+(tot (parts.take i)+j) by omega];exact hu⟩
  have ei:wrap64 ((i:Nat)+1:Int)=((i+1:Nat):Int):=by
   rw[AP (by omega) (by omega)];simp
  have hx2:Ext F Non s0 s2:=hx1.step x2 hb0 (fun l hl h=>by
   rcases h with h|h
   ·exact hF _ (.inr ⟨_,List.getElem_mem hil,h⟩)
   ·exact absurd h.1 (by omega)) fun l h=>by have:=h.1;omega
  have el:parts[i].2.length*1=(u8l parts[i].2).length:=by rw[A6,Nat.mul_one]
  rw[el]at x2
  have hown2:A3 s2 nb 0 (tot parts):=A3.ext (s:=s.rdN (b+(o+i*1))) (fun j hj=>let ⟨u,hu⟩:=hown j hj;⟨u,hu.same rfl rfl⟩) x2 r2
  have hrow2:Ae s2 nb 0 (u8l (fl (parts.take (i+1)))):=by
   rw[AbV_ hil]
   unfold u8l
   rw[List.map_append]
   refine Ae.append (Ae.ext (s:=s.rdN (b+(o+i*1))) (fun j v e=>(hrow j v e).same rfl rfl) x2 fun j hj=> ?_) ?_
   ·rw[A6,FL]at hj
    intro h
    have:=h.1
    omega
   ·rw[A6,FL]
    rw[Nat.mul_one]at r2
    exact r2
  refine QU_.w rfl (by omega) ?_
  simp -implicitDefEqProofs only[SG,Ad,W_oS,Aa,W_mv,Ac,T.get_set,reduceIte,Nat.reduceEqDiff, ↓reduceIte,By,h27,ei]
  exact ih (i+1) _ _ _ _ (by omega) (by omega) YT_ hx2 hown2 hrow2 ⟨by rw[x2.mem z hce.2 fun h=>by have h1:=h.2;rw[A6]at h1;omega];exact hce.1,Nat.lt_of_lt_of_le hce.2 x2.nxt⟩ (by simp[T.get_set,h25]) (by simp[T.get_set,h26]) (by simp[T.get_set]) (by simp[T.get_set,hlt]) fun n' tm' s1 td' e=>q n' tm' s1 td' (by omega)
end
structure New (s s':St)(v:Value)(l:List Nat):Prop where
 bn:Bn s' v l
 new: ∀x,BsF v x→s.next≤x
theorem Bn.same {s s':St}{v:Value}{l:List Nat}(h:Bn s v l)(hm:s'.mem=s.mem)(hn:s'.next=s.next):Bn s' v l:=by
 obtain⟨b,o,c,h0,h1,h2,h3⟩:=h
 exact⟨b,o,c,h0,h1,h2,fun i v e=>(h3 i v e).same hm hn⟩
structure MkG (s:St)(v:Value)(l:List Nat)(b:Nat):Prop where
 val:v= .slice (some ⟨b,0,none⟩) l.length (capU*((b+l.length)*1024+1)+l.length)
 own:Ae s b 0 (u8l l)
 tok:T.get s.mem (b+l.length)=some (.O (.tok false 1025))
 lt:b+l.length<s.next
theorem MkG.same {s s':St}{v:Value}{l:List Nat}{b:Nat}(h:MkG s v l b)(hm:s'.mem=s.mem)(hn:s'.next=s.next):MkG s' v l b:=
 ⟨h.val,fun i u e=>(h.own i u e).same hm hn,by rw[hm];exact h.tok,by rw[hn];exact h.lt⟩
theorem MkG.ext {F G:Nat→Prop}{s s':St}{v:Value}{l:List Nat}{b:Nat}(h:MkG s v l b)(e:Ext F G s s')(hG: ∀x,In b 0 (l.length+1) x→ ¬G x):MkG s' v l b:=
 ⟨h.val,fun i u q=>(h.own i u q).ext e (hG _ ⟨by omega,by have:=(List.getElem?_eq_some_iff.1 q).1;rw[A6]at this;omega⟩),by rw[e.mem _ h.lt (hG _ ⟨by omega,by omega⟩)];exact h.tok,Nat.lt_of_lt_of_le h.lt e.nxt⟩
theorem MkG.bn {s:St}{v:Value}{l:List Nat}{b:Nat}(h:MkG s v l b)(hl:l.length≤1073741824):Bn s v l:=
 ⟨b,0,_,h.val,by rw[FM (Bh hl)];exact Nat.le_refl _,Ey (Bh hl) (by decide),h.own.row⟩
theorem MkG.new {s0 s:St}{v:Value}{l:List Nat}{b:Nat}(h:MkG s v l b)(hl:l.length≤1073741824)(hb:s0.next≤b):New s0 s v l:=
 ⟨h.bn hl,fun x hx=>by rw[h.val]at hx;have:=hx.1;omega⟩
theorem LM_ {n:Nat}{s:St}{b o c:Nat}{parts:List (Value×List Nat)}{Q:Value→St→Prop}(hbd:s.lim≤s.next)(hp:Parts s b o parts)(h0:0<tot parts)(ht:tot parts≤1000000)(hlen:parts.length≤4611686018427387904)(hn:13*parts.length+60≤n)
  (q: ∀s1 v nb,Ext (Fp b o parts) Non s s1→MkG s1 v (fl parts) nb→s.next≤nb→Q v s1):W (Ai envS (runF envS n) 63 [.slice (some ⟨b,o,none⟩) parts.length c]) s Q:=by
 refine Ih_ fun tm hk0=> ?_
 have hpc:Parts (s.cxN cxN) b o parts:=hp.same rfl rfl
 refine Qw_.w rfl (by omega) ?_
 simp -implicitDefEqProofs only[QE,Aa,W_mv,Ac]
 refine Ig_.w rfl (by omega) ?_
 simp -implicitDefEqProofs only[ZM,Aa,W_mv,Ac]
 refine Md_.w rfl (by omega) ?_
 simp -implicitDefEqProofs only[UA,Ad,W_oS,Aa,W_mv,Ac,T.get_set,Ah,Ag,Af,reduceIte,reduceCtorEq, ↓reduceIte,hk0,B5 Jx]
 refine UU_ (c:=c) ht hlen (F:=Fp b o parts) (fun _ h=>h) (s0:=s.cxN cxN) hbd hpc parts.length 0 _ _ _ _ (by omega) (by omega) rfl (Ext.refl _) rfl rfl (by simp[T.get_set,hk0]) (by simp[T.get_set]) (by simp[T.get_set]) (by simp[T.get_set]) (by simp[T.get_set,tot]) fun n1 tm1 s1 td1 hn1 hT1 hx1 hm1 hnx1 g0 g3=> ?_
 refine LO_.w hT1 (by omega) ?_
 simp -implicitDefEqProofs only[Bu_,Ad,W_on,Aa,W_mv,Ac,Ah,Ag,Af,Ar,g3]
 have hb1:s1.lim≤s1.next:=hx1.bnd hbd
 refine Ji_ hb1 (by omega) h0 ht fun s2 v nb hr x2=> ?_
 obtain⟨rfl,hnew,hown,htok,hlt⟩:=hr
 have hx2:Ext (Fp b o parts) Non (s.cxN cxN) s2:=hx1.step x2 hbd (fun _ _ h=>h.elim) fun _ h=>h.elim
 have hnb:s.next≤nb:=by
  have:s1.next=s.next:=hnx1
  omega
 have hcc:=FM (q:=(nb+tot parts*1)*1024+1) (Bh (n:=tot parts) (by omega))
 have hok:=Ey (m:=nb+tot parts*1) (sz:=1) (Bh (n:=tot parts) (by omega)) (by decide)
 generalize hC:capU*((nb+tot parts*1)*1024+1)+tot parts=C at *
 refine IC_.w rfl (by omega) ?_
 simp -implicitDefEqProofs only[Hp_,Ad,W_oS,Aa,W_mv,Ac,T.get_set,Ah,Ag,Af,reduceIte,reduceCtorEq, ↓reduceIte,g0,B5 Jx]
 refine AaV_ (c:=c) ht hlen (F:=Fp b o parts) (fun _ h=>h) (s0:=s.cxN cxN) hbd hpc (nb:=nb) (cc:=C) hnb hcc (z:=nb+tot parts) (Nat.le_refl _) parts.length 0 _ _ _ _ (by omega) (by omega) rfl hx2 (by have:=hown.owned;rwa [List.length_replicate]at this) (fun i v e=>by simp[fl]at e) ⟨htok,hlt⟩ (by simp[T.get_set]) (by simp[T.get_set]) (by simp[T.get_set]) (by simp[T.get_set,tot]) fun n3 tm3 s3 td3 hn3 hT3 hx3 hrow hz3 g6=> ?_
 refine Ir_.w hT3 (by omega) ?_
 simp -implicitDefEqProofs only[Z8,Aa,W_mv,Ac,g6]
 refine W.end' (rs:=[2]) (vs:=[.slice (some ⟨nb,0,none⟩) (tot parts) C]) rfl (.inl Qb_) (by omega) Fb_ RW_ hx3.cx (by simp[T.get_set]) ?_
 have hC':C=capU*((nb+(fl parts).length)*1024+1)+(fl parts).length:=by rw[←hC,FL,Nat.mul_one]
 refine q _ (.slice (some ⟨nb,0,none⟩) (tot parts) C) nb hx3.cx' ⟨by rw[←hC',FL],fun i u e=>(hrow i u e).same rfl rfl,by rw[FL];exact hz3.1,by rw[FL];exact hz3.2⟩ hnb
theorem JA_ {n:Nat}{s:St}{b o c:Nat}{parts:List (Value×List Nat)}{Q:Value→St→Prop}(hbd:s.lim≤s.next)(hp:Parts s b o parts)(h0:0<tot parts)(ht:tot parts≤1000000)(hlen:parts.length≤4611686018427387904)(hn:13*parts.length+60≤n)
  (q: ∀s1 v,Ext (Fp b o parts) Non s s1→New s s1 v (fl parts)→Q v s1):W (Ai envS (runF envS n) 63 [.slice (some ⟨b,o,none⟩) parts.length c]) s Q:=
 LM_ hbd hp h0 ht hlen hn fun s1 v _ x h hn=>q s1 v x (h.new (by rw[FL];omega) hn)
theorem RD_:elT envS 43=some (1,24,[.slice none 0 0]):=by kernel_rfl
theorem Gg:hasT envS 51=true:=by kernel_rfl
theorem DP:intK envS 5=some .u8:=by kernel_rfl
def le4 (n:Nat):List Nat:=[n%256,n>>>8%256,n>>>16%256,n>>>24%256]
def gput (l:List Nat):List Nat:=l++le4 (Cu 0 l)
theorem Byt.le4 (n:Nat):Byt (le4 n):=fun x hx=>by
 simp -implicitDefEqProofs only[Am.le4,List.mem_cons,List.not_mem_nil,or_false]at hx
 omega
theorem Byt.gput {l:List Nat}(h:Byt l):Byt (gput l):=fun x hx=>by
 rcases List.mem_append.1 hx with hx|hx
 ·exact h x hx
 ·exact Byt.le4 _ x hx
theorem TF_ {n:Nat}{s:St}{v:Value}{l:List Nat}{Q:Value→St→Prop}(hbd:s.lim≤s.next)(hn:120≤n)(h:Bn s v l)(hl:Byt l)(hz:l.length≤900000)
  (q: ∀s1 w,Ext (BsF v) Non s s1→New s s1 w (gput l)→Q w s1):W (Ai envS (runF envS n) 64 [v]) s Q:=by
 refine OM_ fun tm h0=> ?_
 have hc:Bn (s.cxN cxN) v l:=h.same rfl rfl
 refine PS_.w rfl (by omega) ?_
 simp -implicitDefEqProofs only[Q9,Aa,W_mv,Ac]
 refine Wo_.w rfl (by omega) ?_
 simp -implicitDefEqProofs only[DD_,Ad,W_on,Aa,W_mv,Ac,T.get_set,Ah,Ag,Af,Ar,reduceIte,reduceCtorEq, ↓reduceIte,h0]
 refine EN_ (by omega) hc hl (by omega) fun s1 m1 n1 x1=> ?_
 refine XK_.w rfl (by omega) ?_
 generalize hS:Cu 0 l=S
 simp -implicitDefEqProofs only[Vq,Ad,W_oS,W_on,Aa,W_mv,Ac,T.get_set,Ah,Ag,A8,A2,Af,Ar,reduceIte,reduceCtorEq, ↓reduceIte,h0]
 simp -implicitDefEqProofs only[CO Gg DP,wrap_u8,Gv (k:= .u32) (by decide),Li (k:= .u32) (by decide),Mi (k:= .u32) (by decide)]
 have hb1:s1.lim≤s1.next:=x1.bnd hbd
 refine W.buildS hb1 (r:=u8l (le4 S)) CU (by decide) rfl (Bh (by decide)) fun s2 n2 x2 r2=> ?_
 have hb2:s2.lim≤s2.next:=x2.bnd hb1
 obtain⟨b,o,c,rfl,hv⟩:=hc
 refine W.buildS hb2 (r:=[.slice (some ⟨b,o,none⟩) l.length c, .slice (some ⟨s1.next,0,none⟩) 4 4]) RD_ (by decide) rfl (Bh (by decide)) fun s3 n3 x3 r3=> ?_
 have hb3:s3.lim≤s3.next:=x3.bnd hb2
 have hx1:Ext (BsF (.slice (some ⟨b,o,none⟩) l.length c)) Non (s.cxN cxN) s1:=x1
 have hx2:=hx1.step x2 hbd (fun _ _ h=>h.elim) fun _ h=>h.elim
 have hx3:=hx2.step x3 hbd (fun _ _ h=>h.elim) fun _ h=>h.elim
 have hBv:Bs s3 (.slice (some ⟨b,o,none⟩) l.length c) l:=(Bn.bs ⟨b,o,c,rfl,hv⟩).ext0 hx3
 have hB4:Bs s3 (.slice (some ⟨s1.next,0,none⟩) 4 4) (le4 S):=(Ae.bn r2 (Bh (by simp[le4]))).ext0 x3
 have hlt:tot [((.slice (some ⟨b,o,none⟩) l.length c:Value),l),(.slice (some ⟨s1.next,0,none⟩) 4 4,le4 S)]=l.length+4:=by simp[tot,le4]
 refine JA_ (parts:=[(.slice (some ⟨b,o,none⟩) l.length c,l),(.slice (some ⟨s1.next,0,none⟩) 4 4,le4 S)]) hb3 ⟨r3.row,fun p hp=> ?_⟩ (by rw[hlt];omega) (by rw[hlt];omega) (by simp) (by simp;omega) fun s4 w x4 hw=> ?_
 ·rcases List.mem_cons.1 hp with rfl|hp
  ·exact hBv
  ·rcases List.mem_cons.1 hp with rfl|hp
   ·exact hB4
   ·cases hp
 have hx4:=hx3.step x4 hbd (fun x hx h=>by
  have hn1:s.next≤s1.next:=x1.nxt
  have hn2:s1.next≤s2.next:=x2.nxt
  have hxl:x<s.lim:=hx
  rcases h with h|⟨p,hp,h⟩
  ·have:=h.1;omega
  ·rcases List.mem_cons.1 hp with rfl|hp
   ·exact h
   ·rcases List.mem_cons.1 hp with rfl|hp
    ·have:s1.next+0≤x:=h.1
     omega
    ·cases hp) fun _ h=>h.elim
 refine W.end' (rs:=[2]) (vs:=[w]) rfl (.inl Iu_) (by omega) Dj_ SQ_ hx4.cx (by simp[T.get_set]) ?_
 refine q _ _ hx4.cx' ⟨?_,fun x hx=> ?_⟩
 ·have:=hw.bn.same (s':=s4.cxN s.cx) rfl rfl
  show Bn (s4.cxN s.cx) w (gput l)
  unfold gput
  rw[hS]
  simpa [fl]using this
 ·have h1:=hw.new x hx
  have h2:s.next≤s3.next:=hx3.nxt
  omega
theorem Bs.at {s:St}{v:Value}{l:List Nat}(h:Bs s v l){i:Nat}(hi:i<l.length): ∃b o c,v= .slice (some ⟨b,o,none⟩) l.length c∧At s b (o+i*1) (u8 l[i])∧(∀x,x=b+(o+i*1)→BsF v x):=by
 rcases h with⟨rfl,rfl⟩|⟨b,o,c,rfl,_,_,h3⟩
 ·simp at hi
 ·refine⟨b,o,c,rfl, ?_,fun x hx=>⟨by omega,by omega⟩⟩
  rw[Nat.mul_one]
  exact h3.at (List.getElem?_eq_getElem hi)
section
variable {va vb:Value}{la lb:List Nat}
theorem QZ_ {F:Nat→Prop}(hFa: ∀x,BsF va x→F x)(hFb: ∀x,BsF vb x→F x){Q:Value×FrameMode→St→Prop}{s0:St}(hb0:s0.lim≤s0.next)(ha:Bs s0 va la)(hb:Bs s0 vb lb)(hlen:la.length=lb.length)(hz:la.length≤4611686018427387904)(hcx:s0.cx= .cx none (some []))(q: ∀s1,Ext F Non s0 s1→s1.mem=s0.mem→s1.next=s0.next→Q (.bool (decide (la=lb)), .run) s1):
  ∀(k i n:Nat) (tm:T Value) (s:St) (td:List Item),i+k=la.length→7*k+20≤n→skim 64 td=Iu→Ext F Non s0 s→s.mem=s0.mem→s.next=s0.next→la.take i=lb.take i→
  T.get tm 0=some va→T.get tm 1=some vb→T.get tm 12=some (.int .i64 (la.length:Nat))→T.get tm 13=some (.int .i64 (i:Nat))→
  W (runF envS n ⟨116,ZP_,Dp,tm,td, .run, .normal,none⟩) s Q:=by
 intro k
 induction k with
 |zero=>
  intro i n tm s td hi hn hT hx hm hnx heq h0 h1 h12 h13
  refine Y0.w hT (by omega) ?_
  simp -implicitDefEqProofs only[Qg,Ad,W_oS,Aa,Ac,Be,h12,h13]
  refine W.cond (v:=false) rfl Gz_ (by simp[T.get_set];omega) (by omega) (fun h=>by cases h) fun _=> ?_
  refine Wd_.w rfl (by omega) ?_
  simp -implicitDefEqProofs only[Tn,Aa,W_mv,Ac]
  have e:la=lb:=by
   rw[show i=la.length by omega,List.take_length,hlen,List.take_length]at heq
   exact heq
  refine W.end' (rs:=[4]) (vs:=[.bool true]) rfl (.inl Abn_) (by omega) J0 LV (hx.cx.trans hcx) (by simp[T.get_set]) ?_
  have:=q s hx hm hnx
  rw[decide_eq_true e]at this
  exact this
 |succ k ih=>
  intro i n tm s td hi hn hT hx hm hnx heq h0 h1 h12 h13
  have hia:i<la.length:=by omega
  have hib:i<lb.length:=by omega
  obtain⟨ba,oa,ca,rfl,ga,fa⟩:=ha.at hia
  obtain⟨bb,ob,cb,rfl,gb,fb⟩:=hb.at hib
  refine Y0.w hT (by omega) ?_
  simp -implicitDefEqProofs only[Qg,Ad,W_oS,Aa,Ac,Be,h12,h13]
  refine W.cond (v:=true) rfl Gz_ (by simp[T.get_set];omega) (by omega) (fun _=> ?_) fun h=>by cases h
  refine NW_.w rfl (by omega) ?_
  simp -implicitDefEqProofs only[CK_,Aa,W_mv,Ac,T.get_set,reduceIte,Nat.reduceEqDiff, ↓reduceIte,h13]
  refine ZF_.w rfl (by omega) ?_
  simp -implicitDefEqProofs only[DE_,T.get_set,Nat.reduceEqDiff, ↓reduceIte,h0,h1,BG,Ap]
  rw[W_dq fun s Q=>CS (s:=s) AE hia Q]
  refine W.dload CG (ga.same hm hnx) fun rd1 hr1=> ?_
  simp -implicitDefEqProofs only[Ap]
  rw[W_dq fun s Q=>CS (s:=s) AE hib Q]
  refine W.dload CG (gb.same hm hnx) fun rd2 hr2=> ?_
  rw[Aa]
  refine⟨Dn (by simp) (by simp), ?_⟩
  refine W.cast (UP_ _ _ _ _ _ _ _ _ _ _ _ _ _) ?_
  simp -implicitDefEqProofs only[Ad,W_oS,Aa,AJ,RH_]
  generalize hs':(⟨(dSt s.mem s.next).mem,(dSt s.mem s.next).next,s.lim,_,_,s.cx⟩:St)=s'
  have hx':Ext F Non s0 s':=by
   rw[←hs']
   refine hx.trans (Ext.draw (F:=F) (Nat.le_refl _) (fun _ _=>rfl) (by simp) (by
    simp -implicitDefEqProofs only[List.mem_cons,List.not_mem_nil,or_false]
    rintro m (rfl|rfl|rfl|rfl|rfl|rfl|rfl|rfl) x hx _<;>first|(exact hFa _ (fa _ (hr1 _ hx)))|(exact hFb _ (fb _ (hr2 _ hx)))|(cases hx))) hb0 (fun _ _ h=>h) fun _ _ h=>h
  have hm':s'.mem=s0.mem:=by rw[←hs'];exact hm
  have hn':s'.next=s0.next:=by rw[←hs'];exact hnx
  by_cases he:la[i]=lb[i]
  ·refine W.cond (v:=false) rfl Dh_ (by simp[T.get_set,he]) (by omega) (fun h=>by cases h) fun _=> ?_
   refine LF_.w rfl (by omega) ?_
   have ei:wrap64 ((i:Nat)+1:Int)=((i+1:Nat):Int):=by
    rw[AP (by omega) (by omega)];simp
   simp -implicitDefEqProofs only[Zq,Ad,W_oS,Aa,W_mv,Ac,T.get_set,reduceIte,Nat.reduceEqDiff, ↓reduceIte,By,h13,ei]
   refine ih (i+1) _ _ _ _ (by omega) (by omega) UJ_ hx' hm' hn' ?_ (by simp[T.get_set,h0]) (by simp[T.get_set,h1]) (by simp[T.get_set,h12]) (by simp[T.get_set])
   rw[List.take_add_one,List.take_add_one,heq,List.getElem?_eq_getElem hia,List.getElem?_eq_getElem hib,he]
  ·refine W.cond (v:=true) rfl Dh_ (by simp[T.get_set,he]) (by omega) (fun _=> ?_) fun h=>by cases h
   refine Aag_.w rfl (by omega) ?_
   simp -implicitDefEqProofs only[CN_,Aa,W_mv,Ac]
   have e:la≠lb:=by
    intro e
    subst e
    exact he rfl
   refine W.end' (rs:=[4]) (vs:=[.bool false]) rfl (.inl ZH_) (by omega) J0 LV (hx'.cx.trans hcx) (by simp[T.get_set]) ?_
   have:=q s' hx' hm' hn'
   rw[decide_eq_false e]at this
   exact this
theorem Uu_ {n:Nat}{s:St}{Q:Value→St→Prop}(hbd:s.lim≤s.next)(ha:Bs s va la)(hb:Bs s vb lb)(hz:la.length≤4611686018427387904)(hn:7*la.length+40≤n)
  (q: ∀s1,Ext (fun x=>BsF va x∨BsF vb x) Non s s1→s1.mem=s.mem→s1.next=s.next→Q (.bool (decide (la=lb))) s1):W (Ai envS (runF envS n) 116 [va,vb]) s Q:=by
 refine NB_ fun tm h0 h1=> ?_
 have ha':Bs (s.cxN cxN) va la:=ha.same rfl rfl
 have hb':Bs (s.cxN cxN) vb lb:=hb.same rfl rfl
 refine Mj_.w rfl (by omega) ?_
 simp -implicitDefEqProofs only[VL,Aa,W_mv,Ac]
 refine LU_.w rfl (by omega) ?_
 simp -implicitDefEqProofs only[Da_,Ad,W_oS,Aa,W_mv,Ac,T.get_set,Ah,Ag,Af,reduceIte,Nat.reduceEqDiff,reduceCtorEq, ↓reduceIte,Dj,h0,h1,ha'.len AE,hb'.len AE]
 by_cases hlen:la.length=lb.length
 ·refine W.cond (v:=false) rfl Rr (by simp[T.get_set,hlen]) (by omega) (fun h=>by cases h) fun _=> ?_
  refine QQ_.w rfl (by omega) ?_
  simp -implicitDefEqProofs only[CX_,Ad,W_oS,Aa,W_mv,Ac,T.get_set,Ah,Ag,Af,reduceIte,reduceCtorEq, ↓reduceIte,h0,ha'.len AE]
  exact QZ_ (s0:=s.cxN cxN) (F:=fun x=>BsF va x∨BsF vb x) (fun _ h=> .inl h) (fun _ h=> .inr h) hbd ha' hb' hlen hz rfl (fun s1 x1 m1 n1=>q _ x1.cx' m1 n1) la.length 0 _ _ _ _ (by omega) (by omega) rfl (Ext.refl _) rfl rfl (by simp) (by simp[T.get_set,h0]) (by simp[T.get_set,h1]) (by simp[T.get_set]) (by simp[T.get_set])
 ·refine W.cond (v:=true) rfl Rr (by simp[T.get_set];omega) (by omega) (fun _=> ?_) fun h=>by cases h
  refine Ju_.w rfl (by omega) ?_
  simp -implicitDefEqProofs only[Fx_,Aa,W_mv,Ac]
  have e:la≠lb:=fun e=>hlen (by rw[e])
  refine W.end' (rs:=[4]) (vs:=[.bool false]) rfl (.inl IR_) (by omega) J0 LV rfl (by simp[T.get_set]) ?_
  have:=q _ (Ext.refl s) rfl rfl
  rw[decide_eq_false e]at this
  exact this
end
theorem Fresh1.toNew {s s':St}{v:Value}{b:Nat}{l:List Nat}(h:Fresh1 s s' 1 l.length (u8l l) v b)(hl:l.length<capU):New s s' v l:=by
 obtain⟨rfl,hnew,hown,_,_,_⟩:=h
 refine⟨⟨b,0,_,rfl,by rw[FM hl];exact Nat.le_refl _,Ey hl (by decide),hown.row⟩,fun x hx=> ?_⟩
 have:b+0≤x:=hx.1
 omega
theorem Yi_ {n:Nat}{s:St}{v:Value}{l:List Nat}{Q:Value→St→Prop}(hbd:s.lim≤s.next)(h:Bn s v l)(hz:l.length≤1000000)(hn:30≤n)
  (q: ∀s1 w,Ext (BsF v) Non s s1→New s s1 w l→(0<l.length→ ∃nb,MkG s1 w l nb∧s.next≤nb)→Q w s1):W (Ai envS (runF envS n) 117 [v]) s Q:=by
 refine YQ_ fun tm h0=> ?_
 have hc:Bn (s.cxN cxN) v l:=h.same rfl rfl
 refine Rg_.w rfl (by omega) ?_
 simp -implicitDefEqProofs only[Vr,Aa,W_mv,Ac]
 refine Od_.w rfl (by omega) ?_
 obtain⟨b,o,c,rfl,hv⟩:=hc
 simp -implicitDefEqProofs only[VG,Ad,W_oS,Aa,W_mv,Ac,T.get_set,reduceIte,reduceCtorEq, ↓reduceIte,h0,OG_ AE]
 refine W.cond (v:=false) rfl Qc_ (by simp[T.get_set]) (by omega) (fun h=>by cases h) fun _=> ?_
 refine OZ_.w rfl (by omega) ?_
 simp -implicitDefEqProofs only[Xh,Ad,W_oS,Aa,W_mv,Ac,T.get_set,Ah,Ag,A2,Af,reduceIte,reduceCtorEq, ↓reduceIte,h0]
 refine W.buildS (s:=s.cxN cxN) hbd (r:=[]) CU (by decide) rfl (Bh (by decide)) fun s1 n1 x1 r1=> ?_
 have hb1:s1.lim≤s1.next:=x1.bnd hbd
 have hx1:Ext (BsF (.slice (some ⟨b,o,none⟩) l.length c)) Non (s.cxN cxN) s1:=x1.weak hbd (fun _ _ h=>h.elim) fun _ _ h=>h
 have hv1:Bs s1 (.slice (some ⟨b,o,none⟩) l.length c) l:=(Bn.bs ⟨b,o,c,rfl,hv⟩).ext0 hx1
 rw[Eo]
 by_cases hl:0<l.length
 ·refine W.appEmpT hb1 Gq hv1.src.g hl (by decide) (by decide) (by omega) (by rw[A6,Nat.mul_one]) (BT _) fun s2 w nb hf hT x2=> ?_
  have hx2:=hx1.step x2 hbd (fun _ _ h=>h) fun _ h=>h.elim
  refine W.end' (rs:=[2]) (vs:=[w]) rfl (.inl Gp_) (by omega) PX Rc hx2.cx (by simp[T.get_set]) ?_
  have hN:=hf.toNew (Bh (by omega))
  have h2:s.next≤s1.next:=hx1.nxt
  refine q _ _ hx2.cx' ⟨hN.bn.same rfl rfl,fun x hx=> ?_⟩ fun _=>⟨nb,⟨?_,fun i u e=>(hf.own i u e).same rfl rfl,by rw[Nat.mul_one]at hT;exact hT,by have:=hf.lt;rw[Nat.mul_one]at this;exact this⟩,Nat.le_trans h2 hf.new⟩
  ·have h1:=hN.new x hx
   omega
  ·have:=hf.val
   rw[Nat.mul_one]at this
   exact this
 ·have h0l:l=[]:=List.eq_nil_of_length_eq_zero (by omega)
  subst h0l
  refine W.appIn (s:=s1) (n:=0) (len:=0) (c:=0) (l:=[]) Gq hv1.src.g (by simp) rfl rfl (fun i hi=>absurd hi (by omega)) fun s2 n2 x2 r2=> ?_
  have hx2:=hx1.step x2 hbd (fun _ _ h=>by
   rcases h with h|h
   ·exact h
   ·have h3:=h.1;have h4:=h.2;omega) fun l h=>by have h3:=h.1;have h4:=h.2;omega
  refine W.end' (rs:=[2]) (vs:=[.slice (some ⟨s.next,0,none⟩) (0+0) 0]) rfl (.inl Gp_) (by omega) PX Rc hx2.cx (by simp[T.get_set];rfl) ?_
  refine q _ _ hx2.cx' ⟨⟨s.next,0,0,rfl,by simp,DX (by unfold capU;decide),fun i v e=>by simp at e⟩,fun x hx=> ?_⟩ fun h=>absurd h hl
  have h3:s.next+0≤x:=hx.1
  have h4:x<s.next+0+(0+0):=hx.2
  omega
theorem W.cut {E:Env}{t:Nat}{s:St}{v:Value}{l:List Nat}{i j:Nat}{lo hi:Option Value}{Q:Value→St→Prop}(h:Bn s v l)(ht:slN E t=some 1)(hlo:bndV lo 0=some i)(hhi:bndV hi l.length=some j)(hij:i≤j)(hj:j≤l.length)
  (q: ∀v',Bn s v' ((l.take j).drop i)→(∀x,BsF v' x→BsF v x)→Q v' s):W (BB E t v lo hi) s Q:=by
 obtain⟨b,o,c,rfl,h1,h2,h3⟩:=h
 rw[Gm ht hlo hhi hij (by omega) h2]
 obtain⟨o',e1,e2,e3,e4,e5⟩:=Bs.sub' hij hj h1 h2 h3
 rw[e1]
 refine q _ ⟨b,o',c-i,rfl,e2,e3,e4⟩ fun x hx=> ?_
 have hlen:((l.take j).drop i).length=j-i:=by rw[List.length_drop,List.length_take];omega
 have h6:b+o'≤x:=hx.1
 have h7:x<b+o'+((l.take j).drop i).length:=hx.2
 rw[hlen]at h7
 rcases e5 with rfl|e5
 ·exact⟨by omega,by omega⟩
 ·rw[hlen]at e5;omega
def GOk (l:List Nat):Prop:=4≤l.length∧gput (l.take (l.length-4))=l
instance (l:List Nat):Decidable (GOk l):=by unfold GOk;infer_instance
theorem Lr (l:List Nat):(gput l).length=l.length+4:=by simp[gput,le4]
theorem WW_ {n:Nat}{s:St}{v:Value}{l:List Nat}{Q:Value→St→Prop}(hbd:s.lim≤s.next)(h:Bn s v l)(hb:Byt l)(hz:l.length≤900000)(hn:7*l.length+200≤n)
  (q1:GOk l→ ∀s1 w,Ext (BsF v) Non s s1→New s s1 w (l.take (l.length-4))→(4<l.length→ ∃nb,MkG s1 w (l.take (l.length-4)) nb∧s.next≤nb)→Q (.tuple #[w, .int .i64 0]) s1) (q2: ¬GOk l→ ∀s1,Ext (BsF v) Non s s1→Q (.tuple #[.slice none 0 0, .int .i64 4]) s1):W (Ai envS (runF envS n) 81 [v]) s Q:=by
 refine YV_ fun tm h0=> ?_
 have hc:Bn (s.cxN cxN) v l:=h.same rfl rfl
 refine RR_.w rfl (by omega) ?_
 simp -implicitDefEqProofs only[Ej_,Aa,W_mv,Ac]
 refine JJ_.w rfl (by omega) ?_
 simp -implicitDefEqProofs only[Sl,Ad,W_oS,Aa,W_mv,Ac,T.get_set,Ah,Ag,Af,reduceIte,reduceCtorEq, ↓reduceIte,Cm,h0,hc.bs.len AE]
 refine Ace_.w rfl (by omega) ?_
 by_cases h4:4≤l.length
 ·have ek:wrap64 ((l.length:Nat)-4:Int)=((l.length-4:Nat):Int):=by
   rw[AP (by omega) (by omega)];omega
  have ed:decide (((l.length-4:Nat):Int)<0)=false:=by simp
  simp -implicitDefEqProofs only[P9,Ad,W_oS,W_on,Aa,W_mv,Ac,T.get_set,Ah,Ag,Af,Ar,reduceIte,Ax,A5,A9,Bb,AA,reduceCtorEq, ↓reduceIte,Be,h0,ek,ed]
  have hcut:(l.take (l.length-4)).drop 0=l.take (l.length-4):=rfl
  refine W.cut hc AE (i:=0) (j:=l.length-4) rfl rfl (Nat.zero_le _) (by omega) fun v1 hv1 hF1=> ?_
  rw[hcut]at hv1
  have hB1:Byt (l.take (l.length-4)):=fun x hx=>hb x (List.mem_of_mem_take hx)
  have hl1:(l.take (l.length-4)).length=l.length-4:=by rw[List.length_take];omega
  refine TF_ (s:=s.cxN cxN) hbd (by omega) hv1 hB1 (by omega) fun s1 w1 x1 hw1=> ?_
  have hb1:s1.lim≤s1.next:=x1.bnd hbd
  have hx1:Ext (BsF v) Non (s.cxN cxN) s1:=x1.weak hbd (fun x _ hx=>hF1 x hx) fun _ _ h=>h
  refine Uu_ hb1 hw1.bn.bs (hc.ext0 hx1).bs (by rw[Lr];omega) (by rw[Lr];omega) fun s2 x2 m2 n2=> ?_
  have hx2:Ext (BsF v) Non (s.cxN cxN) s2:=hx1.step x2 hbd (fun x hx h=>by
   rcases h with h|h
   ·have h5:s.next≤x:=hw1.new x h
    have h6:x<s.lim:=hx
    omega
   ·exact h) fun _ h=>h.elim
  have hb2:s2.lim≤s2.next:=hx2.bnd hbd
  simp -implicitDefEqProofs only[CJ]
  by_cases hg:gput (l.take (l.length-4))=l
  ·refine W.cond (v:=false) rfl N3 (by simp[T.get_set,hg]) (by omega) (fun h=>by cases h) fun _=> ?_
   refine Jz_.w rfl (by omega) ?_
   simp -implicitDefEqProofs only[SE,Ad,W_on,Aa,W_mv,Ac,T.get_set,Ah,Ag,Af,Ar,reduceIte,Nat.reduceEqDiff,reduceCtorEq, ↓reduceIte,h0]
   refine W.cut (hc.ext0 hx2) AE (i:=0) (j:=l.length-4) rfl rfl (Nat.zero_le _) (by omega) fun v3 hv3 hF3=> ?_
   rw[hcut]at hv3
   refine Yi_ hb2 hv3 (by omega) (by omega) fun s3 w x3 hw3 hm3=> ?_
   have hx3:Ext (BsF v) Non (s.cxN cxN) s3:=hx2.step x3 hbd (fun x _ hx=>hF3 x hx) fun _ h=>h.elim
   refine W.end' (rs:=[2,3]) (vs:=[w, .int .i64 0]) rfl (.inl Wz_) (by omega) KF Pu hx3.cx (by simp[T.get_set]) ?_
   have h6:s.next≤s2.next:=hx2.nxt
   refine q1 ⟨h4,hg⟩ _ w hx3.cx' ⟨hw3.bn.same rfl rfl,fun x hx=> ?_⟩ fun h=> ?_
   ·have h5:=hw3.new x hx
    omega
   ·obtain⟨nb,g1,g2⟩:=hm3 (by rw[hl1];omega)
    exact⟨nb,g1.same rfl rfl,Nat.le_trans h6 g2⟩
  ·refine W.cond (v:=true) rfl N3 (by simp[T.get_set,hg]) (by omega) (fun _=> ?_) fun h=>by cases h
   refine Fz_.w rfl (by omega) ?_
   simp -implicitDefEqProofs only[PO,Aa,W_mv,Ac]
   refine W.end' (rs:=[2,3]) (vs:=[.slice none 0 0, .int .i64 4]) rfl (.inl Sd) (by omega) KF Pu hx2.cx (by simp[T.get_set]) ?_
   exact q2 (fun h=>hg h.2) _ hx2.cx'
 ·have ed:decide (wrap64 ((l.length:Nat)-4:Int)<0)=true:=by
   rw[AP (by omega) (by omega)];simp;omega
  simp -implicitDefEqProofs only[P9,Ad,W_oS,W_on,Aa,W_mv,Ac,T.get_set,Ah,Ag,Af,reduceIte,Ax,Ba,A9,Bo,AA,reduceCtorEq, ↓reduceIte,Be,h0,ed]
  refine W.cond (v:=true) rfl N3 (by simp[T.get_set]) (by omega) (fun _=> ?_) fun h=>by cases h
  refine Fz_.w rfl (by omega) ?_
  simp -implicitDefEqProofs only[PO,Aa,W_mv,Ac]
  refine W.end' (rs:=[2,3]) (vs:=[.slice none 0 0, .int .i64 4]) rfl (.inl Sd) (by omega) KF Pu rfl (by simp[T.get_set]) ?_
  exact q2 (fun h=>h4 h.1) _ (Ext.refl s)
def NC:Nat:=Bm Try.f110
def Vv:Code:=Try.f110.body.getD .skip
theorem Af_:envS.fn.get 110=some Try.f110:=by kernel_rfl
theorem Aae_ {n:Nat}{s:St}{Q:Value→St→Prop}(h: ∀tm,W (runF envS n ⟨110,4,NC,tm,[.code Vv], .run, .normal,none⟩) (s.cxN cxN) fun p s1=>Q p.1 (s1.cxN s.cx)):W (Ai envS (runF envS n) 110 []) s Q:=
 W.call (by kernel_rfl) (by kernel_rfl) Af_ (by kernel_rfl) rfl rfl (by simp) (h _)
theorem Abo_:Try.f110.results.toList=[.tmp 0]:=by kernel_rfl
def Fw_:List Item:=skim 64 [.code Vv]
def YX:List Item:=skim 64 Fw_.tail
def Bc_:List Item:=skim 64 YX.tail
def TZ (E:Env)(call round:Ab)(tm:T Value):M (T Value):=
 mv (some (.pointer none)) fun v0=>
 setF 0 v0 tm fun tm1=>
 M.pure tm1
theorem Sw_:RegEq 110 4 NC Fw_ TZ:={}
def FU_ (E:Env)(call round:Ab)(tm:T Value):M (T Value):=
 M.bind (M.on (some (.func (.func 133) #[] #[])) fun f=>M.on (seqO []) fun l=>AC call round f l) fun v1=>
 M.bind (oS (seqP [(0,(some (.bool true))),(1,(some v1))]) fun ps=>Cj E 167 ps) fun v2=>
 M.bind (oS (some v2) fun a=>kBox a) fun v3=>
 mv (some v3) fun v0=>
 setF 0 v0 tm fun tm1=>
 M.pure tm1
theorem PY_:RegEq 110 4 NC YX FU_:={}
theorem Xr_: ∃k,Bc_= .code .ret::k:=⟨Bc_.tail,by kernel_rfl⟩
def LK:Nat:=Bm Try.f133
def YG:Code:=Try.f133.body.getD .skip
theorem BR_:envS.fn.get 133=some Try.f133:=by kernel_rfl
theorem AbN_ {n:Nat}{s:St}{Q:Value→St→Prop}(h: ∀tm,W (runF envS n ⟨133,2,LK,tm,[.code YG], .run, .normal,none⟩) (s.cxN cxN) fun p s1=>Q p.1 (s1.cxN s.cx)):W (Ai envS (runF envS n) 133 []) s Q:=
 W.call (by kernel_rfl) (by kernel_rfl) BR_ (by kernel_rfl) rfl rfl (by simp) (h _)
theorem RF_:Try.f133.results.toList=[.cell 0 163]:=by kernel_rfl
def Dl_:List Item:=skim 64 [.code YG]
def Gn_:List Item:=skim 64 Dl_.tail
def DZ_:List Item:=skim 64 Gn_.tail
def QH (E:Env)(call round:Ab)(tm:T Value):M (T Value):=
 M.bind (Bt E 163) fun v0=>
 setF 0 v0 tm fun tm1=>
 M.pure tm1
theorem RZ_:RegEq 133 2 LK Dl_ QH:={}
def AE_ (E:Env)(call round:Ab)(tm:T Value):M (T Value):=
 M.bind (oS (seqP [(0,(some (.int .u32 1779033703))),(1,(some (.int .u32 3144134277))),(2,(some (.int .u32 1013904242))),(3,(some (.int .u32 2773480762))),(4,(some (.int .u32 1359893119))),(5,(some (.int .u32 2600822924))),(6,(some (.int .u32 528734635))),(7,(some (.int .u32 1541459225)))]) fun ps=>Cj E 163 ps) fun v1=>
 M.bind (oS (T.get tm 0) fun a=>oS (some v1) fun b=>A7 E 163 a b) fun _=>
 M.pure tm
theorem KI_:RegEq 133 2 LK Gn_ AE_:={}
theorem UF_: ∃k,DZ_= .code .ret::k:=⟨DZ_.tail,by kernel_rfl⟩
def DK:Nat:=Bm Try.f111
abbrev KO_:Nat:=57
def AZ_:Code:=Try.f111.body.getD .skip
theorem Nv:envS.fn.get 111=some Try.f111:=by kernel_rfl
theorem Nk_ {a0 a1:Value}{n:Nat}{s:St}{Q:Value→St→Prop}(h: ∀tm,T.get tm 0=some a0→T.get tm 1=some a1→W (runF envS n ⟨111,57,DK,tm,[.code AZ_], .run, .normal,none⟩) (s.cxN cxN) fun p s1=>Q p.1 (s1.cxN s.cx)):W (Ai envS (runF envS n) 111 [a0,a1]) s Q:=
 W.call (by kernel_rfl) (by kernel_rfl) Nv (by kernel_rfl) rfl rfl (by simp) (h _ (by kernel_rfl) (by kernel_rfl))
theorem Xl:Try.f111.results.toList=[]:=by kernel_rfl
def YM:List Item:=skim 64 [.code AZ_]
def FH_:List Item:=skim 64 YM.tail
def H6:List Item:=skim 64 (brF FH_)
def Pm:List Item:=skim 64 H6.tail
def V3:List Item:=skim 64 (brT Pm)
def Acu_:List Item:=skim 64 (brF Pm)
def Db_:List Item:=skim 64 V3.tail
def EU_:List Item:=skim 64 Db_.tail
def YU:List Item:=skim 64 EU_.tail
def Ad_:List Item:=skim 64 YU.tail
def Pb:List Item:=skim 64 Ad_.tail
def LX:List Item:=skim 64 (brT Pb)
theorem My_:skim 64 (brF Pb)=H6:=by kernel_rfl
theorem Kc_:skim 64 LX.tail=H6:=by kernel_rfl
def QO (E:Env)(call round:Ab)(tm:T Value):M (T Value):=
 mv (T.get tm 0) fun v6=>
 M.bind (oS (some v6) fun a=>oS (some (.pointer none)) fun b=>Cl.get (aBin E .eql 145 (.tmp 6) (.const (.pointer none))) a b) fun v7=>
 mv (some v7) fun v8=>
 M.bind (M.chk (isK v8) (M.if (isB v8 false) (oS (T.get tm 0) fun a=>M.pure a) (M.pure undef))) fun v9=>
 M.bind (M.chk (isK v8) (M.if (isB v8 false) (oS (some v9) fun a=>kNil a) (M.pure undef))) fun v10=>
 M.bind (M.chk (isK v8) (M.if (isB v8 false) (oS (some v10) fun a=>kFld E 167 a 0) (M.pure undef))) fun v11=>
 M.bind (M.chk (isK v8) (M.if (isB v8 false) (oS (some v11) fun a=>Ak E 4 a) (M.pure undef))) fun v12=>
 M.bind (M.chk (isK v8) (M.if (isB v8 false) (oS (some v12) fun a=>kUn E.P .not a) (M.pure undef))) fun v13=>
 M.bind (M.on (some v8) fun a=>M.on (some (.bool true)) fun b=>M.on (some v13) fun c=>BM a b c) fun v14=>
 setF 14 v14 tm fun tm1=>
 M.pure tm1
theorem Yu_:RegEq 111 57 DK YM QO:={}
theorem Sf_:A4 FH_=some 14:=by kernel_rfl
def II (E:Env)(call round:Ab)(tm:T Value):M (T Value):=
 mv (T.get tm 1) fun v15=>
 M.bind (oS (seqO [(some v15)]) fun l=>Az E .len [22] l) fun v16=>
 M.bind (oS (some v16) fun a=>oS (some (.int .i64 0)) fun b=>Cl.get (aBin E .gtr 3 (.tmp 16) (.const (.int .i64 0))) a b) fun v17=>
 setF 17 v17 tm fun tm1=>
 M.pure tm1
theorem Nm:RegEq 111 57 DK H6 II:={}
theorem Oj:A4 Pm=some 17:=by kernel_rfl
def U7 (E:Env)(call round:Ab)(tm:T Value):M (T Value):=
 mv (T.get tm 0) fun v18=>
 M.bind (oS (some v18) fun a=>kNil a) fun v19=>
 M.bind (oS (some v19) fun a=>kFld E 167 a 3) fun v20=>
 M.bind (oS (some v20) fun a=>Ak E 3 a) fun v21=>
 M.bind (oS (some v21) fun a=>oS (some (.int .i64 64)) fun b=>Cl.get (aBin E .rem 3 (.tmp 21) (.const (.int .i64 64))) a b) fun v22=>
 mv (some v22) fun v4=>
 setF 4 v4 tm fun tm1=>
 M.pure tm1
theorem We_:RegEq 111 57 DK V3 U7:={}
def EX_ (E:Env)(call round:Ab)(tm:T Value):M (T Value):=
 mv (T.get tm 0) fun v23=>
 M.bind (oS (some v23) fun a=>kNil a) fun v24=>
 M.bind (oS (some v24) fun a=>kFld E 167 a 2) fun v25=>
 mv (T.get tm 4) fun v26=>
 M.bind (M.on (some v25) fun a=>M.on (onO (some v26) fun v=>some (some v)) fun b=>M.on (some none) fun c=>BB E 165 a b c) fun v27=>
 mv (T.get tm 1) fun v28=>
 M.bind (oS (seqO [(some v27),(some v28)]) fun l=>Az E .copy [22,22] l) fun v29=>
 mv (some v29) fun v5=>
 setF 5 v5 tm fun tm1=>
 M.pure tm1
theorem YZ_:RegEq 111 57 DK Db_ EX_:={}
def Gt_ (E:Env)(call round:Ab)(tm:T Value):M (T Value):=
 mv (T.get tm 1) fun v30=>
 mv (T.get tm 5) fun v31=>
 M.bind (M.on (some v30) fun a=>M.on (onO (some v31) fun v=>some (some v)) fun b=>M.on (some none) fun c=>BB E 22 a b c) fun v32=>
 mv (some v32) fun v1=>
 setF 1 v1 tm fun tm1=>
 M.pure tm1
theorem SZ_:RegEq 111 57 DK EU_ Gt_:={}
def U1 (E:Env)(call round:Ab)(tm:T Value):M (T Value):=
 mv (T.get tm 0) fun v33=>
 M.bind (oS (some v33) fun a=>kNil a) fun v34=>
 M.bind (oS (some v34) fun a=>kFld E 167 a 3) fun v35=>
 M.bind (oS (some v35) fun a=>Ak E 3 a) fun v36=>
 mv (T.get tm 5) fun v37=>
 M.bind (oS (some v36) fun a=>oS (some v37) fun b=>Cl.get (aBin E .add 3 (.tmp 36) (.tmp 37)) a b) fun v38=>
 M.bind (oS (some v33) fun a=>kNil a) fun v39=>
 M.bind (oS (some v39) fun a=>kFld E 167 a 3) fun v40=>
 M.bind (oS (some v40) fun a=>oS (some v38) fun b=>A7 E 3 a b) fun _=>
 M.pure tm
theorem ZO_:RegEq 111 57 DK YU U1:={}
def WV (E:Env)(call round:Ab)(tm:T Value):M (T Value):=
 mv (T.get tm 4) fun v41=>
 mv (T.get tm 5) fun v42=>
 M.bind (oS (some v41) fun a=>oS (some v42) fun b=>Cl.get (aBin E .add 3 (.tmp 41) (.tmp 42)) a b) fun v43=>
 M.bind (oS (some v43) fun a=>oS (some (.int .i64 64)) fun b=>Cl.get (aBin E .eql 3 (.tmp 43) (.const (.int .i64 64))) a b) fun v44=>
 setF 44 v44 tm fun tm1=>
 M.pure tm1
theorem IB_:RegEq 111 57 DK Ad_ WV:={}
theorem AC_:A4 Pb=some 44:=by kernel_rfl
def WC (E:Env)(call round:Ab)(tm:T Value):M ((Rho×T Value)×List OpLog):=
 M.bind (apartO (oS (T.get tm 0) fun a=>M.pure a)) fun p0=>
 M.bind (apartO (oS (T.get tm 0) fun a=>M.pure a)) fun p1=>
 M.bind (apartO (oS (some p1.1) fun a=>kNil a)) fun p2=>
 M.bind (apartO (oS (some p2.1) fun a=>kFld E 167 a 1)) fun p3=>
 M.bind (apartO (oS (some p3.1) fun a=>Ak E 163 a)) fun p4=>
 M.bind (apartO (oS (T.get tm 0) fun a=>M.pure a)) fun p5=>
 M.bind (apartO (oS (some p5.1) fun a=>kNil a)) fun p6=>
 M.bind (apartO (oS (some p6.1) fun a=>kFld E 167 a 2)) fun p7=>
 M.bind (apartO (M.on (some p7.1) fun a=>M.on (some none) fun b=>M.on (some none) fun c=>BB E 165 a b c)) fun p8=>
 M.bind (apartO (M.on (some (.func (.func 134) #[] #[])) fun f=>M.on (seqO [(some p4.1),(some p8.1)]) fun l=>AC call round f l)) fun p9=>
 M.bind (apartO (oS (some p0.1) fun a=>kNil a)) fun p10=>
 M.bind (apartO (oS (some p10.1) fun a=>kFld E 167 a 1)) fun p11=>
 M.pure (([p11.1,p10.1,p9.1,p8.1,p7.1,p6.1,p5.1,p4.1,p3.1,p2.1,p1.1,p0.1],tm),[p11.2,p10.2,p9.2,p8.2,p7.2,p6.2,p5.2,p4.2,p3.2,p2.2,p1.2,p0.2])
theorem AbC_:DrawEq 111 57 DK LX [0,0,2,6,14,0,32,96,224,510,1023,2047,4095] WC:={}
theorem SH_ (E:Env)(call round:Ab)(x45 x46 x47 x48 x49 x50 x51 x52 x53 x54 x55 x56:Value)(tm:T Value)(s:St):Bw call round (BO E DK 57 (hdC LX)) [x56,x55,x54,x53,x52,x51,x50,x49,x48,x47,x46,x45] tm s=(M.bind (oS (some x56) fun a=>oS (some x54) fun b=>A7 E 163 a b) fun _=>M.pure tm) s:=by kernel_rfl
def B8:Nat:=Bm Try.f112
abbrev Gu:Nat:=74
def Bg_:Code:=Try.f112.body.getD .skip
theorem Xs:envS.fn.get 112=some Try.f112:=by kernel_rfl
theorem KK_ {a0:Value}{n:Nat}{s:St}{Q:Value→St→Prop}(h: ∀tm,T.get tm 0=some a0→W (runF envS n ⟨112,74,B8,tm,[.code Bg_], .run, .normal,none⟩) (s.cxN cxN) fun p s1=>Q p.1 (s1.cxN s.cx)):W (Ai envS (runF envS n) 112 [a0]) s Q:=
 W.call (by kernel_rfl) (by kernel_rfl) Xs (by kernel_rfl) rfl rfl (by simp) (h _ (by kernel_rfl))
theorem Ly_:Try.f112.results.toList=[.cell 2 101]:=by kernel_rfl
def VF:List Item:=skim 64 [.code Bg_]
def YD:List Item:=skim 64 VF.tail
def Ct_:List Item:=skim 64 YD.tail
def Ga_:List Item:=skim 64 Ct_.tail
def Rj:List Item:=skim 64 (brF Ga_)
def Mf:List Item:=skim 64 Rj.tail
def VK:List Item:=skim 64 Mf.tail
def EJ_:List Item:=skim 64 VK.tail
def Jl:List Item:=skim 64 EJ_.tail
def LO:List Item:=skim 64 Jl.tail
def WT:List Item:=skim 64 (brT LO)
def Om:List Item:=skim 64 (brF LO)
def XV:List Item:=skim 64 WT.tail
def OX:List Item:=skim 64 Om.tail
theorem OO_:skim 64 XV.tail=Jl:=by kernel_rfl
def IZ:List Item:=skim 64 OX.tail
def O4:List Item:=skim 64 IZ.tail
def EA_:List Item:=skim 64 (brT O4)
def NZ:List Item:=skim 64 (brF O4)
def BV_:List Item:=skim 64 EA_.tail
def Hn_:List Item:=skim 64 NZ.tail
def Sr:List Item:=skim 64 BV_.tail
theorem KQ_:skim 64 Sr.tail=IZ:=by kernel_rfl
def Hf_ (E:Env)(call round:Ab)(tm:T Value):M (T Value):=
 M.bind (Bt E 101) fun v2=>
 setF 2 v2 tm fun tm1=>
 M.pure tm1
theorem AbJ_:RegEq 112 74 B8 VF Hf_:={}
def Ca_ (E:Env)(call round:Ab)(tm:T Value):M (T Value):=
 M.bind (Bt E 101) fun v3=>
 setF 3 v3 tm fun tm1=>
 M.pure tm1
theorem IP_:RegEq 112 74 B8 YD Ca_:={}
def UD (E:Env)(call round:Ab)(tm:T Value):M (T Value):=
 mv (T.get tm 0) fun v9=>
 M.bind (oS (some v9) fun a=>oS (some (.pointer none)) fun b=>Cl.get (aBin E .eql 145 (.tmp 9) (.const (.pointer none))) a b) fun v10=>
 mv (some v10) fun v11=>
 M.bind (M.chk (isK v11) (M.if (isB v11 false) (oS (T.get tm 0) fun a=>M.pure a) (M.pure undef))) fun v12=>
 M.bind (M.chk (isK v11) (M.if (isB v11 false) (oS (some v12) fun a=>kNil a) (M.pure undef))) fun v13=>
 M.bind (M.chk (isK v11) (M.if (isB v11 false) (oS (some v13) fun a=>kFld E 167 a 0) (M.pure undef))) fun v14=>
 M.bind (M.chk (isK v11) (M.if (isB v11 false) (oS (some v14) fun a=>Ak E 4 a) (M.pure undef))) fun v15=>
 M.bind (M.chk (isK v11) (M.if (isB v11 false) (oS (some v15) fun a=>kUn E.P .not a) (M.pure undef))) fun v16=>
 M.bind (M.on (some v11) fun a=>M.on (some (.bool true)) fun b=>M.on (some v16) fun c=>BM a b c) fun v17=>
 setF 17 v17 tm fun tm1=>
 M.pure tm1
theorem Vl_:RegEq 112 74 B8 Ct_ UD:={}
theorem Lf_:A4 Ga_=some 17:=by kernel_rfl
def ET_ (E:Env)(call round:Ab)(tm:T Value):M (T Value):=
 mv (T.get tm 0) fun v19=>
 M.bind (oS (some v19) fun a=>kNil a) fun v20=>
 M.bind (oS (some v20) fun a=>Ak E 167 a) fun v21=>
 M.bind (Bt E 167) fun v4=>
 setF 4 v4 tm fun tm1=>
 M.bind (oS (some v4) fun a=>oS (some v21) fun b=>A7 E 167 a b) fun _=>
 M.pure tm1
theorem YW_:RegEq 112 74 B8 Rj ET_:={}
def Cj_ (E:Env)(call round:Ab)(tm:T Value):M (T Value):=
 mv (T.get tm 0) fun v22=>
 M.bind (oS (some v22) fun a=>kNil a) fun v23=>
 M.bind (oS (some v23) fun a=>kFld E 167 a 3) fun v24=>
 M.bind (oS (some v24) fun a=>Ak E 3 a) fun v25=>
 M.bind (oS (some v25) fun a=>oS (some (.int .i64 64)) fun b=>Cl.get (aBin E .rem 3 (.tmp 25) (.const (.int .i64 64))) a b) fun v26=>
 M.bind (oS (some (.int .i64 119)) fun a=>oS (some v26) fun b=>Cl.get (aBin E .sub 3 (.const (.int .i64 119)) (.tmp 26)) a b) fun v27=>
 M.bind (oS (some v27) fun a=>oS (some (.int .i64 64)) fun b=>Cl.get (aBin E .rem 3 (.tmp 27) (.const (.int .i64 64))) a b) fun v28=>
 M.bind (oS (some (.int .i64 1)) fun a=>oS (some v28) fun b=>Cl.get (aBin E .add 3 (.const (.int .i64 1)) (.tmp 28)) a b) fun v29=>
 M.bind (oS (some v29) fun a=>oS (some (.int .i64 80)) fun b=>Ea E 22 a b) fun v30=>
 mv (some v30) fun v5=>
 setF 5 v5 tm fun tm1=>
 M.pure tm1
theorem Np_:RegEq 112 74 B8 Mf Cj_:={}
def Vg (E:Env)(call round:Ab)(tm:T Value):M (T Value):=
 mv (T.get tm 5) fun v31=>
 M.bind (oS (some v31) fun a=>oS (some (.int .i64 0)) fun b=>AH E 22 a b) fun v32=>
 M.bind (oS (some v32) fun a=>oS (some (.int .u8 128)) fun b=>A7 E 5 a b) fun _=>
 M.pure tm
theorem Qv_:RegEq 112 74 B8 VK Vg:={}
def UP (E:Env)(call round:Ab)(tm:T Value):M (T Value):=
 mv (some (.int .i64 56)) fun v6=>
 setF 6 v6 tm fun tm1=>
 M.pure tm1
theorem Mn_:RegEq 112 74 B8 EJ_ UP:={}
def NE (E:Env)(call round:Ab)(tm:T Value):M (T Value):=
 mv (T.get tm 6) fun v33=>
 M.bind (oS (some v33) fun a=>oS (some (.int .i64 0)) fun b=>Cl.get (aBin E .geq 3 (.tmp 33) (.const (.int .i64 0))) a b) fun v34=>
 setF 34 v34 tm fun tm1=>
 M.pure tm1
theorem Vu:RegEq 112 74 B8 Jl NE:={}
theorem CD_:A4 LO=some 34:=by kernel_rfl
def FS_ (E:Env)(call round:Ab)(tm:T Value):M (T Value):=
 mv (T.get tm 5) fun v37=>
 mv (T.get tm 0) fun v38=>
 M.bind (oS (some v38) fun a=>kNil a) fun v39=>
 M.bind (oS (some v39) fun a=>kFld E 167 a 3) fun v40=>
 M.bind (oS (some v40) fun a=>Ak E 3 a) fun v41=>
 M.bind (oS (some (.int .i64 8)) fun a=>oS (some v41) fun b=>Cl.get (aBin E .mul 3 (.const (.int .i64 8)) (.tmp 41)) a b) fun v42=>
 mv (T.get tm 6) fun v43=>
 M.bind (oS (some v42) fun a=>oS (some v43) fun b=>Cl.get (aBin E .shr 3 (.tmp 42) (.tmp 43)) a b) fun v44=>
 M.bind (oS (some v44) fun a=>Bc E 3 5 a) fun v45=>
 M.bind (oS (seqP [(0,(some v45))]) fun ps=>BZ E 22 1 ps) fun v46=>
 M.bind (oS (seqO [(some v37),(some v46)]) fun l=>Az E .append [22,22] l) fun v47=>
 mv (some v47) fun v5=>
 setF 5 v5 tm fun tm1=>
 M.pure tm1
theorem MA_:RegEq 112 74 B8 WT FS_:={}
def X0 (E:Env)(call round:Ab)(tm:T Value):M (T Value):=
 mv (T.get tm 5) fun v48=>
 M.bind (M.on (some (.func (.func 111) #[] #[])) fun f=>M.on (seqO [(T.get tm 4),(some v48)]) fun l=>AC call round f l) fun v49=>
 M.pure tm
theorem NC_:RegEq 112 74 B8 Om X0:={}
def Sg (E:Env)(call round:Ab)(tm:T Value):M (T Value):=
 mv (T.get tm 6) fun v35=>
 M.bind (oS (some v35) fun a=>oS (some (.int .i64 8)) fun b=>Cl.get (aBin E .sub 3 (.tmp 35) (.const (.int .i64 8))) a b) fun v36=>
 mv (some v36) fun v6=>
 setF 6 v6 tm fun tm1=>
 M.pure tm1
theorem Aar_:RegEq 112 74 B8 XV Sg:={}
def VS (E:Env)(call round:Ab)(tm:T Value):M (T Value):=
 M.bind (oS (T.get tm 4) fun a=>kFld E 167 a 1) fun v50=>
 M.bind (oS (some v50) fun a=>Ak E 163 a) fun v51=>
 setF 51 v51 tm fun tm1=>
 mv (some (.int .i64 0)) fun v52=>
 setF 52 v52 tm1 fun tm2=>
 M.pure tm2
theorem Kg_:RegEq 112 74 B8 OX VS:={}
def Mw (E:Env)(call round:Ab)(tm:T Value):M (T Value):=
 M.bind (oS (T.get tm 52) fun a=>oS (some (.int .i64 8)) fun b=>Cl.get (aBin E .lss 3 (.tmp 52) (.const (.int .i64 8))) a b) fun v53=>
 setF 53 v53 tm fun tm1=>
 M.pure tm1
theorem Ap_:RegEq 112 74 B8 IZ Mw:={}
theorem U2:A4 O4=some 53:=by kernel_rfl
def QB (E:Env)(call round:Ab)(tm:T Value):M (T Value):=
 mv (T.get tm 52) fun v54=>
 M.bind (oS (T.get tm 51) fun a=>oS (T.get tm 52) fun b=>kIdx E 163 a b) fun v55=>
 mv (some v54) fun v7=>
 setF 7 v7 tm fun tm1=>
 mv (some v55) fun v8=>
 setF 8 v8 tm1 fun tm2=>
 M.pure tm2
theorem Sq_:RegEq 112 74 B8 EA_ QB:={}
def Xt (E:Env)(call round:Ab)(tm:T Value):M (T Value):=
 M.bind (oS (T.get tm 3) fun a=>Ak E 101 a) fun v73=>
 M.bind (oS (T.get tm 2) fun a=>oS (some v73) fun b=>A7 E 101 a b) fun _=>
 M.pure tm
theorem LP_:RegEq 112 74 B8 NZ Xt:={}
def Dz_ (E:Env)(call round:Ab)(tm:T Value):M (T Value):=
 mv (T.get tm 7) fun v56=>
 M.bind (oS (some (.int .i64 4)) fun a=>oS (some v56) fun b=>Cl.get (aBin E .mul 3 (.const (.int .i64 4)) (.tmp 56)) a b) fun v57=>
 M.bind (M.on (T.get tm 3) fun a=>M.on (onO (some v57) fun v=>some (some v)) fun b=>M.on (some none) fun c=>BB E 101 a b c) fun v58=>
 mv (T.get tm 8) fun v59=>
 M.bind (oS (some v59) fun a=>oS (some (.int .u64 24)) fun b=>Cl.get (aBin E .shr 51 (.tmp 59) (.const (.int .u64 24))) a b) fun v60=>
 M.bind (oS (some v60) fun a=>Bc E 51 5 a) fun v61=>
 mv (T.get tm 8) fun v62=>
 M.bind (oS (some v62) fun a=>oS (some (.int .u64 16)) fun b=>Cl.get (aBin E .shr 51 (.tmp 62) (.const (.int .u64 16))) a b) fun v63=>
 M.bind (oS (some v63) fun a=>Bc E 51 5 a) fun v64=>
 mv (T.get tm 8) fun v65=>
 M.bind (oS (some v65) fun a=>oS (some (.int .u64 8)) fun b=>Cl.get (aBin E .shr 51 (.tmp 65) (.const (.int .u64 8))) a b) fun v66=>
 M.bind (oS (some v66) fun a=>Bc E 51 5 a) fun v67=>
 mv (T.get tm 8) fun v68=>
 M.bind (oS (some v68) fun a=>Bc E 51 5 a) fun v69=>
 M.bind (oS (seqP [(0,(some v61)),(1,(some v64)),(2,(some v67)),(3,(some v69))]) fun ps=>BZ E 22 4 ps) fun v70=>
 M.bind (oS (seqO [(some v58),(some v70)]) fun l=>Az E .copy [22,22] l) fun v71=>
 M.pure tm
theorem Vk_:RegEq 112 74 B8 BV_ Dz_:={}
theorem VC_: ∃k,Hn_= .code .ret::k:=⟨Hn_.tail,by kernel_rfl⟩
def W3 (E:Env)(call round:Ab)(tm:T Value):M (T Value):=
 M.bind (oS (T.get tm 52) fun a=>oS (some (.int .i64 1)) fun b=>Cl.get (aBin E .add 3 (.tmp 52) (.const (.int .i64 1))) a b) fun v72=>
 mv (some v72) fun v52=>
 setF 52 v52 tm fun tm1=>
 M.pure tm1
theorem WQ_:RegEq 112 74 B8 Sr W3:={}
def HW:Nat:=Bm Try.f73
def Q6:Code:=Try.f73.body.getD .skip
theorem VJ:envS.fn.get 73=some Try.f73:=by kernel_rfl
theorem WG_ {a0:Value}{n:Nat}{s:St}{Q:Value→St→Prop}(h: ∀tm,T.get tm 0=some a0→W (runF envS n ⟨73,10,HW,tm,[.code Q6], .run, .normal,none⟩) (s.cxN cxN) fun p s1=>Q p.1 (s1.cxN s.cx)):W (Ai envS (runF envS n) 73 [a0]) s Q:=
 W.call (by kernel_rfl) (by kernel_rfl) VJ (by kernel_rfl) rfl rfl (by simp) (h _ (by kernel_rfl))
theorem Ja_:Try.f73.results.toList=[.cell 2 101]:=by kernel_rfl
def XY:List Item:=skim 64 [.code Q6]
def V6:List Item:=skim 64 XY.tail
def Wi:List Item:=skim 64 V6.tail
def Xx:List Item:=skim 64 Wi.tail
def V1:List Item:=skim 64 Xx.tail
def TW (E:Env)(call round:Ab)(tm:T Value):M (T Value):=
 M.bind (Bt E 101) fun v2=>
 setF 2 v2 tm fun tm1=>
 M.pure tm1
theorem LJ_:RegEq 73 10 HW XY TW:={}
def Ux (E:Env)(call round:Ab)(tm:T Value):M (T Value):=
 M.bind (M.on (some (.func (.func 110) #[] #[])) fun f=>M.on (seqO []) fun l=>AC call round f l) fun v4=>
 mv (some v4) fun v3=>
 setF 3 v3 tm fun tm1=>
 M.pure tm1
theorem AbY_:RegEq 73 10 HW V6 Ux:={}
def Dc_ (E:Env)(call round:Ab)(tm:T Value):M (T Value):=
 mv (T.get tm 3) fun v5=>
 mv (T.get tm 0) fun v6=>
 M.bind (M.on (some (.func (.func 111) #[] #[])) fun f=>M.on (seqO [(some v5),(some v6)]) fun l=>AC call round f l) fun v7=>
 M.pure tm
theorem Oa_:RegEq 73 10 HW Wi Dc_:={}
def ZL (E:Env)(call round:Ab)(tm:T Value):M (T Value):=
 mv (T.get tm 3) fun v8=>
 M.bind (M.on (some (.func (.func 112) #[] #[])) fun f=>M.on (seqO [(some v8)]) fun l=>AC call round f l) fun v9=>
 M.bind (oS (T.get tm 2) fun a=>oS (some v9) fun b=>A7 E 101 a b) fun _=>
 M.pure tm
theorem Abh_:RegEq 73 10 HW Xx ZL:={}
theorem KT_: ∃k,V1= .code .ret::k:=⟨V1.tail,by kernel_rfl⟩
def JV:Nat:=Bm Try.f32
def Bf_:Code:=Try.f32.body.getD .skip
theorem Aq_:envS.fn.get 32=some Try.f32:=by kernel_rfl
theorem XE_ {a0:Value}{n:Nat}{s:St}{Q:Value→St→Prop}(h: ∀tm,T.get tm 0=some a0→W (runF envS n ⟨32,9,JV,tm,[.code Bf_], .run, .normal,none⟩) (s.cxN cxN) fun p s1=>Q p.1 (s1.cxN s.cx)):W (Ai envS (runF envS n) 32 [a0]) s Q:=
 W.call (by kernel_rfl) (by kernel_rfl) Aq_ (by kernel_rfl) rfl rfl (by simp) (h _ (by kernel_rfl))
theorem MY_:Try.f32.results.toList=[.cell 2 26]:=by kernel_rfl
def YF:List Item:=skim 64 [.code Bf_]
def Bm_:List Item:=skim 64 YF.tail
def EO_:List Item:=skim 64 Bm_.tail
def Zc:List Item:=skim 64 EO_.tail
def Ys (E:Env)(call round:Ab)(tm:T Value):M (T Value):=
 M.bind (Bt E 26) fun v2=>
 setF 2 v2 tm fun tm1=>
 M.pure tm1
theorem Xh_:RegEq 32 9 JV YF Ys:={}
def AW_ (E:Env)(call round:Ab)(tm:T Value):M (T Value):=
 mv (T.get tm 0) fun v4=>
 M.bind (M.on (some (.func (.func 73) #[] #[])) fun f=>M.on (seqO [(some v4)]) fun l=>AC call round f l) fun v5=>
 M.bind (Bt E 101) fun v3=>
 setF 3 v3 tm fun tm1=>
 M.bind (oS (some v3) fun a=>oS (some v5) fun b=>A7 E 101 a b) fun _=>
 M.pure tm1
theorem AaL_:RegEq 32 9 JV Bm_ AW_:={}
def VE (E:Env)(call round:Ab)(tm:T Value):M (T Value):=
 M.bind (M.on (T.get tm 3) fun a=>M.on (some none) fun b=>M.on (onO (some (.int .i64 16)) fun v=>some (some v)) fun c=>BB E 101 a b c) fun v6=>
 M.bind (oS (some v6) fun a=>Dw E 26 a) fun v7=>
 M.bind (oS (some v7) fun a=>Ak E 26 a) fun v8=>
 M.bind (oS (T.get tm 2) fun a=>oS (some v8) fun b=>A7 E 26 a b) fun _=>
 M.pure tm
theorem AbF_:RegEq 32 9 JV EO_ VE:={}
theorem Aci_: ∃k,Zc= .code .ret::k:=⟨Zc.tail,by kernel_rfl⟩
structure DS where
 st:Sha.St8
 w:List Nat
 n:Nat
def DS.k (d:DS)(b:List Nat):Nat:=Nat.min (64-d.n%64) b.length
def DS.w' (d:DS)(b:List Nat):List Nat:=d.w.take (d.n%64)++(b.take (d.k b)++d.w.drop (d.n%64+d.k b))
def DS.step (d:DS)(b:List Nat):DS:=⟨if d.n%64+d.k b=64 then Sha.next d.st (fun j=>(d.w' b).getD j 0)else d.st,d.w' b,d.n+d.k b⟩
def DS.write:Nat→DS→List Nat→DS
 |0,d,_=>d
 |f+1,d,b=>if b.length=0 then d else DS.write f (d.step b) (b.drop (d.k b))
structure Dig (s:St)(D:Nat)(d:DS):Prop where
 made:Own s D 0 (.bool true)
 st:Ae s D 1 (st8V d.st).toList
 w:Ae s D 9 (u8l d.w)
 n:Own s D 73 (.int .i64 (d.n:Nat))
 len:d.w.length=64
 byt:Byt d.w
 ok:d.st.Ok
theorem D1 (r:Sha.St8):(st8V r).toList.length=8:=rfl
theorem Dig.ext0 {F:Nat→Prop}{s s':St}{D:Nat}{d:DS}(h:Dig s D d)(e:Ext F Non s s'):Dig s' D d:=⟨h.made.ext0 e,h.st.ext0 e,h.w.ext0 e,h.n.ext0 e,h.len,h.byt,h.ok⟩
theorem Dig.same {s s':St}{D:Nat}{d:DS}(h:Dig s D d)(hm:s'.mem=s.mem)(hn:s'.next=s.next):Dig s' D d:=
 ⟨h.made.same hm hn,fun i v e=>(h.st i v e).same hm hn,fun i v e=>(h.w i v e).same hm hn,h.n.same hm hn,h.len,h.byt,h.ok⟩
theorem Ma_ {r:Sha.St8}(h:r.Ok):u32s (st8V r).toList=some [r.a,r.b,r.c,r.d,r.e,r.f,r.g,r.h]:=by
 have e: ∀(n:Nat) (l:List Value) (ns:List Nat),n<4294967296→u32s l=some ns→u32s (.int .u32 (n:Int)::l)=some (n::ns):=fun n l ns hn hl=>by
  show(match Value.int .u32 (.ofNat n),u32s l with| .int .u32 (.ofNat n),some ns=>bif Nat.blt n 4294967296 then some (n::ns)else none|_,_=>none)=_
  rw[hl]
  simp -implicitDefEqProofs only[BV hn,cond_true]
 exact e _ _ _ h.a (e _ _ _ h.b (e _ _ _ h.c (e _ _ _ h.d (e _ _ _ h.e (e _ _ _ h.f (e _ _ _ h.g (e _ _ _ h.h rfl)))))))
theorem W.next {s:St}{r:Sha.St8}{b o c:Nat}{l:List Nat}{Q:Value→St→Prop}(hr:r.Ok)(h:Row s b o (u8l l))(hl:l.length=64)(hb:Byt l)
  (q: ∀s1,s1.mem=s.mem→s1.next=s.next→Ext (In b o 64) Non s s1→Q (.agg (st8V (Sha.next r fun j=>l.getD j 0))) s1):W (Ep [.agg (st8V r), .slice (some ⟨b,o,none⟩) 64 c]) s Q:=by
 refine W.on (Ma_ hr) (W.chk (by decide) (W.bind ?_))
 have h2:l.length=(u8l l).length:=(A6 l).symm
 show W (Am.rdL 64 ⟨b,o,none⟩) s _
 rw[←hl]
 refine W.rdB h fun s1 e1 e2 e3=>W.on (Qo hb) ?_
 show W (Hp r l st8M) s1 Q
 rw[JY,JG]
 rw[hl]at e3
 exact W.pure (q s1 e1 e2 e3)
theorem Ea_:fldN envS 167 0=some (0,1,false):=by kernel_rfl
theorem L8:fldN envS 167 1=some (1,8,true):=by kernel_rfl
theorem XU:fldN envS 167 2=some (9,64,true):=by kernel_rfl
theorem KK:fldN envS 167 3=some (73,1,false):=by kernel_rfl
theorem Ua:ptrT envS 145=true:=by kernel_rfl
theorem QY:tyS envS 4=some (1,false):=by kernel_rfl
theorem HZ:tyS envS 3=some (1,false):=by kernel_rfl
theorem R3:arrN envS 165=some (64,1):=by kernel_rfl
theorem H8:tyS envS 163=some (8,true):=by kernel_rfl
theorem Bs.srcK {s:St}{v:Value}{l:List Nat}(h:Bs s v l){k:Nat}(hk:k≤l.length): ∃s1,srcL 1 v k s= .some (u8l (l.take k)) s1∧s1.mem=s.mem∧s1.next=s.next∧Ext (BsF v) Non s s1:=by
 rcases h with⟨rfl,rfl⟩|⟨b,o,c,rfl,_,_,h3⟩
 ·simp at hk
  subst hk
  exact⟨s,rfl,rfl,rfl,Ext.refl s⟩
 ·have h4:Row s b o (u8l (l.take k)):=by
   have:=h3.take (n:=k)
   rw[←List.map_take]at this
   exact this
  have hl:(l.take k).length=k:=by rw[List.length_take];omega
  obtain⟨a,s1,e,rfl,h1,h2,h5⟩:=W.rdB (Q:=fun a s1=>a=u8l (l.take k)∧s1.mem=s.mem∧s1.next=s.next∧Ext (In b o (l.take k).length) Non s s1) h4 fun s1 e1 e2 e3=>⟨rfl,e1,e2,e3⟩
  rw[hl]at e h5
  refine⟨s1, ?_,h1,h2, ?_⟩
  ·show Am.rdL (k*1) ⟨b,o,none⟩ s=_
   rw[Nat.mul_one]
   exact e
  ·refine⟨h5.nxt,h5.lim,h5.cx,h5.mem, ?_,h5.wr⟩
   obtain⟨d,p1,p2⟩:=h5.rd
   exact⟨d,p1,fun x hx=>⟨(p2 x hx).1,by have:=(p2 x hx).2;exact⟨this.1,by have:=this.2;omega⟩⟩⟩
theorem DS.k_le (d:DS)(b:List Nat):d.k b≤b.length∧d.n%64+d.k b≤64:=by
 unfold DS.k
 have h1:Nat.min (64-d.n%64) b.length≤64-d.n%64:=Nat.min_le_left _ _
 have h2:Nat.min (64-d.n%64) b.length≤b.length:=Nat.min_le_right _ _
 have h3:d.n%64<64:=Nat.mod_lt _ (by decide)
 exact⟨h2,by omega⟩
theorem DS.w'_len (d:DS)(b:List Nat)(h:d.w.length=64):(d.w' b).length=64:=by
 obtain⟨h1,h2⟩:=d.k_le b
 unfold DS.w'
 rw[List.length_append,List.length_append,List.length_take,List.length_take,List.length_drop,h]
 omega
theorem DS.w'_byt (d:DS)(b:List Nat)(h:Byt d.w)(hb:Byt b):Byt (d.w' b):=fun x hx=>by
 unfold DS.w' at hx
 rcases List.mem_append.1 hx with hx|hx
 ·exact h x (List.mem_of_mem_take hx)
 ·rcases List.mem_append.1 hx with hx|hx
  ·exact hb x (List.mem_of_mem_take hx)
  ·exact h x (List.mem_of_mem_drop hx)
theorem Dig.lay {F:Nat→Prop}{s s2:St}{D:Nat}{d:DS}{b:List Nat}(h:Dig s D d)(x:Ext F (In D (0+9+d.n%64*1) (d.k b*1)) s s2)(r:Ae s2 D (0+9+d.n%64*1) (u8l (b.take (d.k b))))(hb:Byt b):Dig s2 D ⟨d.st,d.w' b,d.n⟩:=by
 obtain⟨h1,h2⟩:=d.k_le b
 have hm:d.n%64<64:=Nat.mod_lt _ (by decide)
 have hkl:(b.take (d.k b)).length=d.k b:=by rw[List.length_take];omega
 refine⟨h.made.ext x fun q=>by have:=q.1;omega,h.st.ext x fun i hi q=> ?_, ?_,h.n.ext x fun q=>by have:=q.2;omega,d.w'_len b h.len,d.w'_byt b h.byt hb,h.ok⟩
 ·have h3:i<8:=hi
  have:=q.1;omega
 ·show Ae s2 D 9 (u8l (d.w' b))
  have e:u8l (d.w' b)=u8l (d.w.take (d.n%64))++(u8l (b.take (d.k b))++u8l (d.w.drop (d.n%64+d.k b))):=by
   unfold DS.w' u8l
   rw[List.map_append,List.map_append]
  have hl1:(u8l (d.w.take (d.n%64))).length=d.n%64:=by rw[A6,List.length_take,h.len];omega
  have hw1:Ae s D 9 (u8l (d.w.take (d.n%64))):=by
   have:=h.w.take (n:=d.n%64)
   rw[←List.map_take]at this
   exact this
  have hw3:Ae s D (9+(d.n%64+d.k b)) (u8l (d.w.drop (d.n%64+d.k b))):=by
   have:=h.w.drop (n:=d.n%64+d.k b)
   rw[←List.map_drop]at this
   exact this
  rw[e]
  refine Ae.append (hw1.ext x fun i hi q=> ?_) (Ae.append ?_ ?_)
  ·rw[hl1]at hi
   have:=q.1;omega
  ·rw[hl1,show 9+d.n%64=0+9+d.n%64*1 by omega]
   exact r
  ·rw[hl1,A6,hkl,Nat.add_assoc]
   refine hw3.ext x fun i hi q=> ?_
   have:=q.2;omega
abbrev DigF (D:Nat)(v:Value):Nat→Prop:=fun x=>In D 0 74 x∨BsF v x
theorem Dig.setN {F:Nat→Prop}{s s2:St}{D:Nat}{d:DS}(h:Dig s D d){m:Nat}(x:Ext F (In D 73 1) s s2)(o:Own s2 D 73 (.int .i64 (m:Nat))):Dig s2 D ⟨d.st,d.w,m⟩:=
 ⟨h.made.ext x fun q=>by have:=q.1;omega,h.st.ext x fun i hi q=>by have h3:i<8:=hi;have:=q.1;omega,h.w.ext x fun i hi q=>by rw[A6,h.len]at hi;have:=q.1;omega,o,h.len,h.byt,h.ok⟩
theorem Dig.setSt {F:Nat→Prop}{s s2:St}{D:Nat}{d:DS}(h:Dig s D d){r:Sha.St8}(hr:r.Ok)(x:Ext F (In D 1 8) s s2)(o:Ae s2 D 1 (st8V r).toList):Dig s2 D ⟨r,d.w,d.n⟩:=
 ⟨h.made.ext x fun q=>by have:=q.1;omega,o,h.w.ext x fun i hi q=>by have:=q.2;omega,h.n.ext x fun q=>by have:=q.2;omega,h.len,h.byt,hr⟩
theorem Row.same' {s s':St}{b o:Nat}{l:List Value}(h:Row s b o l)(hm:s'.mem=s.mem)(hn:s'.next=s.next):Row s' b o l:=fun i v e=>(h i v e).same hm hn
theorem QY_ {D : Nat} {v0 : Value} {Q : Value × FrameMode → St → Prop} {s0 : St} (hb0 : s0.lim ≤ s0.next) (hcx : s0.cx = .cx none (some [])) (hdis : ∀ x, BsF v0 x → ¬ In D 0 74 x) : ∀ (f n : Nat) (tm : T Value) (s : St) (td : List Item) (d : DS) (b : List Nat) (v : Value), b.length ≤ f → 20 * f + 60 ≤ n → skim 64 td = H6 → Ext (DigF D v0) (In D 0 74) s0 s → Dig s D d → d.n + b.length ≤ 1000000000 → (b ≠ [] → Bn s v b) → Bs s v b → Byt b → (∀ x, BsF v x → BsF v0 x) →
   T.get tm 0 = some (.pointer (some ⟨D, 0, none⟩)) → T.get tm 1 = some v → (∀ s1, Ext (DigF D v0) (In D 0 74) s0 s1 → Dig s1 D (DS.write f d b) → Q (.tuple #[], .run) s1) →
   W (runF envS n ⟨111, KO_, DK, tm, td, .run, .normal, none⟩) s Q := by
 intro f
 induction f with
 | zero =>
   intro n tm s td d b v hf hn hT hx hd hmax hbn hbs hbyt hv h0 h1 q
   have hb : b = [] := List.eq_nil_of_length_eq_zero (by omega)
   subst hb
   refine Nm.w hT (by omega) ?_
   simp -implicitDefEqProofs only [II, Ad, W_oS, Aa, W_mv, Ac, Ah, Ag, Af, Dl, h1, hbs.len AE]
   refine W.cond (v := false) rfl Oj (by simp [T.get_set]) (by omega) (fun h => by cases h) fun _ => ?_
   refine W.end' (rs := []) (vs := []) rfl (.inr (by kernel_rfl)) (by omega) Nv Xl (hx.cx.trans hcx) rfl ?_
   exact q s hx hd
 | succ f ih =>
   intro n tm s td d b v hf hn hT hx hd hmax hbn hbs hbyt hv h0 h1 q
   by_cases hbe : b.length = 0
   · have hb : b = [] := List.eq_nil_of_length_eq_zero hbe
     subst hb
     refine Nm.w hT (by omega) ?_
     simp -implicitDefEqProofs only [II, Ad, W_oS, Aa, W_mv, Ac, Ah, Ag, Af, Dl, h1, hbs.len AE]
     refine W.cond (v := false) rfl Oj (by simp [T.get_set]) (by omega) (fun h => by cases h) fun _ => ?_
     refine W.end' (rs := []) (vs := []) rfl (.inr (by kernel_rfl)) (by omega) Nv Xl (hx.cx.trans hcx) rfl ?_
     exact q s hx hd
   · have hbne : b ≠ [] := fun e => hbe (by rw [e]; rfl)
     obtain ⟨hk1, hk2⟩ := d.k_le b
     have hm : d.n % 64 < 64 := Nat.mod_lt _ (by decide)
     have hk0 : 0 < d.k b := by
       unfold DS.k
       exact Nat.lt_min.2 ⟨by omega, by omega⟩
     refine Nm.w hT (by omega) ?_
     simp -implicitDefEqProofs only [II, Ad, W_oS, Aa, W_mv, Ac, Ah, Ag, Af, Dl, h1, hbs.len AE]
     refine W.cond (v := true) rfl Oj (by simp [T.get_set]; omega) (by omega) (fun _ => ?_) fun h => by cases h
     refine We_.w rfl (by omega) ?_
     simp -implicitDefEqProofs only [U7, Ad, W_oS, Aa, W_mv, Ac, T.get_set, reduceIte, Bg, reduceCtorEq, ↓reduceIte, h0, BW KK (by decide : 0 < 1)]
     refine W.load1 HZ hd.n.at' ?_
     have hxa : Ext (DigF D v0) (In D 0 74) s0 (s.rdN (D + (0 + 73))) := hx.trans (Ext.rdN (F := DigF D v0) s _ fun _ => .inl ⟨by omega, by omega⟩) hb0 (fun _ _ h => h) fun _ _ h => h
     have hda : Dig (s.rdN (D + (0 + 73))) D d := hd.same rfl rfl
     have hba : Bn (s.rdN (D + (0 + 73))) v b := (hbn hbne).same rfl rfl
     generalize s.rdN (D + (0 + 73)) = sa at hxa hda hba ⊢
     simp -implicitDefEqProofs only [Jp]
     refine YZ_.w rfl (by omega) ?_
     simp -implicitDefEqProofs only [EX_, Ad, W_oS, W_on, Aa, W_mv, Ac, T.get_set, Ah, Ag, Af, reduceIte, Bg, Nat.reduceEqDiff, reduceCtorEq, ↓reduceIte, h0, h1, BW XU (by decide : 0 < 64), Lb (lo := some (.int .i64 ((d.n % 64 : Nat) : Int))) (hi := none) (l := d.n % 64) (h := 64) R3 (Bh (by decide)) rfl rfl (by omega) (Nat.le_refl _)]
     rw [if_neg (by omega)]
     obtain ⟨p, c, rfl⟩ := hba.bs.sl
     refine W.copy CU rfl (hba.bs.srcK hk1) (by rw [A6, List.length_take]; show Nat.min (d.k b) b.length = d.k b * 1; rw [Nat.mul_one]; exact Nat.min_eq_left hk1) (BT _) (fun i hi => ?_) fun sb nb xb rb => ?_
     · have hi' : i < d.k b * 1 := hi
       have := hda.w (d.n % 64 + i) (u8 (d.w[d.n % 64 + i]'(by rw [hda.len]; omega))) (by rw [List.getElem?_map, List.getElem?_eq_getElem (by rw [hda.len]; omega)]; rfl)
       exact ⟨_, by rw [show 0 + 9 + d.n % 64 * 1 + i = 9 + (d.n % 64 + i) by omega]; exact this⟩
     have hdisb : ∀ x, BsF (.slice p b.length c) x → ¬ In D 0 74 x := fun x hx' => hdis x (hv x hx')
     have hxb : Ext (DigF D v0) (In D 0 74) s0 sb := hxa.trans xb hb0 (fun x _ h => by
       rcases h with h | h
       · exact .inr (hv x h)
       · exact .inl ⟨by have := h.1; omega, by have := h.2; have h3 : d.k b ≤ 64 := by omega
                                               have h4 : x < D + (0 + 9 + d.n % 64 * 1) + d.k b * 1 := h.2
                                               omega⟩) fun x _ h => ⟨by have := h.1; omega, by have h4 : x < D + (0 + 9 + d.n % 64 * 1) + d.k b * 1 := h.2
                                                                                               omega⟩
     have hdb : Dig sb D ⟨d.st, d.w' b, d.n⟩ := hda.lay xb rb hbyt
     have hbb : Bn sb (.slice p b.length c) b := hba.ext xb fun x hx' h => hdisb x hx' ⟨by have := h.1; omega, by have h4 : x < D + (0 + 9 + d.n % 64 * 1) + d.k b * 1 := h.2
                                                                                                                  omega⟩
     clear xb rb hda hba hxa nb
     have hkmin : Nat.min (64 - d.n % 64) b.length = d.k b := rfl
     simp -implicitDefEqProofs only [hkmin]
     refine SZ_.w rfl (by omega) ?_
     simp -implicitDefEqProofs only [Gt_, Ad, W_on, Aa, W_mv, Ac, T.get_set, Af, reduceIte, Nat.reduceEqDiff, ↓reduceIte, h1]
     refine W.cut hbb AE (i := d.k b) (j := b.length) rfl rfl hk1 (Nat.le_refl _) fun v1 hv1 hF1 => ?_
     rw [List.take_length] at hv1
     refine ZO_.w rfl (by omega) ?_
     simp -implicitDefEqProofs only [U1, Ad, W_oS, Aa, W_mv, T.get_set, reduceIte, Bg, Nat.reduceEqDiff, reduceCtorEq, ↓reduceIte, h0, BW KK (by decide : 0 < 1)]
     refine W.load1 HZ hdb.n.at' ?_
     have en : wrap64 ((d.n : Nat) + (d.k b : Nat) : Int) = ((d.n + d.k b : Nat) : Int) := by
       rw [AP (by omega) (by omega)]; simp
     simp -implicitDefEqProofs only [By, en]
     have hxb1 : Ext (DigF D v0) (In D 0 74) s0 (sb.rdN (D + (0 + 73))) := hxb.trans (Ext.rdN (F := DigF D v0) sb _ fun _ => .inl ⟨by omega, by omega⟩) hb0 (fun _ _ h => h) fun _ _ h => h
     have hdb1 : Dig (sb.rdN (D + (0 + 73))) D ⟨d.st, d.w' b, d.n⟩ := hdb.same rfl rfl
     have hv2 : Bn (sb.rdN (D + (0 + 73))) v1 (b.drop (d.k b)) := hv1.same rfl rfl
     generalize sb.rdN (D + (0 + 73)) = sc at hxb1 hdb1 hv2 ⊢
     refine W.store1 HZ rfl hdb1.n fun se ne xe oe => ?_
     have hxe : Ext (DigF D v0) (In D 0 74) s0 se := hxb1.trans xe hb0 (fun x _ h => .inl ⟨by have := h.1; omega, by have := h.2; omega⟩) fun x _ h => ⟨by have := h.1; omega, by have := h.2; omega⟩
     have hde : Dig se D ⟨d.st, d.w' b, d.n + d.k b⟩ := hdb1.setN xe oe
     have hve : Bn se v1 (b.drop (d.k b)) := hv2.ext xe fun x hx' h => hdisb x (hF1 x hx') ⟨by have := h.1; omega, by have := h.2; omega⟩
     clear xe oe hdb1 hv2 hxb1 hdb hxb
     refine IB_.w rfl (by omega) ?_
     have ea : wrap64 ((d.n % 64 : Nat) + (d.k b : Nat) : Int) = ((d.n % 64 + d.k b : Nat) : Int) := by
       rw [AP (by omega) (by omega)]; simp
     simp -implicitDefEqProofs only [WV, Ad, W_oS, Aa, W_mv, Ac, T.get_set, reduceIte, Nat.reduceEqDiff, ↓reduceIte, By, Fl, ea]
     have hlen1 : (b.drop (d.k b)).length ≤ f := by rw [List.length_drop]; omega
     have hmax1 : d.n + d.k b + (b.drop (d.k b)).length ≤ 1000000000 := by rw [List.length_drop]; omega
     have hby1 : Byt (b.drop (d.k b)) := fun x hx' => hbyt x (List.mem_of_mem_drop hx')
     by_cases hfull : d.n % 64 + d.k b = 64
     · refine W.cond (v := true) rfl AC_ (by simp [T.get_set]; omega) (by omega) (fun _ => ?_) fun h => by cases h
       refine AbC_.w rfl (by omega) ?_
       have hde' : Dig (dSt se.mem se.next) D ⟨d.st, d.w' b, d.n + d.k b⟩ := hde.same rfl rfl
       simp -implicitDefEqProofs only [WC, T.get_set, Nat.reduceEqDiff, ↓reduceIte, h0, BG, Ck, Ap]
       rw [W_dq fun s Q => Bg (s := s) ⟨D, 0, none⟩ Q, W_dq fun s Q => BW (s := s) L8 (by decide : 0 < 8) Q]
       refine W.dloadA H8 hde'.st.row (D1 _) fun mem1 rd1 hm1 hr1 => ?_
       rw [hm1]
       simp -implicitDefEqProofs only [Ap]
       rw [W_dq fun s Q => Bg (s := s) ⟨D, 0, none⟩ Q, W_dq fun s Q => BW (s := s) XU (by decide : 0 < 64) Q, W_dq fun s Q => Lb (s := s) (lo := none) (hi := none) (l := 0) (h := 64) R3 (Bh (by decide)) rfl rfl (Nat.zero_le _) (Nat.le_refl _) Q]
       simp -implicitDefEqProofs only [Ah, Ag, Af, Ck]
       refine W.dop ?_
       rw [Ar]
       refine W.orc (m := Ep) (by kernel_rfl) ?_
       refine W.next hde.ok (hde'.w.row.same' rfl rfl) hde'.len hde'.byt fun s1 m1 n1 x1 => ⟨In D 9 64, x1, fun rd2 hr2 => ?_⟩
       have m1' : s1.mem = se.mem := m1
       have n1' : s1.next = se.next := n1
       rw [m1', n1']
       simp -implicitDefEqProofs only [Ap]
       rw [W_dq fun s Q => Bg (s := s) ⟨D, 0, none⟩ Q, W_dq fun s Q => BW (s := s) L8 (by decide : 0 < 8) Q]
       rw [Aa]
       refine ⟨Dn (by simp) (by simp), ?_⟩
       refine W.cast (SH_ _ _ _ _ _ _ _ _ _ _ _ _ _ _ _ _ _) ?_
       simp -implicitDefEqProofs only [Ad, W_oS, Aa]
       generalize hs' : (⟨(dSt se.mem se.next).mem, (dSt se.mem se.next).next, se.lim, _, _, se.cx⟩ : St) = s'
       have hx' : Ext (DigF D v0) (In D 0 74) s0 s' := by
         rw [← hs']
         refine hxe.trans (Ext.draw (F := fun x => In D 0 74 x) (Nat.le_refl _) (fun _ _ => rfl) (by simp) (by
           simp -implicitDefEqProofs only [List.mem_cons, List.not_mem_nil, or_false]
           rintro m (rfl | rfl | rfl | rfl | rfl | rfl | rfl | rfl | rfl | rfl | rfl | rfl) x hx _ <;> first | (have h3 := hr1 _ hx; exact ⟨by have := h3.1; omega, by have := h3.2; omega⟩) | (have h3 := (hr2 _ hx).2; exact ⟨by have := h3.1; omega, by have := h3.2; omega⟩) | (cases hx))) hb0 (fun _ _ h => .inl h) fun _ _ h => h.elim
       have hdf : Dig s' D ⟨d.st, d.w' b, d.n + d.k b⟩ := by rw [← hs']; exact hde.same rfl rfl
       have hvf : Bn s' v1 (b.drop (d.k b)) := by rw [← hs']; exact hve.same rfl rfl
       clear hs' hr1 hr2 hm1 m1 n1 m1' n1' x1
       have hr : (Sha.next d.st fun j => (d.w' b).getD j 0).Ok := Sha.plus_ok _ _
       have hst : d.step b = ⟨Sha.next d.st fun j => (d.w' b).getD j 0, d.w' b, d.n + d.k b⟩ := by unfold DS.step; rw [if_pos hfull]
       generalize (Sha.next d.st fun j => (d.w' b).getD j 0) = r at hr hst ⊢
       refine W.store H8 rfl rfl (fun i hi => ⟨_, by rw [show 0 + 1 + i = 1 + i by omega]; exact hdf.st i _ (List.getElem?_eq_getElem hi)⟩) fun sf nf xf rf => ?_
       have hxf : Ext (DigF D v0) (In D 0 74) s0 sf := hx'.trans xf hb0 (fun x _ h => .inl ⟨by have := h.1; omega, by have := h.2; omega⟩) fun x _ h => ⟨by have := h.1; omega, by have := h.2; omega⟩
       have hdg : Dig sf D ⟨r, d.w' b, d.n + d.k b⟩ := hdf.setSt hr xf rf
       have hvg : Bn sf v1 (b.drop (d.k b)) := hvf.ext xf fun x hx' h => hdisb x (hF1 x hx') ⟨by have := h.1; omega, by have := h.2; omega⟩
       refine ih _ _ _ _ ⟨r, d.w' b, d.n + d.k b⟩ (b.drop (d.k b)) v1 hlen1 (by omega) Kc_ hxf hdg hmax1 (fun _ => hvg) hvg.bs hby1 (fun x hx' => hv x (hF1 x hx')) (by simp [T.get_set, h0]) (by simp [T.get_set]) fun s1 x1 d1 => q s1 x1 ?_
       unfold DS.write
       rw [if_neg hbe, hst]
       exact d1
     · refine W.cond (v := false) rfl AC_ (by simp [T.get_set]; omega) (by omega) (fun h => by cases h) fun _ => ?_
       refine ih _ _ _ _ ⟨d.st, d.w' b, d.n + d.k b⟩ (b.drop (d.k b)) v1 hlen1 (by omega) My_ hxe hde hmax1 (fun _ => hve) hve.bs hby1 (fun x hx' => hv x (hF1 x hx')) (by simp [T.get_set, h0]) (by simp [T.get_set]) fun s1 x1 d1 => q s1 x1 ?_
       have : d.step b = ⟨d.st, d.w' b, d.n + d.k b⟩ := by unfold DS.step; rw [if_neg hfull]
       unfold DS.write
       rw [if_neg hbe, this]
       exact d1
theorem TH {D n:Nat}{v:Value}{Q:Value→St→Prop}{s:St}{d:DS}{b:List Nat}(hbd:s.lim≤s.next)(hdis: ∀x,BsF v x→ ¬In D 0 74 x)(hd:Dig s D d)(hmax:d.n+b.length≤1000000000)(hbn:b≠[]→Bn s v b)(hbs:Bs s v b)(hbyt:Byt b)(hn:20*b.length+100≤n)
  (q: ∀s1,Ext (DigF D v) (In D 0 74) s s1→Dig s1 D (DS.write b.length d b)→Q (.tuple #[]) s1):W (Ai envS (runF envS n) 111 [.pointer (some ⟨D,0,none⟩),v]) s Q:=by
 refine Nk_ fun tm h0 h1=> ?_
 have hd':Dig (s.cxN cxN) D d:=hd.same rfl rfl
 refine Yu_.w rfl (by omega) ?_
 simp -implicitDefEqProofs only[QO,Ad,W_oS,W_on,Aa,W_mv,Ac,reduceIte,Ax,A5,A9,Bb,AA,Bg,reduceCtorEq, ↓reduceIte,h0,CE_ Ua,BW Ea_ (by decide:0<1)]
 refine W.load1 QY hd'.made.at' ?_
 simp -implicitDefEqProofs only[CJ]
 refine W.cond (v:=false) rfl Sf_ (by simp[T.get_set]) (by omega) (fun h=>by cases h) fun _=> ?_
 refine QY_ (s0:=s.cxN cxN) (v0:=v) hbd rfl hdis b.length _ _ _ _ d b v (Nat.le_refl _) (by omega) rfl (Ext.rdN (F:=DigF D v) _ _ fun _=> .inl ⟨by omega,by omega⟩) (hd'.same rfl rfl) hmax (fun h=>(hbn h).same rfl rfl) (hbs.same rfl rfl) hbyt (fun x h=>h) (by simp[T.get_set,h0]) (by simp[T.get_set,h1]) fun s1 x1 d1=>q _ x1.cx' (d1.same rfl rfl)
theorem RQ_:Du envS 163=some (List.replicate 8 (.int .u32 0)):=by kernel_rfl
theorem Yq_ (r:Sha.St8):Df envS 167 [(0, .bool true),(1, .agg (st8V r))]=some (.bool true::((st8V r).toList++(u8l (List.replicate 64 0)++[.int .i64 ((0:Nat):Int)]))):=by kernel_rfl
theorem Qz_:Df envS 163 [(0, .int .u32 1779033703),(1, .int .u32 3144134277),(2, .int .u32 1013904242),(3, .int .u32 2773480762),(4, .int .u32 1359893119),(5, .int .u32 2600822924),(6, .int .u32 528734635),(7, .int .u32 1541459225)]=some (st8V Dq).toList:=by kernel_rfl
theorem PW_ {n:Nat}{s:St}{Q:Value→St→Prop}(hbd:s.lim≤s.next)(hn:10≤n)(q: ∀s1,Ext Non Non s s1→Q (.agg (st8V Dq)) s1):W (Ai envS (runF envS n) 133 []) s Q:=by
 refine AbN_ fun tm=> ?_
 refine RZ_.w rfl (by omega) ?_
 simp -implicitDefEqProofs only[QH,Ad,Aa,Ac]
 refine W.alloc RQ_ fun sa na xa oa=> ?_
 refine KI_.w rfl (by omega) ?_
 simp -implicitDefEqProofs only[AE_,Ad,W_oS,Aa,T.get_set,A8,A2,Af,reduceIte, ↓reduceIte,D6 Qz_]
 refine W.store H8 rfl rfl (fun i hi=>⟨.int .u32 0,by rw[Nat.zero_add];have:=oa i (.int .u32 0) (by rw[List.getElem?_replicate];rw[if_pos hi]);rw[Nat.zero_add]at this;exact this⟩) fun sb nb xb ob=> ?_
 refine W.endC (r:=0) (t:=163) rfl (.inl UF_) (by omega) BR_ RF_ (xb.cx.trans xa.cx) (by simp[T.get_set];rfl) ?_
 refine W.loadA H8 ob.row rfl fun sc mc nc xc=> ?_
 have x:Ext Non Non s (sc.cxN s.cx):=((xa.trans xb hbd (fun x h g=>by have g1:s.next+0≤x:=g.1;have h1:x<s.lim:=h;omega) fun x h g=>by have g1:s.next+0≤x:=g.1;have h1:x<s.next:=h;omega).trans xc hbd (fun x h g=>by have g1:s.next+0≤x:=g.1;have h1:x<s.lim:=h;omega) fun x h g=>g.elim).cx'
 exact q _ x
def DS.new:DS:=⟨Dq,List.replicate 64 0,0⟩
theorem ML_ {n:Nat}{s:St}{Q:Value→St→Prop}(hbd:s.lim≤s.next)(hn:30≤n)(q: ∀s1 D,s.next≤D→D+74≤s1.next→Ext Non Non s s1→Dig s1 D DS.new→Q (.pointer (some ⟨D,0,none⟩)) s1):W (Ai envS (runF envS n) 110 []) s Q:=by
 refine Aae_ fun tm=> ?_
 refine Sw_.w rfl (by omega) ?_
 simp -implicitDefEqProofs only[TZ,Aa,W_mv,Ac]
 refine PY_.w rfl (by omega) ?_
 simp -implicitDefEqProofs only[FU_,Ad,W_oS,W_on,Aa,W_mv,Ac,Ag,A8,A2,Af,Ar]
 refine PW_ (s:=s.cxN cxN) hbd (by omega) fun sa xa=> ?_
 simp -implicitDefEqProofs only[D6 (Yq_ Dq)]
 refine W.box fun sb nb xb ob=> ?_
 refine W.end' (rs:=[0]) (vs:=[.pointer (some ⟨sa.next,0,none⟩)]) rfl (.inl Xr_) (by omega) Af_ Abo_ (xb.cx.trans xa.cx) (by simp[T.get_set]) ?_
 have hx:Ext Non Non s (sb.cxN s.cx):=(xa.trans xb hbd (fun x h g=>g) fun x h g=>g).cx'
 have ob':Ae (sb.cxN s.cx) sa.next 0 (.bool true::((st8V Dq).toList++(u8l (List.replicate 64 0)++[.int .i64 ((0:Nat):Int)]))):=fun i v e=>(ob i v e).same rfl rfl
 refine q _ sa.next xa.nxt ?_ hx ⟨?_, ?_, ?_, ?_,rfl, ?_,Ai_⟩
 ·have h:(sb.cxN s.cx).next=sa.next+74+1:=nb
  omega
 ·exact ob' 0 _ rfl
 ·intro i v e
  have e:(st8V Dq).toList[i]?=some v:=e
  have hi:=(List.getElem?_eq_some_iff.1 e).1
  have:=ob' (1+i) v (by rw[Nat.add_comm,List.getElem?_cons_succ,List.getElem?_append_left hi];exact e)
  rw[Nat.zero_add]at this
  exact this
 ·intro i v e
  have e:(u8l (List.replicate 64 0))[i]?=some v:=e
  have hi:=(List.getElem?_eq_some_iff.1 e).1
  have:=ob' (9+i) v (by rw[show 9+i=(8+i)+1 by omega,List.getElem?_cons_succ,List.getElem?_append_right (by rw[D1];omega),D1,show 8+i-8=i by omega,List.getElem?_append_left hi];exact e)
  rw[Nat.zero_add]at this
  exact this
 ·exact ob' 73 _ rfl
 ·intro x hx
  have hx:x∈List.replicate 64 0:=hx
  rw[List.mem_replicate]at hx
  omega
theorem KI:hasT envS 3=true:=by kernel_rfl
def tl8 (N:Nat):Nat→List Nat
 |0=>[]
 |k+1=>(N>>>(8*k))%256::tl8 N k
theorem O1 (N:Nat): ∀k,(tl8 N k).length=k
 |0=>rfl
 |k+1=>by unfold tl8;rw[List.length_cons,O1 N k]
theorem Lm (N:Nat): ∀k,Byt (tl8 N k)
 |0=>fun x hx=>by cases hx
 |k+1=>fun x hx=>by
  unfold tl8 at hx
  rcases List.mem_cons.1 hx with rfl|hx
  ·exact Nat.mod_lt _ (by decide)
  ·exact Lm N k x hx
abbrev PadF (D B:Nat):Nat→Prop:=fun x=>In D 0 74 x∨In B 0 80 x
theorem QD_ {D B:Nat}{a2 a3 a4:Value}{d:DS}{Q:Value×FrameMode→St→Prop}{s0:St}(hmax:8*d.n≤9223372036854775807)(hb0:s0.lim≤s0.next)(hdis:D+74≤B∨B+80≤D)(hB:B+80≤s0.next): ∀(k n:Nat) (tm:T Value) (s:St) (td:List Item) (p:List Nat),k≤8→10*k+20≤n→skim 64 td=Jl→Ext (PadF D B) (In B 0 80) s0 s→Dig s D d→Ae s B 0 (u8l p)→A3 s B 0 80→p.length+k≤80→
  T.get tm 0=some (.pointer (some ⟨D,0,none⟩))→T.get tm 2=some a2→T.get tm 3=some a3→T.get tm 4=some a4→T.get tm 5=some (.slice (some ⟨B,0,none⟩) p.length 80)→T.get tm 6=some (.int .i64 (8*((k:Nat):Int)-8))→
  (∀n' tm' s1 td',n≤n'+10*k+5→skim 64 td'=Om→Ext (PadF D B) (In B 0 80) s0 s1→Dig s1 D d→Ae s1 B 0 (u8l (p++tl8 (8*d.n) k))→T.get tm' 0=some (.pointer (some ⟨D,0,none⟩))→T.get tm' 2=some a2→T.get tm' 3=some a3→T.get tm' 4=some a4→T.get tm' 5=some (.slice (some ⟨B,0,none⟩) (p.length+k) 80)→W (runF envS n' ⟨112,Gu,B8,tm',td', .run, .normal,none⟩) s1 Q)→
  W (runF envS n ⟨112,Gu,B8,tm,td, .run, .normal,none⟩) s Q:=by
 intro k
 induction k with
 |zero=>
  intro n tm s td p hk hn hT hx hd ho hw hl h0 h2 h3 h4 h5 h6 q
  refine Vu.w hT (by omega) ?_
  simp -implicitDefEqProofs only[NE,Ad,W_oS,Aa,W_mv,Ac,Hr,h6]
  refine W.cond (v:=false) rfl CD_ (by simp[T.get_set]) (by omega) (fun h=>by cases h) fun _=> ?_
  refine q _ _ _ _ (by omega) rfl hx hd ?_ (by simp[T.get_set,h0]) (by simp[T.get_set,h2]) (by simp[T.get_set,h3]) (by simp[T.get_set,h4]) (by simp[T.get_set,h5])
  rw[show tl8 (8*d.n) 0=[]from rfl,List.append_nil]
  exact ho
 |succ k ih=>
  intro n tm s td p hk hn hT hx hd ho hw hl h0 h2 h3 h4 h5 h6 q
  have ec:(8*((k+1:Nat):Int)-8)=((8*k:Nat):Int):=by omega
  rw[ec]at h6
  refine Vu.w hT (by omega) ?_
  simp -implicitDefEqProofs only[NE,Ad,W_oS,Aa,W_mv,Ac,Hr,h6]
  refine W.cond (v:=true) rfl CD_ (by simp[T.get_set];omega) (by omega) (fun _=> ?_) fun h=>by cases h
  refine MA_.w rfl (by omega) ?_
  simp -implicitDefEqProofs only[FS_,Ad,W_oS,Aa,W_mv,Ac,T.get_set,Ah,Ag,A8,A2,Af,reduceIte,Bg,Nat.reduceEqDiff,reduceCtorEq, ↓reduceIte,h0,h5,h6,BW KK (by decide:0<1)]
  refine W.load1 HZ hd.n.at' ?_
  have hxa:Ext (PadF D B) (In B 0 80) s0 (s.rdN (D+(0+73))):=hx.trans (Ext.rdN (F:=PadF D B) s _ fun _=> .inl ⟨by omega,by omega⟩) hb0 (fun _ _ h=>h) fun _ _ h=>h
  have hda:Dig (s.rdN (D+(0+73))) D d:=hd.same rfl rfl
  have hoa:Ae (s.rdN (D+(0+73))) B 0 (u8l p):=fun i v e=>(ho i v e).same rfl rfl
  have hwa:A3 (s.rdN (D+(0+73))) B 0 80:=fun j hj=>let ⟨u,h⟩:=hw j hj;⟨u,h.same rfl rfl⟩
  generalize s.rdN (D+(0+73))=sa at hxa hda hoa hwa ⊢
  simp -implicitDefEqProofs only[Jr hmax,Fh (k:= .i64) (kk:= .i64) (n:=8*k) (show 8*k≤64 by omega),CO KI DP,wrap_u8]
  have hba:sa.lim≤sa.next:=hxa.bnd hb0
  refine W.buildS hba (r:=u8l [(8*d.n)>>>(8*k)%256]) CU (by decide) rfl (Bh (by decide)) fun sb nb xb rb=> ?_
  have hxb:Ext (PadF D B) (In B 0 80) s0 sb:=hxa.trans xb hb0 (fun _ _ h=>h.elim) fun _ _ h=>h.elim
  have hBs:Bs sb (.slice (some ⟨sa.next,0,none⟩) 1 1) [(8*d.n)>>>(8*k)%256]:=Ae.bn rb (Bh (by simp))
  have hob:Ae sb B 0 (u8l p):=hoa.ext0 xb
  have hwb:A3 sb B 0 80:=fun j hj=>let ⟨u,h⟩:=hwa j hj;⟨u,h.ext0 xb⟩
  simp -implicitDefEqProofs only[Eo]
  refine W.appIn (n:=1) Gq hBs.src.g (by rw[Nat.mod_eq_of_lt (Bh (by decide))];omega) rfl (BT _) (fun i hi=> ?_) fun sc nc xc rc=> ?_
  ·have:=hwb (p.length+i) (by omega)
   rw[show 0+p.length*1+i=0+(p.length+i) by omega]
   exact this
  have sub: ∀x,In B (0+p.length*1) (1*1) x→In B 0 80 x:=fun x h=>⟨by have:=h.1;omega,by
   have h4:x<B+(0+p.length*1)+1*1:=h.2
   omega⟩
  have nod: ∀i,i<74→ ¬In B (0+p.length*1) (1*1) (D+i):=fun i hi h=>by
   have h3:B+(0+p.length*1)≤D+i:=h.1
   have h4:D+i<B+(0+p.length*1)+1*1:=h.2
   omega
  have hxc:Ext (PadF D B) (In B 0 80) s0 sc:=hxb.trans xc hb0 (fun x hx' h=>by
   rcases h with h|h
   ·have h1:sa.next+0≤x:=h.1
    have h2:=hxa.nxt
    omega
   ·exact .inr (sub x h)) fun x _ h=>sub x h
  have hdc:Dig sc D d:=⟨hda.made.ext0 xb |>.ext xc (nod 0 (by decide)),(hda.st.ext0 xb).ext xc fun i hi=>nod (1+i) (by rw[D1]at hi;omega),(hda.w.ext0 xb).ext xc fun i hi=>nod (9+i) (by rw[A6,hda.len]at hi;omega),(hda.n.ext0 xb).ext xc (nod 73 (by decide)),hda.len,hda.byt,hda.ok⟩
  have hoc:Ae sc B 0 (u8l (p++[(8*d.n)>>>(8*k)%256])):=by
   have e:u8l (p++[(8*d.n)>>>(8*k)%256])=u8l p++u8l [(8*d.n)>>>(8*k)%256]:=List.map_append
   rw[e]
   refine Ae.append (hob.ext xc fun i hi h=> ?_) ?_
   ·rw[A6]at hi
    have h1:B+(0+p.length*1)≤B+(0+i):=h.1
    omega
   ·rw[A6,show 0+p.length=0+p.length*1 by omega]
    exact rc
  have hwc:A3 sc B 0 80:=hwb.ext xc rc
  have hlp:(p++[(8*d.n)>>>(8*k)%256]).length=p.length+1:=by simp
  refine Aar_.w rfl (by omega) ?_
  have e8:wrap64 (((8*k:Nat):Int)-8)=8*((k:Nat):Int)-8:=by
   rw[AP (by omega) (by omega)];omega
  simp -implicitDefEqProofs only[Sg,Ad,W_oS,Aa,W_mv,Ac,T.get_set,reduceIte,Nat.reduceEqDiff, ↓reduceIte,Cm,h6,e8]
  refine ih _ _ sc _ (p++[(8*d.n)>>>(8*k)%256]) (by omega) (by omega) OO_ hxc hdc hoc hwc (by omega) (by simp[T.get_set,h0]) (by simp[T.get_set,h2]) (by simp[T.get_set,h3]) (by simp[T.get_set,h4]) (by simp[T.get_set]) (by simp[T.get_set]) fun n' tm' s1 td' e1 e2 e3 e4 e5 e6 e7 e8 e9 e10=>q n' tm' s1 td' (by omega) e2 e3 e4 ?_ e6 e7 e8 e9 ?_
  ·rw[List.append_assoc]at e5
   exact e5
  ·rw[hlp]at e10
   rw[e10,show p.length+1+k=p.length+(k+1) by omega]
theorem Kq:arrN envS 101=some (32,1):=by kernel_rfl
theorem Rd_:arrU envS 163=some 8:=by kernel_rfl
def be4 (x:Nat):List Nat:=[x>>>24%256,x>>>16%256,x>>>8%256,x%256]
def outs:List Nat→List Nat
 |[]=>[]
 |x::l=>be4 x++outs l
theorem KD: ∀l:List Nat,(outs l).length=4*l.length
 |[]=>rfl
 |x::l=>by
  unfold outs
  rw[List.length_append,KD l,List.length_cons]
  show 4+_=_
  omega
theorem Cq_ (x:Nat): ∀l:List Nat,outs (l++[x])=outs l++be4 x
 |[]=>by show be4 x++[]=_;rw[List.append_nil];rfl
 |y::l=>by
  show be4 y++outs (l++[x])=(be4 y++outs l)++be4 x
  rw[Cq_ x l,List.append_assoc]
theorem PM_ {O:Nat}{a2:Value}{cs:Array Value}{l:List Nat}(hl8:l.length=8)(hcs: ∀i (h:i<l.length),cs.toList[i]?=some (.int .u32 (l[i]:Nat))){Q:Value×FrameMode→St→Prop}{s0:St}(hb0:s0.lim≤s0.next): ∀(k i n:Nat) (tm:T Value) (s:St) (td:List Item),i+k=8→10*k+20≤n→skim 64 td=IZ→Ext (In O 0 32) (In O 0 32) s0 s→Ae s O 0 (u8l (outs (l.take i)))→A3 s O 0 32→
  T.get tm 2=some a2→T.get tm 3=some (.pointer (some ⟨O,0,none⟩))→T.get tm 51=some (.agg cs)→T.get tm 52=some (.int .i64 (i:Nat))→
  (∀n' tm' s1 td',n≤n'+10*k+5→skim 64 td'=NZ→Ext (In O 0 32) (In O 0 32) s0 s1→Ae s1 O 0 (u8l (outs l))→T.get tm' 2=some a2→T.get tm' 3=some (.pointer (some ⟨O,0,none⟩))→W (runF envS n' ⟨112,Gu,B8,tm',td', .run, .normal,none⟩) s1 Q)→
  W (runF envS n ⟨112,Gu,B8,tm,td, .run, .normal,none⟩) s Q:=by
 intro k
 induction k with
 |zero=>
  intro i n tm s td hi hn hT hx ho hw h2 h3 h51 h52 q
  refine Ap_.w hT (by omega) ?_
  simp -implicitDefEqProofs only[Mw,Ad,W_oS,Aa,Ac,h52,show(8:Int)=((8:Nat):Int)from rfl]
  simp -implicitDefEqProofs only[Be]
  refine W.cond (v:=false) rfl U2 (by simp[T.get_set];omega) (by omega) (fun h=>by cases h) fun _=> ?_
  rw[show i=l.length by omega,List.take_length]at ho
  exact q _ _ _ _ (by omega) rfl hx ho (by simp[T.get_set,h2]) (by simp[T.get_set,h3])
 |succ k ih=>
  intro i n tm s td hi hn hT hx ho hw h2 h3 h51 h52 q
  have hil:i<l.length:=by omega
  refine Ap_.w hT (by omega) ?_
  simp -implicitDefEqProofs only[Mw,Ad,W_oS,Aa,Ac,h52]
  simp -implicitDefEqProofs only[Be]
  refine W.cond (v:=true) rfl U2 (by simp[T.get_set];omega) (by omega) (fun _=> ?_) fun h=>by cases h
  refine Sq_.w rfl (by omega) ?_
  simp -implicitDefEqProofs only[QB,Ad,W_oS,Aa,W_mv,Ac,T.get_set,reduceIte,Nat.reduceEqDiff, ↓reduceIte,h51,h52,UO_ Rd_ (show i<8 by omega) (hcs i hil)]
  refine Vk_.w rfl (by omega) ?_
  generalize hxe:l[i]=x
  simp -implicitDefEqProofs only[Dz_,Ad,W_oS,W_on,Aa,W_mv,T.get_set,Ah,Ag,A8,A2,Af,reduceIte,Nat.reduceEqDiff, ↓reduceIte,h3,TD (show 4*i≤9223372036854775807 by omega),Lb (lo:=some (.int .i64 ((4*i:Nat):Int))) (hi:=none) (l:=4*i) (h:=32) Kq (Bh (by decide)) rfl rfl (by omega) (Nat.le_refl _)]
  rw[if_neg (by omega)]
  simp -implicitDefEqProofs only[CO Gg DP,wrap_u8,Gv (k:= .u32) (by decide),Li (k:= .u32) (by decide),Mi (k:= .u32) (by decide)]
  have hba:s.lim≤s.next:=hx.bnd hb0
  refine W.buildS hba (r:=u8l (be4 x)) CU (by decide) rfl (Bh (by decide)) fun sb nb xb rb=> ?_
  have hxb:Ext (In O 0 32) (In O 0 32) s0 sb:=hx.trans xb hb0 (fun _ _ h=>h.elim) fun _ _ h=>h.elim
  have hBs:Bs sb (.slice (some ⟨s.next,0,none⟩) 4 4) (be4 x):=Ae.bn rb (Bh (by simp[be4]))
  have hob:Ae sb O 0 (u8l (outs (l.take i))):=ho.ext0 xb
  have hwb:A3 sb O 0 32:=fun j hj=>let ⟨u,h⟩:=hw j hj;⟨u,h.ext0 xb⟩
  refine W.copy (k:=4) (l:=u8l (be4 x)) CU (Nat.min_eq_right (show 4≤32-4*i by omega)).symm (hBs.srcK (k:=4) (Nat.le_refl _)) rfl (BT _) (fun j hj=> ?_) fun sc nc xc rc=> ?_
  ·have:=hwb (4*i+j) (by omega)
   rw[show 0+4*i*1+j=0+(4*i+j) by omega]
   exact this
  have sub: ∀y,In O (0+4*i*1) (4*1) y→In O 0 32 y:=fun y h=>⟨by have:=h.1;omega,by
   have h4:y<O+(0+4*i*1)+4*1:=h.2
   omega⟩
  have hxc:Ext (In O 0 32) (In O 0 32) s0 sc:=hxb.trans xc hb0 (fun y hy h=>by
   rcases h with h|h
   ·have h1:s.next+0≤y:=h.1
    have h2:=hx.nxt
    omega
   ·exact sub y h) fun y _ h=>sub y h
  have hlt:(outs (l.take i)).length=4*i:=by rw[KD,List.length_take];omega
  have hoc:Ae sc O 0 (u8l (outs (l.take (i+1)))):=by
   have e:u8l (outs (l.take (i+1)))=u8l (outs (l.take i))++u8l (be4 x):=by
    rw[List.take_add_one,List.getElem?_eq_getElem hil,hxe]
    show u8l (outs (l.take i++[x]))=_
    rw[Cq_]
    exact List.map_append
   rw[e]
   refine Ae.append (hob.ext xc fun j hj h=> ?_) ?_
   ·rw[A6,hlt]at hj
    have h1:O+(0+4*i*1)≤O+(0+j):=h.1
    omega
   ·rw[A6,hlt,show 0+4*i=0+4*i*1 by omega]
    exact rc
  have hwc:A3 sc O 0 32:=hwb.ext xc rc
  refine WQ_.w rfl (by omega) ?_
  have ei:wrap64 ((i:Nat)+1:Int)=((i+1:Nat):Int):=by
   rw[AP (by omega) (by omega)];simp
  simp -implicitDefEqProofs only[W3,Ad,W_oS,Aa,W_mv,Ac,T.get_set,reduceIte,Nat.reduceEqDiff, ↓reduceIte,By,h52,ei]
  exact ih (i+1) _ _ sc _ (by omega) (by omega) KQ_ hxc hoc hwc (by simp[T.get_set,h2]) (by simp[T.get_set,h3]) (by simp[T.get_set,h51]) (by simp[T.get_set]) fun n' tm' s1 td' e1=>q n' tm' s1 td' (by omega)
theorem SO:tyS envS 167=some (74,true):=by kernel_rfl
theorem QR_:Du envS 167=some (.bool false::(List.replicate 8 (.int .u32 0)++(List.replicate 64 (.int .u8 0)++[.int .i64 0]))):=by kernel_rfl
theorem Eb:tyS envS 101=some (32,true):=by kernel_rfl
theorem Fq:Du envS 101=some (List.replicate 32 (.int .u8 0)):=by kernel_rfl
def DS.row (d:DS):List Value:= .bool true::((st8V d.st).toList++(u8l d.w++[.int .i64 (d.n:Nat)]))
theorem DS.row_len (d:DS)(h:d.w.length=64):d.row.length=74:=by
 unfold DS.row
 rw[List.length_cons,List.length_append,D1,List.length_append,A6,h]
 rfl
theorem DS.row_one (d:DS):d.row.all oneCell=true:=by
 have h1:(st8V d.st).toList.all oneCell=true:=rfl
 unfold DS.row
 rw[List.all_cons,List.all_append,List.all_append,BT,h1]
 rfl
theorem Ae.app_l {s:St}{b o:Nat}{l l':List Value}(h:Ae s b o (l++l')):Ae s b o l:=fun i v e=>h i v (by rw[List.getElem?_append_left (List.getElem?_eq_some_iff.1 e).1];exact e)
theorem Ae.app_r {s:St}{b o:Nat}{l l':List Value}(h:Ae s b o (l++l')):Ae s b (o+l.length) l':=fun i v e=>by
 have:=h (l.length+i) v (by rw[List.getElem?_append_right (by omega),show l.length+i-l.length=i by omega];exact e)
 rw[←Nat.add_assoc]at this
 exact this
theorem Ae.cons_l {s:St}{b o:Nat}{v:Value}{l:List Value}(h:Ae s b o (v::l)):Own s b o v:=h 0 v rfl
theorem Ae.cons_r {s:St}{b o:Nat}{v:Value}{l:List Value}(h:Ae s b o (v::l)):Ae s b (o+1) l:=fun i x e=>by
 have:=h (i+1) x (by simpa using e)
 rw[show o+1+i=o+(i+1) by omega]
 exact this
theorem Ae.cons {s:St}{b o:Nat}{v:Value}{l:List Value}(h:Own s b o v)(k:Ae s b (o+1) l):Ae s b o (v::l):=fun i x e=>by
 cases i with
 |zero=>simp at e;subst e;exact h
 |succ i=>
  have:=k i x (by simpa using e)
  rw[show o+(i+1)=o+1+i by omega]
  exact this
theorem Ae.nil {s:St}{b o:Nat}:Ae s b o []:=fun i x e=>by simp at e
theorem Dig.toRow {s:St}{D:Nat}{d:DS}(h:Dig s D d):Ae s D 0 d.row:=by
 unfold DS.row
 refine Ae.cons h.made (Ae.append h.st (Ae.append ?_ ?_))
 ·rw[D1];exact h.w
 ·rw[D1,A6,h.len]
  exact Ae.cons h.n .nil
theorem Dig.ofRow {s:St}{D:Nat}{d:DS}(h:Ae s D 0 d.row)(h1:d.w.length=64)(h2:Byt d.w)(h3:d.st.Ok):Dig s D d:=by
 unfold DS.row at h
 have h4:=h.cons_r
 have h5:=h4.app_r
 have h6:=h5.app_r
 rw[D1]at h5
 rw[D1,A6,h1]at h6
 exact⟨h.cons_l,h4.app_l,h5.app_l,h6.cons_l,h1,h2,h3⟩
def DS.pad0 (d:DS):List Nat:=128::List.replicate ((119-d.n%64)%64) 0
def DS.pad (d:DS):List Nat:=d.pad0++tl8 (8*d.n) 8
def DS.fin (d:DS):DS:=DS.write d.pad.length d d.pad
def st8L (r:Sha.St8):List Nat:=[r.a,r.b,r.c,r.d,r.e,r.f,r.g,r.h]
def DS.sum (d:DS):List Nat:=outs (st8L d.fin.st)
theorem DS.pad0_len (d:DS):d.pad0.length=(119-d.n%64)%64+1:=by unfold DS.pad0;rw[List.length_cons,List.length_replicate]
theorem DS.pad0_byt (d:DS):Byt d.pad0:=fun x hx=>by
 unfold DS.pad0 at hx
 rcases List.mem_cons.1 hx with rfl|hx
 ·decide
 ·rw[List.mem_replicate]at hx;omega
theorem DS.pad_byt (d:DS):Byt d.pad:=fun x hx=>by
 rcases List.mem_append.1 hx with hx|hx
 ·exact d.pad0_byt x hx
 ·exact Lm _ _ x hx
theorem DS.sum_len (d:DS):d.sum.length=32:=KD _
theorem SD_ (r:Sha.St8)(i:Nat)(h:i<(st8L r).length):(st8V r).toList[i]?=some (.int .u32 ((st8L r)[i]:Nat)):=by
 have h8:i<8:=h
 match i,h8 with
 |0,_=>rfl
 |1,_=>rfl
 |2,_=>rfl
 |3,_=>rfl
 |4,_=>rfl
 |5,_=>rfl
 |6,_=>rfl
 |7,_=>rfl
theorem Zm_ {C O2 O3 n:Nat}{d:DS}{tm:T Value}{td:List Item}{s:St}{Q:Value×FrameMode→St→Prop}(hb:s.lim≤s.next)(hcx:s.cx= .cx none (some []))(h23:O2+32≤O3)(hd:Dig s C d)(ho3:A3 s O3 0 32)(ho2:A3 s O2 0 32)(hn:120≤n)(hT:skim 64 td=OX)
  (h2:T.get tm 2=some (.pointer (some ⟨O2,0,none⟩))) (h3:T.get tm 3=some (.pointer (some ⟨O3,0,none⟩))) (h4:T.get tm 4=some (.pointer (some ⟨C,0,none⟩)))
  (q: ∀s1,Ext (fun x=>In C 0 74 x∨In O3 0 32 x∨In O2 0 32 x) (fun x=>In O3 0 32 x∨In O2 0 32 x) s s1→Q (.agg (u8l (outs (st8L d.st))).toArray, .run) s1):W (runF envS n ⟨112,Gu,B8,tm,td, .run, .normal,none⟩) s Q:=by
 refine Kg_.w hT (by omega) ?_
 simp -implicitDefEqProofs only[VS,Ad,W_oS,Aa,W_mv,Ac,h4,BW L8 (by decide:0<8)]
 refine W.loadA H8 hd.st.row (D1 _) fun sa ma na xa=> ?_
 have hxa:Ext (fun x=>In C 0 74 x∨In O3 0 32 x∨In O2 0 32 x) (fun x=>In O3 0 32 x∨In O2 0 32 x) s sa:=xa.weak hb (fun x _ h=> .inl ⟨by have:=h.1;omega,by have:=h.2;omega⟩) fun _ _ h=>h.elim
 have ho3a:A3 sa O3 0 32:=fun j hj=>let ⟨u,h⟩:=ho3 j hj;⟨u,h.same ma na⟩
 have ho2a:A3 sa O2 0 32:=fun j hj=>let ⟨u,h⟩:=ho2 j hj;⟨u,h.same ma na⟩
 have hba:sa.lim≤sa.next:=xa.bnd hb
 refine PM_ (l:=st8L d.st) (cs:=(st8V d.st).toList.toArray) rfl (fun i h=>SD_ d.st i h) hba 8 0 _ _ sa _ rfl (by omega) rfl (Ext.refl sa) (fun i v e=>by simp[outs,u8l]at e) ho3a (by simp[T.get_set,h2];rfl) (by simp[T.get_set,h3]) (by simp[T.get_set]) (by simp[T.get_set]) fun n' tm' sb td' e1 e2 xb ob t2 t3=> ?_
 refine LP_.w e2 (by omega) ?_
 simp -implicitDefEqProofs only[Xt,Ad,W_oS,Aa,t2,t3]
 have hxb:=hxa.trans xb hb (fun x _ h=> .inr (.inl h)) fun x _ h=> .inl h
 have hlen:(u8l (outs (st8L d.st))).length=32:=by rw[A6,KD];rfl
 refine W.loadA Eb ob.row hlen fun sc mc nc xc=> ?_
 have hxc:=hxb.trans xc hb (fun x _ h=> .inr (.inl h)) fun x _ h=>h.elim
 have ho2c:A3 sc O2 0 32:=fun j hj=>by
  obtain⟨u,h⟩:=ho2a j hj
  refine⟨u,(h.ext xb fun h=> ?_).same mc nc⟩
  have h1:O3+0≤O2+(0+j):=h.1
  omega
 refine W.store Eb hlen (BT _) ho2c fun se ne xe oe=> ?_
 have hxe:=hxc.trans xe hb (fun x _ h=> .inr (.inr h)) fun x _ h=> .inr h
 refine W.endC (r:=2) rfl (.inl VC_) (by omega) Xs Ly_ (hxe.cx.trans hcx) t2 ?_
 refine W.loadA Eb oe.row hlen fun sf mf nf xf=> ?_
 exact q sf (hxe.trans xf hb (fun x _ h=> .inr (.inr h)) fun x _ h=>h.elim)
end Go.Proofs.Ytofanlcjeohcjaa.Am
end
