import Derived.Test.YtndednnianphoaaGreatDoorJo26
import Derived.Carry
import Derived.ChangeSame
namespace Go.Proofs.YtndednnianphoaaGreatDoor.Am
open Go.RowKit
theorem neNN (x:Nat)(s:St):Cl.get (aBin envS .neq 26 (.tmp x) (.const (.pointer none))) (.pointer none) (.pointer none) s= .some (.bool false) s:=by kernel_rfl
theorem Mh_ (x:Nat){s:St}(Q:Value->St->Prop):W (Cl.get (aBin envS .neq 26 (.tmp x) (.const (.pointer none))) (.pointer none) (.pointer none)) s Q=Q (.bool false) s:=AJ (neNN x s)
theorem EndJ.weak {K:DkS}{t a b xa xb:Nat}{m1 m2:Bool}(h:EndJ K t a b false false)(h1:a=xa\/(m1=true/\a=xa+1))(h2:b=xb\/(m2=true/\b=xb+1)):EndJ K t xa xb m1 m2:=
 ⟨h.nm,h.room,h.us,λgs hc=>by
  obtain⟨m,L,g1,g2,g3⟩:=h.cr gs hc
  have e1:maxA 1 0 L=a:=g2.resolve_right λg=>by cases g.1
  have e2:maxA 2 0 L=b:=g3.resolve_right λg=>by cases g.1
  exact⟨m,L,g1,by rw[e1];exact h1,by rw[e2];exact h2⟩⟩
section
variable {D M X C:Nat}{va lv:Value}{fuse keep:Int}{s0:St}{l:List Bool}
theorem AQ_ {t m N0 xa xb n:Nat}{m1 m2:Bool}{L:LsJ}{tm:T Value}{td:List Item}{s:St}{col:Nat->Nat}{K:DkS}(hb0:s0.lim<=s0.next)(hl:BoR s0 lv l)(h20:l.length<=20)(ht:t<=11)(hN:600000<=N0)
  (hCX:X+4<=C\/C+3<=X) (hX0:s0.next<=X) (hC0:s0.next<=C) (hn:N0+1000<=n) (hT:skim 64 td=LV)
  (hy:Ext Any Non s0 s) (hc: ∀x,x<s0.next->1000<=col x) (hI:DkI s col D M K) (hr:K.room=1048576) (ho:K.out=false) (hu:K.fused=decide (0<=fuse)) (hR:RestJ K.fs m L t) (hX:CntI s X xa xb m1 m2) (hXc: ∀y,X<=y->y<X+4->1000<=col y) (hx1:maxA 1 0 L=xa\/(m1=true/\maxA 1 0 L=xa+1)) (hx2:maxA 2 0 L=xb\/(m2=true/\maxA 2 0 L=xb+1)) (hC:CpI s C lv fuse keep) (hCc: ∀y,C<=y->y<C+3->1000<=col y)
  (t0:T.get tm 0=some va) (t3:T.get tm 3=some (.bool true)) (t4:T.get tm 4=some (.pointer (some ⟨D,0,none⟩))) (t6:T.get tm 6=some (.pointer (some ⟨X,0,none⟩))) (t7:T.get tm 7=some (.int .i64 (t:Nat))) (t8:T.get tm 8=some (.pointer (some ⟨C,0,none⟩)))
  (q: ∀n' tm' td' s' col' K' m L xa xb m1 m2,N0<=n'->skim 64 td'=Ej->Ext Any Non s0 s'->(∀x,x<s0.next->1000<=col' x)->DkI s' col' D M K'->K'.room=1048576->K'.out=false->K'.fused=false->RestJ K'.fs m L (t+1)->CntI s' X xa xb m1 m2->(∀y,X<=y->y<X+4->1000<=col' y)->(maxA 1 0 L=xa\/(m1=true/\maxA 1 0 L=xa+1))->(maxA 2 0 L=xb\/(m2=true/\maxA 2 0 L=xb+1))->
   T.get tm' 0=some va->T.get tm' 3=some (.bool true)->T.get tm' 4=some (.pointer (some ⟨D,0,none⟩))->T.get tm' 6=some (.pointer (some ⟨X,0,none⟩))->T.get tm' 7=some (.int .i64 (t+1:Nat))->W (runF envS n' ⟨5,CS,AT,tm',td', .run, .normal,none⟩) s' λp _=>p.1= .bool true):
  W (runF envS n ⟨5,CS,AT,tm,td, .run, .normal,none⟩) s λp _=>p.1= .bool true:=by
 have hml:=hR.ml
 have hll:=hR.ll
 have hm1:=hR.m1
 have hmx:=hR.mx
 have hbs:=hy.bnd hb0
 have hs0:s0.next<=s.next:=hy.nxt
 have hXl:X+3<s.next:=hX.o3.1
 have hCl:C+2<s.next:=hC.o2.1
 have hus:K.used<=908*L.length:=hR.f.used hR.ok
 have hXe: ∀{s1:St},Ext Any (λx=>col x<1000) s s1->CntI s1 X xa xb m1 m2:=λx1=>hX.ext x1 λy _ g=>by
  rcases Nat.lt_or_ge y X with h|h
  ·exact .inl h
  ·rcases Nat.lt_or_ge y (X+4)with h2|h2
   ·have:=hXc y h h2
    omega
   ·exact .inr h2
 have hCe: ∀{s1:St},Ext Any (λx=>col x<1000) s s1->CpI s1 C lv fuse keep:=λx1=>hC.ext x1 λy _ g=>by
  rcases Nat.lt_or_ge y C with h|h
  ·exact .inl h
  ·rcases Nat.lt_or_ge y (C+3)with h2|h2
   ·have:=hCc y h h2
    omega
   ·exact .inr h2
 have hce: ∀{col1:Nat->Nat},(∀x,x<s.next->1000<=col x->col1 x=col x)->(∀x,x<s0.next->1000<=col1 x)/\(∀y,X<=y->y<X+4->1000<=col1 y)/\ ∀y,C<=y->y<C+3->1000<=col1 y:=λhag=>
  ⟨λx hx=>by rw[hag x (by omega) (hc x hx)];exact hc x hx,λy h1 h2=>by rw[hag y (by omega) (hXc y h1 h2)];exact hXc y h1 h2,λy h1 h2=>by rw[hag y (by omega) (hCc y h1 h2)];exact hCc y h1 h2⟩
 refine OV_.u ?_ hT
 simp only[Ij_,RR,SS,t4]
 refine Ro (m:=m) (L:=L) (u:=decide (0<=fuse)) hbs hI hR.f hR.ok hR.m0 hm1 (by omega) (by omega) hr ho hu (by omega) (Vs hR.f hm1 (by omega) (by omega) (by omega)) (λhfu s1 col1 K1 hag x1 hI1 hr1 ho1 hO=> ?_) λs1 col1 J K1 g1 hag x1 hJ hK1=> ?_
 ·obtain⟨hc1,hXc1,hCc1⟩:=hce hag
  have hX1:=hXe x1
  have hC1:=hCe x1
  have y1:Ext Any Non s0 s1:=hy.on x1 hb0 λx hx g=>by have:=hc x hx;omega
  have hE:=(EndJ.out (K:=K1) hR ht hO hr1).weak hx1 hx2
  have hfu':(0:Int)<=fuse:=of_decide_eq_true hfu
  have dF:decide (fuse<0)=false:=decide_eq_false (by omega)
  rw[AP (k:=0) rfl]
  rw[AP (k:=1) rfl]
  refine DF_.u ?_
  simp only[La,RR,SS, ↓reduceIte,AL]
  refine EW_.u ?_
  have d10:(!decide ((10:Int)=10))=false:=rfl
  have d0:(!decide ((10:Int)=0))=true:=rfl
  simp only[Lx,RR,SS,Nat.reduceEqDiff,reduceCtorEq, ↓reduceIte,AL,t8,d0,decide_true,Bool.not_true,Ai KD (by decide)]
  refine aB Au hC1.o1.at' ?_
  have x2:Ext Any Non s1 (s1.rdN (C+(0+1))):=Ext.rdN s1 _ λ_=>trivial
  have hX2:=hX1.ext0 x2
  have hC2:=hC1.ext0 x2
  have y2:=y1.then0 x2 hb0
  have hI2:=hI1.ext x2 (by obtain⟨m',c',hnm,_,_,hc12⟩:=hE.nm;have:=congrArg List.length hnm;simp at this;omega) λ_ _ g=>g.elim
  generalize s1.rdN (C+(0+1))=s2 at *
  simp only[SS,reduceCtorEq, ↓reduceIte,AC,Gl,Ng,dF,Mh_,BN,Bool.not_true]
  refine aH Uy ?_
  refine Wa.u ?_
  simp only[NF,RR,SS]
  refine T2 (i:=0) (l:=l) (lv:=lv) (fuse:=fuse) (keep:=keep) (y2.bnd hb0) rfl (by omega) hC2 (hl.ext0 y2) (by simp[T.get_set,t8]) (by simp[T.get_set]) (by simp[T.get_set]) λn7 tm7 td7 s7 hn7 hT7 ht7 x7 m7 n7e=> ?_
  refine Qe (va:=va) (lv:=lv) (fuse:=fuse) (keep:=keep) (t:=t) (xa:=xa) (xb:=xb) (m1:=m1) (m2:=m2) hb0 hT7 (by omega) ht (y2.then0 x7 hb0) hc1 (hI2.same m7 n7e) hE (hX2.same m7 n7e) hXc1 (hC2.same m7 n7e) hCc1 (by rw[ht7 0 (by decide)];simp[T.get_set,t0]) (by rw[ht7 3 (by decide)];simp[T.get_set,t3]) (by rw[ht7 4 (by decide)];simp[T.get_set,t4]) (by rw[ht7 6 (by decide)];simp[T.get_set,t6]) (by rw[ht7 7 (by decide)];simp[T.get_set,t7]) (by rw[ht7 8 (by decide)];simp[T.get_set,t8]) (by rw[ht7 11 (by decide),ho1];simp[T.get_set]) λn' tm' td' s' col' K' m L hn'=>q n' tm' td' s' col' K' m L xa xb m1 m2 (by omega)
 ·obtain⟨hc1,hXc1,hCc1⟩:=hce hag
  have hX1:=hXe x1
  have hC1:=hCe x1
  have y1:Ext Any Non s0 s1:=hy.on x1 hb0 λx hx g=>by have:=hc x hx;omega
  generalize ha:maxA 1 0 L=a at *
  generalize hb:maxA 2 0 L=b at *
  rw[AP (k:=0) rfl]
  rw[AP (k:=1) rfl]
  refine DF_.u ?_
  simp only[La,RR,SS, ↓reduceIte,AL,decide_true,Bool.not_true]
  refine EW_.u ?_
  simp only[Lx,RR,SS,Nat.reduceEqDiff,reduceCtorEq, ↓reduceIte,Gl,Ng,t6,t8,BN,Bool.not_false,Dj L9]
  refine Vx (y1.bnd hb0) ⟨K1,g1,hK1⟩ hX1 (.inl (by omega)) hXc1 hx1 hx2 (by omega) (by omega) λs2 x2 hX2 hA2=> ?_
  have hC2:=hC1.ext x2 λy _ g=>by omega
  have y2:Ext Any Non s0 s2:=y1.on x2 hb0 λy hy' g=>by have:=g.1;omega
  simp only[BN,Bool.not_true]
  refine aH Uy ?_
  refine Wa.u ?_
  simp only[NF,RR,SS]
  exact Qr_ (va:=va) (lv:=lv) (fuse:=fuse) (keep:=keep) (l:=l) (t:=t) (im:=m+L.length) (N0:=N0) hb0 hl h20 ht (by omega) (by omega) (by omega) (by omega) hCX (by omega) hX0 (by omega) q l.length 0 _ _ _ s2 col1 [(1,a),(2,b)] a b (by omega) (by omega) rfl y2 hc1 hA2 hX2 hXc1 hC2 hCc1 (Kk (by omega) (by omega)) (by simp) (by show max 0 a=a;omega) (by show max 0 b=b;omega) (by omega) (by simp[T.get_set,t0]) (by simp[T.get_set,t3]) (by simp[T.get_set,t4]) (by simp[T.get_set,t6]) (by simp[T.get_set,t7]) (by simp[T.get_set,t8]) (by simp[T.get_set]) (by simp[T.get_set]) (by simp[T.get_set])
end
theorem Oy:slN envS 50=some 3:=by kernel_rfl
theorem Aj_:tyS envS 57=some (3,true):=by kernel_rfl
theorem Aca_:FT envS 57=some [.slice none 0 0, .int .i64 0, .int .i64 0]:=by kernel_rfl
theorem Sg_:E2 envS 55 []=some [.int .i64 0, .int .i64 0, .bool false, .bool false]:=by kernel_rfl
structure LifeS where
 lv:Value
 l:List Bool
 fuse:Int
 keep:Int
def LvR (s:St)(v:Value)(ls:List LifeS):Prop:=(v= .slice none 0 0/\ls=[])\/ ∃b o c,v= .slice (some ⟨b,o,none⟩) ls.length c/\ ∀(i:Nat) p,ls[i]?=some p->Row s b (o+i*3) [p.lv, .int .i64 p.fuse, .int .i64 p.keep]/\BoR s p.lv p.l
theorem LvR.ext0 {F:Nat->Prop}{s s':St}{v:Value}{ls:List LifeS}(h:LvR s v ls)(x:Ext F Non s s'):LvR s' v ls:=by
 rcases h with h|⟨b,o,c,h1,h2⟩
 ·exact .inl h
 ·exact .inr ⟨b,o,c,h1,λi p e=>⟨(h2 i p e).1.ext0 x,(h2 i p e).2.ext0 x⟩⟩
theorem LvR.same {s s':St}{v:Value}{ls:List LifeS}(h:LvR s v ls)(hm:s'.mem=s.mem)(hn:s'.next=s.next):LvR s' v ls:=by
 rcases h with h|⟨b,o,c,h1,h2⟩
 ·exact .inl h
 ·exact .inr ⟨b,o,c,h1,λi p e=>⟨λj u g=>((h2 i p e).1 j u g).same hm hn,(h2 i p e).2.same hm hn⟩⟩
theorem LvR.len {s s':St}{v:Value}{ls:List LifeS}(h:LvR s v ls)(Q:Value->St->Prop):W (A8 envS .len [50] [v]) s' Q=Q (.int .i64 (ls.length:Nat)) s':=by
 rcases h with⟨rfl,rfl⟩|⟨b,o,c,rfl,_⟩
 ·exact B0 (n:=0) Oy Q
 ·exact B0 Oy Q
theorem BoR.one {s:St}{v:Value}{l:List Bool}(h:BoR s v l):oneCell v=true:=by
 rcases h with⟨rfl,_⟩|⟨b,o,c,rfl,_⟩<;>rfl
theorem UD_ (k:Nat):700000+1200*k+1200<=700000+1200*(k+1):=by rw[Nat.mul_succ,Nat.add_assoc];exact Nat.le_refl _
theorem TG_ (k:Nat):600000<=700000+1200*k:=by omega
section
variable {D M X:Nat}{va lv:Value}{fuse keep:Int}{s0:St}{l:List Bool}
theorem Tc_ {t m N0 xa xb n b o:Nat}{m1 m2:Bool}{L:LsJ}{tm:T Value}{td:List Item}{s:St}{col:Nat->Nat}{K:DkS}(hb0:s0.lim<=s0.next)(hcx:s0.cx=cxN)(hl:BoR s0 lv l)(hrow:Row s0 b o [lv, .int .i64 fuse, .int .i64 keep])(hll64:l.length<=9223372036854775807)(ht:t<=11)(hN:600000<=N0)
  (hX0:s0.next<=X) (hn:N0+1100<=n) (hT:skim 64 td=NP)
  (hy:Ext Any Non s0 s) (hc: ∀x,x<s0.next->1000<=col x) (hI:DkI s col D M K) (hr:K.room=1048576) (ho:K.out=false) (hu:K.fused=false) (hR:RestJ K.fs m L t) (hX:CntI s X xa xb m1 m2) (hXc: ∀y,X<=y->y<X+4->1000<=col y) (hx1:maxA 1 0 L=xa\/(m1=true/\maxA 1 0 L=xa+1)) (hx2:maxA 2 0 L=xb\/(m2=true/\maxA 2 0 L=xb+1))
  (hidx: ∀(s':St) (Q:Value->St->Prop),W (BT envS 50 va (.int .i64 (t:Nat))) s' Q=Q (.pointer (some ⟨b,o,none⟩)) s')
  (t0:T.get tm 0=some va) (t3:T.get tm 3=some (.bool true)) (t4:T.get tm 4=some (.pointer (some ⟨D,0,none⟩))) (t6:T.get tm 6=some (.pointer (some ⟨X,0,none⟩))) (t7:T.get tm 7=some (.int .i64 (t:Nat)))
  (q: ∀n' tm' td' s' col' K' m L xa xb m1 m2,N0<=n'->skim 64 td'=Ej->Ext Any Non s0 s'->(∀x,x<s0.next->1000<=col' x)->DkI s' col' D M K'->K'.room=1048576->K'.out=false->K'.fused=false->RestJ K'.fs m L (t+1)->CntI s' X xa xb m1 m2->(∀y,X<=y->y<X+4->1000<=col' y)->(maxA 1 0 L=xa\/(m1=true/\maxA 1 0 L=xa+1))->(maxA 2 0 L=xb\/(m2=true/\maxA 2 0 L=xb+1))->
   T.get tm' 0=some va->T.get tm' 3=some (.bool true)->T.get tm' 4=some (.pointer (some ⟨D,0,none⟩))->T.get tm' 6=some (.pointer (some ⟨X,0,none⟩))->T.get tm' 7=some (.int .i64 (t+1:Nat))->W (runF envS n' ⟨5,CS,AT,tm',td', .run, .normal,none⟩) s' λp _=>p.1= .bool true):
  W (runF envS n ⟨5,CS,AT,tm,td, .run, .normal,none⟩) s λp _=>p.1= .bool true:=by
 have hbs:=hy.bnd hb0
 have hs0:s0.next<=s.next:=hy.nxt
 have hXl:X+3<s.next:=hX.o3.1
 have hfl:K.fs.length<=300:=by rw[hR.f.len];have:=hR.ll;omega
 have hrs:Row s b o [lv, .int .i64 fuse, .int .i64 keep]:=hrow.ext0 hy
 have hI0:DkI s (Av col s.next 1000) D M K:=hI.col λx hx=>AG hx
 have hc0: ∀x,x<s0.next->1000<=Av col s.next 1000 x:=λx hx=>by rw[AG (by omega)];exact hc x hx
 have hXc0: ∀y,X<=y->y<X+4->1000<=Av col s.next 1000 y:=λy h1 h2=>by rw[AG (by omega)];exact hXc y h1 h2
 have hnew: ∀x,s.next<=x->1000<=Av col s.next 1000 x:=λx hx=>by rw[Ch hx];exact Nat.le_refl _
 generalize hcol:Av col s.next 1000=colp at *
 refine Lu_.u ?_ hT
 simp only[Hn_,RR,SS,t0,t7,hidx]
 refine W.loadA Aj_ hrs rfl λs1 e1m e1n x1=> ?_
 refine W.alloc Aca_ λs2 n2 x2 o2=> ?_
 have n2':s2.next=s1.next+4:=n2
 refine W.store Aj_ (by rw[E9];rfl) (by rw[E9];show(oneCell lv&&(true&&(true&&true)))=true;rw[hl.one];rfl) (λi hi=>(An.owned o2) i (by simpa using hi)) λs3 n3 x3 o3=> ?_
 rw[E9]at o3
 rw[e1n]at o3 x3 n2' ⊢
 have hy2:Ext Any Non s s2:=(x1.weak hbs (λ_ _ _=>trivial) λ_ _ h=>h).on x2 hbs λ_ _ g=>g
 have hy3:Ext Any Non s s3:=hy2.on x3 hbs λx hx g=>by have h1:=g.1;omega
 have hX3:CntI s3 X xa xb m1 m2:=hX.ext0 hy3
 have hI3:DkI s3 colp D M K:=hI0.ext0 hy3 hfl
 have hC3:CpI s3 s.next lv fuse keep:=⟨o3 0 _ rfl,o3 1 _ rfl,o3 2 _ rfl⟩
 have z3:Ext Any Non s0 s3:=hy.then0 hy3 hb0
 refine NE_.u ?_
 simp only[Z5,RR,SS, ↓reduceIte, ↓reduceIte,Ai HG (by decide)]
 refine aB Ip hC3.o0.at' ?_
 have x4:Ext Any Non s3 (s3.rdN (s.next+(0+0))):=Ext.rdN s3 _ λ_=>trivial
 have hX4:=hX3.ext0 x4
 have hI4:=hI3.ext0 x4 hfl
 have hC4:=hC3.ext0 x4
 have z4:=z3.then0 x4 hb0
 generalize s3.rdN (s.next+(0+0))=s4 at *
 simp only[Bp,BoR.len hl]
 by_cases h20:20<l.length
 ·have d1:decide (((l.length:Nat):Int)>20)=true:=decide_eq_true (by omega)
  simp only[d1]
  refine aK Ea_ ?_
  refine ZT_.u ?_
  simp only[AL_,RR,SS,Nat.reduceEqDiff, ↓reduceIte,t3]
  exact aC (rs:=[2]) (vs:=[.bool true]) rfl (.inl XS_) (by omega) JF LI (z4.cx.trans hcx) (by simp[T.get_set]) rfl
 have d1:decide (((l.length:Nat):Int)>20)=false:=decide_eq_false (by omega)
 simp only[d1]
 refine aH Ea_ ?_
 have hCc: ∀y,s.next<=y->y<s.next+3->1000<=colp y:=λy h1 _=>hnew y h1
 refine Lf_.u ?_
 simp only[Si,RR,SS,Nat.reduceEqDiff, ↓reduceIte,Nat.reduceEqDiff, ↓reduceIte,t4,Ai KD (by decide)]
 refine aB Au hC4.o1.at' ?_
 have x5:Ext Any Non s4 (s4.rdN (s.next+(0+1))):=Ext.rdN s4 _ λ_=>trivial
 have hX5:=hX4.ext0 x5
 have hI5:=hI4.ext0 x5 hfl
 have hC5:=hC4.ext0 x5
 have z5:=z4.then0 x5 hb0
 generalize s4.rdN (s.next+(0+1))=s5 at *
 by_cases hf:(0:Int)<=fuse
 ·obtain⟨fz,rfl⟩:=Int.eq_ofNat_of_zero_le hf
  have d2:decide (((fz:Nat):Int)≥0)=true:=decide_eq_true (by omega)
  simp only[SS, ↓reduceIte,BJ,d2,Ai KD (by decide)]
  refine aB Au hC5.o1.at' ?_
  have x6:Ext Any Non s5 (s5.rdN (s.next+(0+1))):=Ext.rdN s5 _ λ_=>trivial
  have hX6:=hX5.ext0 x6
  have hI6:=hI5.ext0 x6 hfl
  have hC6:=hC5.ext0 x6
  have z6:=z5.then0 x6 hb0
  generalize s5.rdN (s.next+(0+1))=s6 at *
  refine Wz_ (z6.bnd hb0) hI6 (by omega) λs7 hI7 x7 n7=> ?_
  have hX7:CntI s7 X xa xb m1 m2:=hX6.ext x7 λy _ g=>by
   have g:colp y<1000:=g
   rcases Nat.lt_or_ge y X with h|h
   ·exact .inl h
   ·rcases Nat.lt_or_ge y (X+4)with h2|h2
    ·have:=hXc0 y h h2
     omega
    ·exact .inr h2
  have hC7:CpI s7 s.next lv ((fz:Nat):Int) keep:=hC6.ext x7 λy _ g=>by
   have g:colp y<1000:=g
   rcases Nat.lt_or_ge y s.next with h|h
   ·exact .inl h
   ·have:=hnew y h
    omega
  have z7:Ext Any Non s0 s7:=z6.on x7 hb0 λx hx g=>by have g:colp x<1000:=g;have:=hc0 x hx;omega
  simp only[AL,decide_true,Bool.not_true]
  refine aH Yk ?_
  exact AQ_ (va:=va) (lv:=lv) (fuse:=((fz:Nat):Int)) (keep:=keep) (l:=l) (C:=s.next) (N0:=N0) (m1:=m1) (m2:=m2) hb0 hl (by omega) ht hN (.inl (by omega)) hX0 (by omega) (by omega) rfl z7 hc0 hI7 hr ho (by show true=_;rw[decide_eq_true hf]) hR hX7 hXc0 hx1 hx2 hC7 hCc (by simp[T.get_set,t0]) (by simp[T.get_set,t3]) (by simp[T.get_set,t4]) (by simp[T.get_set,t6]) (by simp[T.get_set,t7]) (by simp[T.get_set]) q
 ·have d2:decide (fuse≥0)=false:=decide_eq_false (by omega)
  simp only[AY,CE,EB,Dl,Dp,Dr,reduceCtorEq, ↓reduceIte,BJ,d2]
  refine aH Yk ?_
  exact AQ_ (va:=va) (lv:=lv) (fuse:=fuse) (keep:=keep) (l:=l) (C:=s.next) (N0:=N0) (m1:=m1) (m2:=m2) hb0 hl (by omega) ht hN (.inl (by omega)) hX0 (by omega) (by omega) rfl z5 hc0 hI5 hr ho (by rw[hu,decide_eq_false hf]) hR hX5 hXc0 hx1 hx2 hC5 hCc (by simp[T.get_set,t0]) (by simp[T.get_set,t3]) (by simp[T.get_set,t4]) (by simp[T.get_set,t6]) (by simp[T.get_set,t7]) (by simp[T.get_set]) q
theorem Xg_ {ls:List LifeS}{F:Nat->Nat}(hF: ∀k,F k+1200<=F (k+1))(hB: ∀k,600000<=F k)(hb0:s0.lim<=s0.next)(hcx:s0.cx=cxN)(hL:LvR s0 va ls)(h12:ls.length<=12)(h64: ∀p∈ls,p.l.length<=9223372036854775807)(hX0:s0.next<=X):
  ∀(k t n:Nat) (tm:T Value) (td:List Item) (s:St) (col:Nat->Nat) (K:DkS) (m:Nat) (L:LsJ) (xa xb:Nat) (m1 m2:Bool),t+k=ls.length->F k<=n->skim 64 td=Ej->Ext Any Non s0 s->(∀x,x<s0.next->1000<=col x)->DkI s col D M K->K.room=1048576->K.out=false->K.fused=false->RestJ K.fs m L t->CntI s X xa xb m1 m2->(∀y,X<=y->y<X+4->1000<=col y)->(maxA 1 0 L=xa\/(m1=true/\maxA 1 0 L=xa+1))->(maxA 2 0 L=xb\/(m2=true/\maxA 2 0 L=xb+1))->
   T.get tm 0=some va->T.get tm 3=some (.bool true)->T.get tm 4=some (.pointer (some ⟨D,0,none⟩))->T.get tm 6=some (.pointer (some ⟨X,0,none⟩))->T.get tm 7=some (.int .i64 (t:Nat))->W (runF envS n ⟨5,CS,AT,tm,td, .run, .normal,none⟩) s λp _=>p.1= .bool true:=by
 intro k
 induction k with
 |zero=>
  intro t n tm td s col K m L xa xb m1 m2 hi hn hT hy hc hI hr ho hu hR hX hXc hx1 hx2 t0 t3 t4 t6 t7
  have hB0:=hB 0
  have e:t=ls.length:=by omega
  subst e
  have hml:=hR.ml
  have hll:=hR.ll
  have hm1:=hR.m1
  have hmx:=hR.mx
  have hbs:=hy.bnd hb0
  have hs0:s0.next<=s.next:=hy.nxt
  have hXl:X+3<s.next:=hX.o3.1
  have hus:K.used<=908*L.length:=hR.f.used hR.ok
  have d1:decide (((ls.length:Nat):Int)<((ls.length:Nat):Int))=false:=decide_eq_false (by omega)
  refine Fm_.u ?_ hT
  simp only[OT,RR,SS,AC,t0,t7,LvR.len hL,d1]
  refine aH AG_ ?_
  refine YS_.u ?_
  simp only[FF_,RR,SS,Nat.reduceEqDiff, ↓reduceIte,t4]
  refine Ro (m:=m) (L:=L) (u:=false) hbs hI hR.f hR.ok hR.m0 hm1 (by omega) (by omega) hr ho hu (by omega) (Vs hR.f hm1 (by omega) (by omega) (by omega)) (λh=>by cases h) λs1 col1 J K1 g1 hag x1 hJ hK1=> ?_
  have hX1:CntI s1 X xa xb m1 m2:=hX.ext x1 λy _ g=>by
   rcases Nat.lt_or_ge y X with h|h
   ·exact .inl h
   ·rcases Nat.lt_or_ge y (X+4)with h2|h2
    ·have:=hXc y h h2
     omega
    ·exact .inr h2
  have y1:Ext Any Non s0 s1:=hy.on x1 hb0 λx hx g=>by have:=hc x hx;omega
  rw[AP (k:=0) rfl]
  rw[AP (k:=1) rfl]
  refine Yy_.u ?_
  simp only[EM_,RR,SS,Nat.reduceEqDiff, ↓reduceIte,A0,t3,t6,decide_true,WN_ L9]
  refine Vx (y1.bnd hb0) ⟨K1,g1,hK1⟩ hX1 (.inl (by omega)) (λy h1 h2=>by rw[hag y (by omega) (hXc y h1 h2)];exact hXc y h1 h2) hx1 hx2 (by omega) (by omega) λs2 x2 hX2 hA2=> ?_
  exact aC (rs:=[2]) (vs:=[.bool true]) rfl (.inl VF_) (by omega) JF LI (x2.cx.trans (y1.cx.trans hcx)) (by simp[T.get_set]) rfl
 |succ k ih=>
  intro t n tm td s col K m L xa xb m1 m2 hi hn hT hy hc hI hr ho hu hR hX hXc hx1 hx2 t0 t3 t4 t6 t7
  have hBk:=hB (k+1)
  have hil:t<ls.length:=by omega
  have d1:decide (((t:Nat):Int)<((ls.length:Nat):Int))=true:=decide_eq_true (by omega)
  refine Fm_.u ?_ hT
  simp only[OT,RR,SS,AC,t0,t7,LvR.len hL,d1]
  refine aK AG_ ?_
  rcases hL with⟨_,h0⟩|⟨b,o,c,ev,hL⟩
  ·rw[h0]at hil
   cases hil
  obtain⟨hrow,hbo⟩:=hL t ls[t] (List.getElem?_eq_getElem hil)
  have hF1:=hF k
  have hN6:=hB k
  obtain⟨N0,hN0⟩: ∃N0,N0=F k:=⟨_,rfl⟩
  rw[<-hN0]at hF1 hN6
  have ht11:t<=11:=by omega
  have hn6:N0+1100<=n-1-1:=by omega
  have h64':(ls[t]).l.length<=9223372036854775807:=h64 _ (List.getElem_mem hil)
  generalize ls[t]=p at *
  obtain⟨lv,l,fuse,keep⟩:=p
  exact Tc_ (va:=va) (N0:=N0) (m1:=m1) (m2:=m2) hb0 hcx hbo hrow h64' ht11 hN6 hX0 hn6 rfl hy hc hI hr ho hu hR hX hXc hx1 hx2 (λs' Q=>by rw[ev];exact By Oy hil Q) (by simp[T.get_set,t0]) (by simp[T.get_set,t3]) (by simp[T.get_set,t4]) (by simp[T.get_set,t6]) (by simp[T.get_set,t7]) λn' tm' td' s' col' K' m' L' xa' xb' m1' m2' hn'=>ih (t+1) n' tm' td' s' col' K' m' L' xa' xb' m1' m2' (by omega) (by omega)
end
theorem Zi_ {n:Nat}{s:St}{va:Value}{ls:List LifeS}(hb:s.lim<=s.next)(hL:LvR s va ls)(hll:ls.length<=9223372036854775807)(h64: ∀p∈ls,p.l.length<=9223372036854775807)(hn:1000000<=n):
  W (Ab envS (runF envS n) 5 [va]) s λv _=>v= .bool true:=by
 have hb0:(s.cxN cxN).lim<=(s.cxN cxN).next:=hb
 have hL0:LvR (s.cxN cxN) va ls:=hL.same rfl rfl
 refine Uf_ λtm t0=> ?_
 refine KX_.u ?_
 simp only[Ix_,RR,SS]
 refine Yu_.u ?_
 simp only[V0,RR,SS]
 refine W.orc Ri_ (W.pure ?_)
 refine WG_.u ?_
 simp only[X0,RR,SS]
 refine AcE_ (room:=1048576) hb0 (by decide) (by omega) λs1 x1 hI1=> ?_
 have ea:(s.cxN cxN).next=s.next:=rfl
 rw[ea]at hI1 ⊢
 have hcn: ∀x,x<s.next->newC s.next x=1000:=λx hx=>by unfold newC;rw[if_pos hx]
 have hs1:s.next<=s1.next:=x1.nxt
 rw[AP (k:=0) rfl]
 rw[AP (k:=1) rfl]
 refine ON_.u ?_
 by_cases h12:12<ls.length
 ·have d1:decide (((ls.length:Nat):Int)>12)=true:=decide_eq_true (by omega)
  simp only[Nb,RR,SS,Nat.reduceEqDiff,reduceCtorEq, ↓reduceIte,Bp,t0,LvR.len hL,d1]
  refine aK Ao_ ?_
  refine UQ_.u ?_
  simp only[GZ_,RR,SS,Nat.reduceEqDiff, ↓reduceIte,A0,decide_true]
  exact aC (rs:=[2]) (vs:=[.bool true]) rfl (.inl Qh_) (by omega) JF LI x1.cx (by simp[T.get_set]) rfl
 have d1:decide (((ls.length:Nat):Int)>12)=false:=decide_eq_false (by omega)
 simp only[Nb,RR,SS,Nat.reduceEqDiff,reduceCtorEq, ↓reduceIte,Bp,AL,t0,LvR.len hL,d1,decide_true,Bool.not_true,Dj AcA_]
 refine aH Ao_ ?_
 have hI1':DkI s1 (Av (newC s.next) s1.next 1000) (s.next+1) s.next ⟨[],0,1048576,0,false,0,false⟩:=hI1.col λx hx=>AG hx
 refine IO_.u ?_
 simp only[RN,RR,SS,Ek Sg_]
 refine W.box λs2 n2 x2 o2=> ?_
 rw[E9]at o2
 have hX2:CntI s2 s1.next 0 0 false false:=⟨o2 0 _ rfl,o2 1 _ rfl,o2 2 _ rfl,o2 3 _ rfl⟩
 have y2:Ext Any Non (s.cxN cxN) s2:=x1.on x2 hb0 λ_ _ g=>g
 have hI2:=hI1'.ext0 x2 (by simp)
 refine TA_.u ?_
 simp only[Fp_,RR,SS]
 exact Xg_ (F:=λk=>700000+1200*k) UD_ TG_ (va:=va) (s0:=s.cxN cxN) (X:=s1.next) (D:=s.next+1) (M:=s.next) hb0 rfl hL0 (by omega) h64 hs1 ls.length 0 _ _ _ s2 (Av (newC s.next) s1.next 1000) ⟨[],0,1048576,0,false,0,false⟩ 1 [] 0 0 false false (by omega) (by show 700000+1200*ls.length<=_;omega) rfl y2 (λx hx=>by
  have hx:x<s.next:=hx
  rw[AG (by omega),hcn x hx];exact Nat.le_refl _) hI2 rfl rfl rfl ⟨trivial,λp hp=>(by cases hp),λ_=>rfl,Nat.le_refl _,by simp,by simp,by show 0+0<=_;omega⟩ hX2 (λy h1 _=>by rw[Ch h1];exact Nat.le_refl _) (.inl rfl) (.inl rfl) (by simp[T.get_set,t0]) (by simp[T.get_set]) (by simp[T.get_set]) (by simp[T.get_set]) (by simp[T.get_set])
open Go.RowKit Go.ChangeShapes Go.WideShapes
theorem Aav_:Tryz.prog.underlying 50=some (.slice 57):=by kernel_rfl
theorem ZL_:Nt Tryz.prog 57 [(22,0),(3,1),(3,2)]=true:=by kernel_rfl
theorem ON:Tryz.prog.cellsOf 57=3:=by kernel_rfl
theorem PH_:Tryz.prog.cellsOf 57<1024:=by rw[ON];decide
theorem IX_:Tryz.prog.cellsOf 22=1:=by kernel_rfl
theorem SP_:Tryz.prog.cellsOf 3=1:=by kernel_rfl
theorem Wg_:aggT Tryz.prog 50=false:=by kernel_rfl
section
attribute [local irreducible] Ax
theorem LS_ {N F:Nat}{s:St}{us:List Value}(h:Ax Tryz.prog N s (F+4) 50 us): ∃v ls,us=[v]/\LvR s v ls/\ls.length<=9223372036854775807/\ ∀p∈ls,p.l.length<=9223372036854775807:=by
 obtain⟨v,es,rfl,hE,hM,hN,ha⟩:=Ax.slice (P:=Tryz.prog) (F:=F+3) (t:=50) (e:=57) Aav_ PH_ h
 rw[ON]at hE
 have h1: ∀i,i<es.length-> ∃p:LifeS,es[i]?=some [p.lv, .int .i64 p.fuse, .int .i64 p.keep]/\BoR s p.lv p.l/\p.l.length<=9223372036854775807:=λi hi=>by
  obtain⟨hx2,hx⟩:=ha _ (List.getElem_mem hi)
  rw[ON]at hx2
  obtain⟨_,hx⟩:=hx.struct ZL_
  have k1:=hx (22,0) (by simp)
  have k2:=hx (3,1) (by simp)
  have k3:=hx (3,2) (by simp)
  simp only[IX_,SP_]at k1 k2 k3
  obtain⟨w,l,e1,g1,g2,_⟩:=Rd_ (F:=F) Nq_ LR_ Zw_ k1
  obtain⟨y,e2,_⟩:=k2.int' EU_
  obtain⟨z,e3,_⟩:=k3.int' EU_
  refine⟨⟨w,l,y,z⟩, ?_,g1,g2⟩
  rw[List.getElem?_eq_getElem hi]
  generalize es[i]=x at e1 e2 e3 hx2
  match x,hx2,e1,e2,e3 with
  |[a,b,c],_,e1,e2,e3=>
   cases e1
   cases e2
   cases e3
   rfl
 obtain⟨ps,hl,hp⟩:=O1 h1
 have hm: ∀p∈ps,p.l.length<=9223372036854775807:=λp hq=>by
  obtain⟨i,hi⟩:=List.getElem?_of_mem hq
  exact(hp i p hi).2.2
 refine⟨v,ps,rfl, ?_,by omega,hm⟩
 rcases hE with⟨rfl,rfl⟩|⟨b,c,rfl,_,_,hr⟩
 ·exact .inl ⟨rfl,List.eq_nil_of_length_eq_zero hl⟩
 ·refine .inr ⟨b,0,c,by rw[hl],λi p e=>⟨?_,(hp i p e).2.1⟩⟩
  rw[Nat.zero_add]
  exact hr i _ (hp i p e).1
theorem Au_:Tryz.f5.params.toList=[50]:=by kernel_rfl
theorem YX_:envS.orc.get 5=none:=by kernel_rfl
theorem RB_:envS.ext.get 5=none:=by kernel_rfl
theorem Yc_:[50].all (C9 Tryz.prog 7)=true:=by kernel_rfl
set_option maxRecDepth 1000000 in
theorem walkOnce {H:Type}{enc:TypeId×Value->H}{w:World}{base:Nat}{args:Array Value}{ds:List (DataW H)}{ps:List MemPlace}(hA:DataW.TrodAll enc Tryz.prog w 0 (λ_=>true) true Tryz.f5.params.toList args.toList ds ps)
  (hv: ∀(j:Nat) t v,Tryz.f5.params[j]?=some t->args[j]?=some v->Value.okWide Tryz.prog w .any base t v):Calls Tryz.prog 5 args w λe w'=>e= .returned (.bool true)/\Below w.heap.size w w':=by
 have hv': ∀(j:Nat) t v,[50][j]?=some t->args.toList[j]?=some v->Value.okWide Tryz.prog w .any base t v:=λj t v e1 e2=>by
  rw[<-Au_]at e1
  rw[Array.getElem?_toList]at e1 e2
  exact hv j t v e1 e2
 rw[Au_]at hA
 have hE:envS.P=Tryz.prog:=OY_
 have h:=Vq_ (E:=envS) (fuel:=2000000) (f:=5) (F:=7) (N:=maxLen) (v:= .bool true) (ts:=[50]) Sf_ YX_ RB_ rfl (by rw[hE];exact hA) (by rw[hE];exact hv') (by rw[hE];exact Yc_) (.inl (Nat.le_refl _)) (λm nx us hus hu=>by
  rw[hE]at hu
  match us,hus,hu with
  |[u0],_,hu=>
   have k0:=(hu 0 _ u0 rfl rfl).one Wg_
   obtain⟨v,ls,e0,hB,hM,h64⟩:=LS_ (F:=3) k0
   cases e0
   exact Zi_ (Nat.zero_le _) hB hM h64 (by omega))
 rw[hE]at h
 exact h
end
open Go.RowKit Go.ChangeShapes
noncomputable def zeroT (P:Program)(t:Nat):Value:=((P.info? t).bind (·.zero)).getD .nilFunc
section
variable {H:Type}{enc:TypeId×Value->H}{P:Program}{W W':World}
theorem below_all (hl:laidOutB P=true)(hb:Below W.heap.size W W'){sp:Nat->Bool}: ∀{ts:List TypeId} {vs:List Value} {ds:List (DataW H)} {ps:List MemPlace},(ts.all λt=>P.readableRec t&&decide (t<P.types.size))=true->DataW.TrodAll enc P W 0 (λ_=>true) true ts vs ds ps->(∀x∈ps,x.block<W.heap.size)->(∀x∈ps,sp x.block=true)->
  DataW.TrodAll enc P W' 0 sp true ts vs ds ps
 |[],_,_,_,_,h,_,_=>by
  obtain⟨rfl,rfl,rfl⟩:=trodAll_nil h
  exact trodAll_mk0
 |t::ts,_,_,_,hr,h,hlt,hsp=>by
  obtain⟨v,vs,d,ds,p,q,rfl,rfl,rfl,h1,h2⟩:=trodAll_cons h
  rw[List.all_cons,Bool.and_eq_true,Bool.and_eq_true]at hr
  refine⟨p,q,WideElems.Trod_stays hl hr.1.1 (of_decide_eq_true hr.1.2) h1 (λx hx=>hb.same (hlt x (List.mem_append_left _ hx))) (λx hx=>hsp x (List.mem_append_left _ hx)), ?_,rfl⟩
  exact below_all hl hb hr.2 h2 (λx hx=>hlt x (List.mem_append_right _ hx)) (λx hx=>hsp x (List.mem_append_right _ hx))
