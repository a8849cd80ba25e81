import Derived.Test.YtheboekhpelhlaaDSb26
namespace Go.Proofs.Ytheboekhpelhlaa.Am
open Go.RowKit
structure RW where
 rf:RF
 v:Value
def Ay:List RW->List Value
 |[]=>[]
 |f::l=> .string f.rf.name::f.v:: .int .i64 (f.rf.safe:Nat)::Ay l
theorem Dx: ∀ws:List RW,(Ay ws).length=ws.length*3
 |[]=>rfl
 |f::l=>by
  show(Ay l).length+1+1+1=(l.length+1)*3
  rw[Dx l]
  omega
theorem GV: ∀l m:List RW,Ay (l++m)=Ay l++Ay m
 |[],_=>rfl
 |f::l,m=>by
  show _::_::_::Ay (l++m)=_::_::_::(Ay l++Ay m)
  rw[GV l m]
theorem Ty: ∀{ws:List RW} {i:Nat} (h:i<ws.length),(Ay ws)[i*3+0]?=some (.string ws[i].rf.name)/\(Ay ws)[i*3+1]?=some ws[i].v/\(Ay ws)[i*3+2]?=some (.int .i64 (ws[i].rf.safe:Nat))
 |f::l,0,_=>⟨rfl,rfl,rfl⟩
 |f::l,i+1,h=>by
  have:=Ty (ws:=l) (i:=i) (by simpa using h)
  have e: ∀r,(i+1)*3+r=i*3+r+1+1+1:=λr=>J
  rw[e,e,e]
  exact this
def LR (s:St)(L:Value)(b:Nat)(ws:List RW):Prop:=(L= .slice none 0 0/\ws=[])\/EmS s 3 ws.length (Ay ws) L b
theorem LR.ext {F G:Nat->Prop}{s s':St}{L:Value}{b:Nat}{ws:List RW}(h:LR s L b ws)(e:Ext F G s s')(hG: ∀x,MkF 3 ws.length b x-> ¬G x):LR s' L b ws:=by
 rcases h with h|h|⟨h,h0⟩
 ·exact .inl h
 ·exact .inr (.inl h)
 ·exact .inr (.inr ⟨h.ext e λx hx=>hG x ⟨h0,hx⟩,h0⟩)
theorem LR.same {s s':St}{L:Value}{b:Nat}{ws:List RW}(h:LR s L b ws)(hm:s'.mem=s.mem)(hn:s'.next=s.next):LR s' L b ws:=by
 rcases h with h|h
 ·exact .inl h
 ·exact .inr (h.same hm hn)
theorem LR.lt {s:St}{L:Value}{b:Nat}{ws:List RW}(h:LR s L b ws): ∀x,MkF 3 ws.length b x->x<s.next:=by
 intro x hx
 rcases h with⟨_,rfl⟩|⟨_,h0,_⟩|⟨h,_⟩
 ·exact absurd hx.1 am
 ·exact absurd hx.1 J
 ·have h1:=h.lt
  have h2:x<b+0+(ws.length*3+1):=hx.2.2
  omega
theorem LR.sl {s:St}{L:Value}{b:Nat}{ws:List RW}(h:LR s L b ws): ∃p c,L= .slice p ws.length c:=by
 rcases h with⟨rfl,rfl⟩|h
 ·exact⟨_,_,rfl⟩
 ·obtain⟨c,e,_⟩:=h.row
  exact⟨_,c,e⟩
theorem LR.len {E:Env}{s s':St}{t z:Nat}{L:Value}{b:Nat}{ws:List RW}(h:LR s L b ws)(ht:slN E t=some z)(Q:Value->St->Prop):W (AH E .len [t] [L]) s' Q=Q (.int .i64 (ws.length:Nat)) s':=by
 obtain⟨p,c,rfl⟩:=h.sl
 exact Bt ht Q
theorem LR.mk {s:St}{L:Value}{b i:Nat}{ws:List RW}(h:LR s L b ws)(hi:i<ws.length):Marked s 3 ws.length (Ay ws) L b:=by
 rcases h with⟨_,rfl⟩|⟨_,h0,_⟩|⟨h,_⟩
 ·cases hi
 ·omega
 ·exact h
theorem LR.at {s:St}{L:Value}{b i:Nat}{ws:List RW}(h:LR s L b ws)(hi:i<ws.length): ∃c,L= .slice (some ⟨b,0,none⟩) ws.length c/\Own s b (0+i*3+0) (.string ws[i].rf.name)/\Own s b (0+i*3+1) ws[i].v/\Own s b (0+i*3+2) (.int .i64 (ws[i].rf.safe:Nat)):=by
 have m:=h.mk hi
 obtain⟨a0,a1,a2⟩:=Ty hi
 have e: ∀r,0+i*3+r=0+(i*3+r):=λr=>J
 rw[e,e,e]
 exact⟨_,m.val,m.own _ _ a0,m.own _ _ a1,m.own _ _ a2⟩
structure RkS where
 ws:List RW
 L:Value
 b:Nat
 room:Int
 N:Int
 fused:Bool
 left:Int
 out:Bool
structure RkI (s:St)(R:Nat)(k:RkS):Prop where
 r0:Own s R 0 k.L
 r1:Own s R 1 (.int .i64 k.room)
 r2:Own s R 2 (.int .i64 k.N)
 r3:Own s R 3 (.bool k.fused)
 r4:Own s R 4 (.int .i64 k.left)
 r5:Own s R 5 (.bool k.out)
 l:LR s k.L k.b k.ws
 bs: ∀f∈k.ws,Bs s f.v f.rf.b
 bl: ∀f∈k.ws,∀x,BsF f.v x->x<s.next
 lr: ∀x,MkF 3 k.ws.length k.b x->R+6<=x
 br: ∀f∈k.ws,∀x,BsF f.v x->R+6<=x/\ ¬MkF 3 k.ws.length k.b x
def RkF (R:Nat)(k:RkS)(x:Nat):Prop:=In R 0 6 x\/MkF 3 k.ws.length k.b x\/ ∃f∈k.ws,BsF f.v x
def RkG (R:Nat)(k:RkS)(x:Nat):Prop:=In R 0 6 x\/MkF 3 k.ws.length k.b x
theorem RkI.lt {s:St}{R:Nat}{k:RkS}(h:RkI s R k): ∀x,RkF R k x->x<s.next:=by
 intro x hx
 rcases hx with hx|hx|⟨f,hf,hx⟩
 ·have h1:=h.r5.1
  have h2:x<R+0+6:=hx.2
  omega
 ·exact h.l.lt x hx
 ·exact h.bl f hf x hx
theorem RkI.ext {F G:Nat->Prop}{s s':St}{R:Nat}{k:RkS}(h:RkI s R k)(e:Ext F G s s')(hG: ∀x,x<s.next->RkF R k x-> ¬G x):RkI s' R k:=by
 have c: ∀o,o<6-> ¬G (R+o):=λo ho=>hG _ (h.lt _ (.inl ⟨J,J⟩)) (.inl ⟨J,J⟩)
 exact⟨h.r0.ext e (c 0 al),h.r1.ext e (c 1 al),h.r2.ext e (c 2 al),h.r3.ext e (c 3 al),h.r4.ext e (c 4 al),h.r5.ext e (c 5 al),h.l.ext e λx hx=>hG x (h.l.lt x hx) (.inr (.inl hx)),λf hf=>(h.bs f hf).ext e λx hx=>hG x (h.bl f hf x hx) (.inr (.inr ⟨f,hf,hx⟩)),λf hf x hx=>Nat.lt_of_lt_of_le (h.bl f hf x hx) e.nxt,h.lr,h.br⟩
theorem RkI.ext0 {F:Nat->Prop}{s s':St}{R:Nat}{k:RkS}(h:RkI s R k)(e:Ext F Non s s'):RkI s' R k:=h.ext e λ_ _ _ g=>g.elim
theorem RkI.same {s s':St}{R:Nat}{k:RkS}(h:RkI s R k)(hm:s'.mem=s.mem)(hn:s'.next=s.next):RkI s' R k:=
 ⟨h.r0.same hm hn,h.r1.same hm hn,h.r2.same hm hn,h.r3.same hm hn,h.r4.same hm hn,h.r5.same hm hn,h.l.same hm hn,λf hf=>(h.bs f hf).same hm hn,λf hf x hx=>by rw[hn];exact h.bl f hf x hx,h.lr,h.br⟩
theorem AM:fldN envS 60 0=some (0,1,false):=X
theorem AY_:fldN envS 60 1=some (1,1,false):=X
theorem Gp_:fldN envS 60 2=some (2,1,false):=X
theorem Im:fldN envS 60 3=some (3,1,false):=X
theorem Jt:fldN envS 60 4=some (4,1,false):=X
theorem E9:fldN envS 60 5=some (5,1,false):=X
theorem Gy:fldN envS 69 0=some (0,1,false):=X
theorem CB:fldN envS 69 1=some (1,1,false):=X
theorem Ge:fldN envS 69 2=some (2,1,false):=X
theorem AN:tyS envS 58=some (1,false):=X
theorem AL:slN envS 58=some 3:=X
theorem HO:appT envS 58 58=some (3,48,false,[.string ⟨#[]⟩, .slice none 0 0, .int .i64 0]):=X
theorem Hp:tyS envS 69=some (3,true):=X
theorem baL (a b:ByteArray):(a.data.toList==b.data.toList)=(a==b):=by
 rw[Bool.eq_iff_iff,EQ,beq_iff_eq]
 exact⟨λh=>MY h,λh=>by rw[h]⟩
def RkS.wl (k:RkS):List RF:=k.ws.map RW.rf
theorem aM {k:RkS}{i:Nat}(h:i<k.ws.length):k.wl[i]'(by unfold RkS.wl;simpa using h)=k.ws[i].rf:=by
 unfold RkS.wl
 rw[List.getElem_map]
theorem aH (k:RkS):k.wl.length=k.ws.length:=by unfold RkS.wl;simp
section
variable {n R:Nat}{s:St}{k:RkS}{a:ByteArray}{Q:Value->St->Prop}
theorem AnE_ {Q:Value×FrameMode->St->Prop}{s0:St}(hb0:s0.lim<=s0.next)(hI0:RkI s0 R k)(hl:k.ws.length<=1000)(hcx:s0.cx=cxN)
  (q1:atW k.wl a=none-> ∀s1,Ext Any Non s0 s1->Q (.int .i64 (-1), .run) s1) (q2: ∀i,atW k.wl a=some i-> ∀s1,Ext Any Non s0 s1->Q (.int .i64 (i:Nat), .run) s1):
  ∀(m i n:Nat) (tm:T Value) (s:St) (td:List Item),i+m=k.ws.length->10*m+20<=n->skim 64 td=Ki->(∀j (h:j<k.ws.length),j<i->(k.ws[j].rf.name==a)=false)->Ext Any Non s0 s->T.get tm 0=some (.pointer (some ⟨R,0,none⟩))->T.get tm 1=some (.string a)->T.get tm 5=some (.int .i64 (i:Nat))->
  W (runF envS n ⟨46,UL_,DV,tm,td, .run, .normal,none⟩) s Q:=by
 intro m
 induction m with
 |zero=>
  intro i n tm s td hi hn hT hno hx h0 h1 h5
  have hI:=hI0.ext0 hx
  refine Kr_.u ?_ hT
  simp only[PF,RR,SS,h0,h5,Ab AM al]
  refine aA AN hI.r0.at' ?_
  have y:=hx.thenRd hb0 (R+(0+0))
  simp only[Ap,hI.l.len AL]
  refine aG OT_ ?_
  refine AaF_.u ?_
  simp only[Ul,RR,SS]
  refine aB (rs:=[4]) (vs:=[.int .i64 (-1)]) rfl (.inl AbS_) J Rb By_ (y.cx.trans hcx) Y ?_
  refine q1 ?_ _ y
  unfold atW
  rw[List.findIdx?_eq_none_iff]
  intro f hf
  obtain⟨j,hj,rfl⟩:=List.getElem_of_mem hf
  rw[aH]at hj
  rw[aM hj]
  exact hno j hj J
 |succ m ih=>
  intro i n tm s td hi hn hT hno hx h0 h1 h5
  have hI:=hI0.ext0 hx
  have hil:i<k.ws.length:=J
  refine Kr_.u ?_ hT
  simp only[PF,RR,SS,h0,h5,Ab AM al]
  refine aA AN hI.r0.at' ?_
  have y:=hx.thenRd hb0 (R+(0+0))
  have hI1:RkI (s.rdN (R+(0+0))) R k:=hI.same rfl rfl
  generalize s.rdN (R+(0+0))=s1 at *
  simp only[Ap,hI.l.len AL]
  refine aJ OT_ ?_
  refine Aqh_.u ?_
  obtain⟨c,ev,n0,_,_⟩:=hI1.l.at hil
  simp only[Xh,RR,SS,Nat.reduceEqDiff,reduceCtorEq, ↓reduceIte,h0,h1,h5,Ab AM al]
  refine aA AN hI1.r0.at' ?_
  have y2:=y.thenRd hb0 (R+(0+0))
  simp only[ev,AA AL hil,Ab Gy al]
  refine aA AQ (n0.same rfl rfl).at' ?_
  have y3:=y2.thenRd hb0 (k.b+(0+i*3+0))
  simp only[IV,baL]
  cases hk:k.ws[i].rf.name==a with
  |true=>
   refine aJ Ou_ ?_
   refine AjB_.u ?_
   simp only[YH,RR,SS,Nat.reduceEqDiff, ↓reduceIte,h5]
   refine aB (rs:=[4]) (vs:=[.int .i64 (i:Nat)]) rfl (.inl Tv_) J Rb By_ (y3.cx.trans hcx) Y ?_
   refine q2 i ?_ _ y3
   unfold atW
   rw[List.findIdx?_eq_some_iff_getElem]
   refine⟨by rw[aH];exact hil,by rw[aM hil];exact hk,λj hj=> ?_⟩
   rw[aM J,hno j J hj]
   simp
  |false=>
   refine aG Ou_ ?_
   refine Ama_.u ?_
   have ei:=eiW (i:=i) J
   simp only[Hd_,RR,SS,Nat.reduceEqDiff, ↓reduceIte,AY,h5,ei]
   exact ih (i+1) _ _ _ _ J J Ans_ (λj h hj=>by
    by_cases e:j=i
    ·subst e;exact hk
    ·exact hno j h J) y3 (an h0) (an h1) Y
theorem EA (hb:s.lim<=s.next)(hI:RkI s R k)(hl:k.ws.length<=1000)(hn:10*k.ws.length+60<=n)
  (q1:atW k.wl a=none-> ∀s1,Ext Any Non s s1->Q (.int .i64 (-1)) s1) (q2: ∀i,atW k.wl a=some i-> ∀s1,Ext Any Non s s1->Q (.int .i64 (i:Nat)) s1):
  W (Ac envS (runF envS n) 46 [.pointer (some ⟨R,0,none⟩), .string a]) s Q:=by
 have hb0:(s.cxN cxN).lim<=(s.cxN cxN).next:=hb
 refine Aig_ λtm h0 h1=> ?_
 refine Xx_.u ?_
 simp only[WN,RR,SS]
 refine ApW_.u ?_
 simp only[OU_,RR,SS]
 exact AnE_ (s0:=s.cxN cxN) hb0 (hI.same rfl rfl) hl rfl (λe s1 x1=>q1 e _ x1.cx') (λi e s1 x1=>q2 i e _ x1.cx') k.ws.length 0 _ _ _ _ J J rfl (λj h hj=>J) (Ext.refl _) (an h0) (an h1) Y
end
theorem RkI.own {F G:Nat->Prop}{s s':St}{R:Nat}{k:RkS}{room N left:Int}{fused out:Bool}(h:RkI s R k)(e:Ext F G s s')(hG: ∀y,y<s.next->G y->R+1<=y/\y<R+6)(h1:Own s' R 1 (.int .i64 room))(h2:Own s' R 2 (.int .i64 N))(h3:Own s' R 3 (.bool fused))(h4:Own s' R 4 (.int .i64 left))(h5:Own s' R 5 (.bool out)):RkI s' R {k with room:=room,N:=N,fused:=fused,left:=left,out:=out}:=
 ⟨h.r0.ext e λg=>by have:=hG _ h.r0.1 g;omega,h1,h2,h3,h4,h5,h.l.ext e λx hx g=>by have h6:=hG _ (h.l.lt x hx) g;have h7:=h.lr x hx;omega,λf hf=>(h.bs f hf).ext e λx hx g=>by have h6:=hG _ (h.bl f hf x hx) g;have h7:=(h.br f hf x hx).1;omega,λf hf x hx=>Nat.lt_of_lt_of_le (h.bl f hf x hx) e.nxt,h.lr,h.br⟩
theorem In6 {R:Nat}{y:Nat}(h:R<=y/\y<R+6):In R 0 6 y:=⟨J,J⟩
section
variable {n R:Nat}{s:St}{k:RkS}{a:ByteArray}{Q:Value->St->Prop}
theorem JV (hb:s.lim<=s.next)(hI:RkI s R k)(hn:40<=n)
  (q1:(k.fused=true/\k.left=0)-> ∀s1,s1.next=s.next->Ext Any (In R 0 6) s s1->RkI s1 R {k with out:=true}->Q (.bool false) s1)
  (q2: ¬(k.fused=true/\k.left=0)-> ∀s1,s1.next=s.next->Ext Any (In R 0 6) s s1->RkI s1 R {k with N:=wrap64 (k.N+1),left:=if k.fused then wrap64 (k.left-1)else k.left}->Q (.bool true) s1):
  W (Ac envS (runF envS n) 56 [.pointer (some ⟨R,0,none⟩)]) s Q:=by
 have hb0:(s.cxN cxN).lim<=(s.cxN cxN).next:=hb
 have hI0:RkI (s.cxN cxN) R k:=hI.same rfl rfl
 refine Aqg_ λtm h=> ?_
 refine AdR_.u ?_
 simp only[Vg,RR,SS]
 refine VL_.u ?_
 simp only[Dx_,RR,SS,reduceCtorEq, ↓reduceIte,h,Ab Im al]
 refine aA BB hI0.r3.at' ?_
 have y1:=(Ext.refl (F:=Any) (G:=Non) (s.cxN cxN)).thenRd hb0 (R+(0+3))
 have hI1:RkI ((s.cxN cxN).rdN (R+(0+3))) R k:=hI0.same rfl rfl
 have n1:((s.cxN cxN).rdN (R+(0+3))).next=s.next:=rfl
 generalize (s.cxN cxN).rdN (R+(0+3))=s1 at *
 have work: ∀(n':Nat) (tm':T Value) (td':List Item) (s':St),n<=n'+12->skim 64 td'=Kw->s'.next=s.next->Ext Any (In R 0 6) (s.cxN cxN) s'->RkI s' R {k with left:=if k.fused then wrap64 (k.left-1)else k.left}->T.get tm' 0=some (.pointer (some ⟨R,0,none⟩))-> ¬(k.fused=true/\k.left=0)->W (runF envS n' ⟨56,Aeh_,DF,tm',td', .run, .normal,none⟩) s' λp s1=>Q p.1 (s1.cxN s.cx):=by
  intro n' tm' td' s' hn' hT' hnx x' hI' g0 hc
  refine AgG_.u ?_ hT'
  simp only[Ju_,RR,SS,g0,Ab Gp_ al]
  refine aA Bv hI'.r2.at' ?_
  have z1:Ext Any (In R 0 6) (s.cxN cxN) (s'.rdN (R+(0+2))):=x'.on ((Ext.refl (F:=Any) (G:=Non) s').thenRd (x'.bnd hb0) (R+(0+2))) hb0 λ_ _ h=>h.elim
  have hI1:=hI'.same (s':=s'.rdN (R+(0+2))) rfl rfl
  simp only[AY]
  refine aI Bv rfl hI1.r2 λs2 n2 x2 o2=> ?_
  have z2:=z1.on x2 hb0 λy _ hq=>In6 ⟨by have:=hq.1;omega,by have:=hq.2;omega⟩
  have c: ∀o,o<6->o≠2-> ¬In R (0+2) 1 (R+o):=λo h1 h2 h=>by have h3:=h.1;have h4:=h.2;omega
  have hI2:=hI1.own (room:=k.room) (N:=wrap64 (k.N+1)) (fused:=k.fused) (left:=if k.fused then wrap64 (k.left-1)else k.left) (out:=k.out) x2 (λy _ h=>⟨by have:=h.1;omega,by have:=h.2;omega⟩) (hI1.r1.ext x2 (c 1 al al)) o2 (hI1.r3.ext x2 (c 3 al al)) (hI1.r4.ext x2 (c 4 al al)) (hI1.r5.ext x2 (c 5 al al))
  refine AgP_.u ?_
  simp only[YC,RR,SS]
  refine aB (rs:=[2]) (vs:=[.bool true]) rfl (.inl Ys_) J L5 ZE z2.cx Y ?_
  exact q2 hc _ (by show s2.next=s.next;exact n2.trans hnx) z2.cx' (hI2.same rfl rfl)
 cases hf:k.fused with
 |false=>
  simp only[AI,Bk,Hk,Fy,EP,Df, ↓reduceIte,Bool.false_eq_true]
  refine aG Nt ?_
  refine Mu_.u ?_
  simp only[QA,RR,SS,reduceCtorEq, ↓reduceIte,h,Ab Im al]
  have r3:=hI1.r3
  rw[hf]at r3
  refine aA BB r3.at' ?_
  have y2:=y1.thenRd hb0 (R+(0+3))
  refine aG S5 ?_
  refine work _ _ _ _ J rfl n1 (y2.gw hb0 λ_ _ h=>h.elim) ?_ (an h) (by simp[hf])
  rw[show(if k.fused=true then wrap64 (k.left-1)else k.left)=k.left by rw[hf];rfl]
  exact hI1.same rfl rfl
 |true=>
  simp only[SS, ↓reduceIte,Ab Jt al]
  refine aA Bv hI1.r4.at' ?_
  have y2:=y1.thenRd hb0 (R+(0+4))
  have hI2:RkI (s1.rdN (R+(0+4))) R k:=hI1.same rfl rfl
  have n2:(s1.rdN (R+(0+4))).next=s.next:=n1
  generalize s1.rdN (R+(0+4))=s2 at *
  simp only[BJ]
  by_cases hl:k.left=0
  ·refine aJ Nt ?_ rfl (an hl)
   refine TJ_.u ?_
   simp only[Ne_,RR,SS,reduceCtorEq, ↓reduceIte,h,Ab E9 al]
   refine aI BB rfl hI2.r5 λs3 n3 x3 o3=> ?_
   have y3:Ext Any (In R 0 6) (s.cxN cxN) s3:=(y2.gw hb0 λ_ _ h=>h.elim).on x3 hb0 λy _ hq=>In6 ⟨by have:=hq.1;omega,by have:=hq.2;omega⟩
   have c: ∀o,o<6->o≠5-> ¬In R (0+5) 1 (R+o):=λo h1 h2 h=>by have h3:=h.1;have h4:=h.2;omega
   have hI3:=hI2.own (room:=k.room) (N:=k.N) (fused:=k.fused) (left:=k.left) (out:=true) x3 (λy _ h=>⟨by have:=h.1;omega,by have:=h.2;omega⟩) (hI2.r1.ext x3 (c 1 al al)) (hI2.r2.ext x3 (c 2 al al)) (hI2.r3.ext x3 (c 3 al al)) (hI2.r4.ext x3 (c 4 al al)) o3
   refine AqD_.u ?_
   simp only[Ao_,RR,SS]
   refine aB (rs:=[2]) (vs:=[.bool false]) rfl (.inl Abk_) J L5 ZE y3.cx Y ?_
   exact q1 ⟨hf,hl⟩ _ (by show s3.next=s.next;exact n3.trans n2) y3.cx' (hI3.same rfl rfl)
  ·refine aG Nt ?_ rfl (an hl)
   refine Mu_.u ?_
   simp only[QA,RR,SS,reduceCtorEq, ↓reduceIte,h,Ab Im al]
   have r3:=hI2.r3
   rw[hf]at r3
   refine aA BB r3.at' ?_
   have y3:=y2.thenRd hb0 (R+(0+3))
   have hI3:RkI (s2.rdN (R+(0+3))) R k:=hI2.same rfl rfl
   have n3:(s2.rdN (R+(0+3))).next=s.next:=n2
   generalize s2.rdN (R+(0+3))=s3 at *
   refine aJ S5 ?_
   refine XI_.u ?_
   simp only[TB,RR,SS,reduceCtorEq, ↓reduceIte,h,Ab Jt al]
   refine aA Bv hI3.r4.at' ?_
   have y4:=y3.thenRd hb0 (R+(0+4))
   have hI4:RkI (s3.rdN (R+(0+4))) R k:=hI3.same rfl rfl
   have n4:(s3.rdN (R+(0+4))).next=s.next:=n3
   generalize s3.rdN (R+(0+4))=s4 at *
   simp only[HX]
   refine aI Bv rfl hI4.r4 λs5 n5 x5 o5=> ?_
   have y5:Ext Any (In R 0 6) (s.cxN cxN) s5:=(y4.gw hb0 λ_ _ h=>h.elim).on x5 hb0 λy _ hq=>In6 ⟨by have:=hq.1;omega,by have:=hq.2;omega⟩
   have c: ∀o,o<6->o≠4-> ¬In R (0+4) 1 (R+o):=λo h1 h2 h=>by have h3:=h.1;have h4:=h.2;omega
   have hI5:=hI4.own (room:=k.room) (N:=k.N) (fused:=k.fused) (left:=wrap64 (k.left-1)) (out:=k.out) x5 (λy _ h=>⟨by have:=h.1;omega,by have:=h.2;omega⟩) (hI4.r1.ext x5 (c 1 al al)) (hI4.r2.ext x5 (c 2 al al)) (hI4.r3.ext x5 (c 3 al al)) o5 (hI4.r5.ext x5 (c 5 al al))
   refine work _ _ _ _ J VD_ (n5.trans n4) y5 ?_ (an h) (by simp[hl])
   rw[if_pos hf]
   exact hI5
theorem UI: ∀x y:List UInt8,Op.bytesLess x y=(Cq x y&& !(x==y))
 |[],[]=>rfl
 |_::_,[]=>rfl
 |[],_::_=>rfl
 |a::x,b::y=>by
  have ih:=UI x y
  show(decide (a<b)||(a==b&&Op.bytesLess x y))=((Nat.blt a.toNat b.toNat||(Nat.beq a.toNat b.toNat&&Cq x y))&& !(a==b&&x==y))
  rw[ih]
  have e1:Nat.blt a.toNat b.toNat=decide (a<b):=by
   rw[Is]
   exact decide_eq_decide.2 UInt8.lt_iff_toNat_lt.symm
  have e2:Nat.beq a.toNat b.toNat=(a==b):=by
   rw[Bool.eq_iff_iff,beq_iff_eq]
   exact⟨λh=>UInt8.toNat_inj.1 (Nat.eq_of_beq_eq_true h),λh=>by rw[h];exact Nat.beq_refl _⟩
  rw[e1,e2]
  by_cases h:a=b
  ·subst h
   have h0:decide (a<a)=false:=decide_eq_false (by rw[UInt8.lt_iff_toNat_lt];omega)
   rw[h0]
   simp
  ·have h0:(a==b)=false:=by simpa using h
   rw[h0]
   simp
theorem Zo_ (a b:ByteArray):ltT a b=Op.bytesLess a.data.toList b.data.toList:=by
 rw[UI]
 unfold ltT nmL
 rw[baL]
theorem Ads_ {E:Env}{t:Nat}{s:St}{xo yo:Operand}(a b:ByteArray)(Q:Value->St->Prop):W (Cl.get (aBin E .lss t xo yo) (.string a) (.string b)) s Q=Q (.bool (ltT a b)) s:=by
 rw[Zo_]
 exact As (PE (λ_=>rfl) rfl (by rw[<-ByteArray.toList_eq,<-ByteArray.toList_eq];rfl) λ_=>rfl)
theorem Dk_ {a:ByteArray}: ∀{l:List RF} {i:Nat} (h:i<l.length),(∀j (hj:j<l.length),j<i->ltT l[j].name a=true)->ltT l[i].name a=false->A9 l a=i
 |g::l,0,_,_,h2=>by
  have h2':ltT g.name a=false:=h2
  unfold A9
  rw[h2']
  rfl
 |g::l,i+1,h,h1,h2=>by
  have h0:ltT g.name a=true:=h1 0 am J
  unfold A9
  rw[h0,if_pos rfl,Dk_ (l:=l) (i:=i) (by simpa using h) (λj hj hji=>h1 (j+1) (by simpa using hj) J) h2]
theorem VU {a:ByteArray}: ∀{l:List RF},(∀j (hj:j<l.length),ltT l[j].name a=true)->A9 l a=l.length
 |[],_=>rfl
 |g::l,h=>by
  have h0:ltT g.name a=true:=h 0 am
  unfold A9
  rw[h0,if_pos rfl,VU (l:=l) λj hj=>h (j+1) (by simpa using hj)]
  rfl
theorem Wy_ {Q:Value×FrameMode->St->Prop}{s0:St}(hb0:s0.lim<=s0.next)(hI0:RkI s0 R k)(hl:k.ws.length<=1000)(hcx:s0.cx=cxN)
  (q: ∀s1,Ext Any Non s0 s1->Q (.int .i64 (A9 k.wl a:Nat), .run) s1):
  ∀(m i n:Nat) (tm:T Value) (s:St) (td:List Item),i+m=k.ws.length->10*m+20<=n->skim 64 td=JG->(∀j (h:j<k.ws.length),j<i->ltT k.ws[j].rf.name a=true)->Ext Any Non s0 s->T.get tm 0=some (.pointer (some ⟨R,0,none⟩))->T.get tm 1=some (.string a)->T.get tm 5=some (.int .i64 (i:Nat))->
  W (runF envS n ⟨70,Jb_,E3,tm,td, .run, .normal,none⟩) s Q:=by
 intro m
 have fin: ∀(i n':Nat) (tm':T Value) (s':St) (td':List Item),10<=n'->skim 64 td'=J7->A9 k.wl a=i->Ext Any Non s0 s'->T.get tm' 24=some (.bool false)->T.get tm' 5=some (.int .i64 (i:Nat))->W (runF envS n' ⟨70,Jb_,E3,tm',td', .run, .normal,none⟩) s' Q:=by
  intro i n' tm' s' td' hn' hT' hp y g24 g5
  refine aG V0 ?_ hT' (by simp[g24])
  refine UC_.u ?_
  simp only[PQ_,RR,SS,g5]
  refine aB (rs:=[4]) (vs:=[.int .i64 (i:Nat)]) rfl (.inl Afh_) J Jy_ Ali_ (y.cx.trans hcx) Y ?_
  rw[<-hp]
  exact q _ y
 induction m with
 |zero=>
  intro i n tm s td hi hn hT hlt hx h0 h1 h5
  have hI:=hI0.ext0 hx
  refine Y0.u ?_ hT
  simp only[Sq,RR,SS,h0,h5,Ab AM al]
  refine aA AN hI.r0.at' ?_
  have y:=hx.thenRd hb0 (R+(0+0))
  have e0:decide (((i:Nat):Int)<((k.ws.length:Nat):Int))=false:=decide_eq_false J
  simp only[AI,Bk,Hk,Fy,EP,Df, ↓reduceIte,Ap,hI.l.len AL,e0,Bool.false_eq_true]
  refine fin i _ _ _ _ J rfl ?_ y Y (an h5)
  rw[VU λj hj=>by rw[aH]at hj;rw[aM hj];exact hlt j hj J,aH]
  omega
 |succ m ih=>
  intro i n tm s td hi hn hT hlt hx h0 h1 h5
  have hI:=hI0.ext0 hx
  have hil:i<k.ws.length:=J
  refine Y0.u ?_ hT
  simp only[Sq,RR,SS,h0,h1,h5,Ab AM al]
  refine aA AN hI.r0.at' ?_
  have y:=hx.thenRd hb0 (R+(0+0))
  have hI1:RkI (s.rdN (R+(0+0))) R k:=hI.same rfl rfl
  generalize s.rdN (R+(0+0))=s1 at *
  have e0:decide (((i:Nat):Int)<((k.ws.length:Nat):Int))=true:=decide_eq_true J
  simp only[SS, ↓reduceIte,Ap,hI.l.len AL,e0,Ab AM al]
  refine aA AN hI1.r0.at' ?_
  have y2:=y.thenRd hb0 (R+(0+0))
  obtain⟨c,ev,n0,_,_⟩:=hI1.l.at hil
  simp only[ev,AA AL hil,Ab Gy al]
  refine aA AQ (n0.same rfl rfl).at' ?_
  have y3:=y2.thenRd hb0 (k.b+(0+i*3+0))
  simp only[Ads_]
  cases hk:ltT k.ws[i].rf.name a with
  |true=>
   refine aJ V0 ?_
   refine Aan_.u ?_
   have ei:=eiW (i:=i) J
   simp only[Wd,RR,SS,Nat.reduceEqDiff, ↓reduceIte,AY,h5,ei]
   exact ih (i+1) _ _ _ _ J J Aph_ (λj h hj=>by
    by_cases e:j=i
    ·subst e;exact hk
    ·exact hlt j h J) y3 (an h0) (an h1) Y
  |false=>
   refine fin i _ _ _ _ J rfl ?_ y3 Y (an h5)
   refine Dk_ (by rw[aH];exact hil) (λj hj hji=> ?_) ?_
   ·rw[aH]at hj
    rw[aM hj]
    exact hlt j hj hji
   ·rw[aM hil]
    exact hk
theorem AnO_ (hb:s.lim<=s.next)(hI:RkI s R k)(hl:k.ws.length<=1000)(hn:10*k.ws.length+60<=n)
  (q: ∀s1,Ext Any Non s s1->Q (.int .i64 (A9 k.wl a:Nat)) s1):
  W (Ac envS (runF envS n) 70 [.pointer (some ⟨R,0,none⟩), .string a]) s Q:=by
 have hb0:(s.cxN cxN).lim<=(s.cxN cxN).next:=hb
 refine AkF_ λtm h0 h1=> ?_
 refine Un_.u ?_
 simp only[NZ_,RR,SS]
 refine Vc_.u ?_
 simp only[Vo,RR,SS]
 exact Wy_ (s0:=s.cxN cxN) hb0 (hI.same rfl rfl) hl rfl (λs1 x1=>q _ x1.cx') k.ws.length 0 _ _ _ _ J J rfl (λj h hj=>J) (Ext.refl _) (an h0) (an h1) Y
end
theorem getL {a:ByteArray}{i:Nat}(h:i<a.size):a.data.toList[i]?=some (a.get! i):=by
 have e:a.get! i=a.data[i]!:=rfl
 rw[e,Array.getElem?_toList,getElem!_pos a.data i h]
 exact Array.getElem?_eq_getElem h
section
variable {E:Env}{s:St}{t:Nat}{xo yo:Operand}
theorem LP_ (m n:Nat):Cl.get (aBin E .leq t xo yo) (.int .u8 (m:Nat)) (.int .u8 (n:Nat)) s= .some (.bool (decide (m<=n))) s:=by
 show int3 (cmpK λm n=>Nat.ble m n) (AJ E .leq t xo yo) (.int .u8 (.ofNat m)) (.int .u8 (.ofNat n)) s=_
 show Option.rec (motive:=λ_=>R Value) _ (λv=> .some v s) (cmpK (λm n=>Nat.ble m n) .u8 .u8 m n)=_
 have e:Nat.ble m n=decide (m<=n):=by
  by_cases h:m<=n
  ·rw[decide_eq_true h]
   exact Nat.ble_eq_true_of_le h
  ·rw[decide_eq_false h]
   cases hb:Nat.ble m n with
   |false=>rfl
   |true=>exact absurd (Nat.le_of_ble_eq_true hb) h
 rw[cmp8,e]
theorem Fd {m:Nat}(Q:Value->St->Prop):W (Cl.get (aBin E .geq t xo yo) (.int .u8 (m:Nat)) (.int .u8 97)) s Q=Q (.bool (decide (97<=m))) s:=As (Fi_ m 97)
theorem F5 {m:Nat}(Q:Value->St->Prop):W (Cl.get (aBin E .geq t xo yo) (.int .u8 (m:Nat)) (.int .u8 48)) s Q=Q (.bool (decide (48<=m))) s:=As (Fi_ m 48)
theorem KK_ {m:Nat}(Q:Value->St->Prop):W (Cl.get (aBin E .leq t xo yo) (.int .u8 (m:Nat)) (.int .u8 122)) s Q=Q (.bool (decide (m<=122))) s:=As (LP_ m 122)
theorem Od {m:Nat}(Q:Value->St->Prop):W (Cl.get (aBin E .leq t xo yo) (.int .u8 (m:Nat)) (.int .u8 57)) s Q=Q (.bool (decide (m<=57))) s:=As (LP_ m 57)
theorem Hg {m:Nat}(Q:Value->St->Prop):W (Cl.get (aBin E .neq t xo yo) (.int .u8 (m:Nat)) (.int .u8 45)) s Q=Q (.bool (!decide (m=45))) s:=As (neqU .u8 rfl m 45 xo yo)
theorem H7 {m:Nat}(Q:Value->St->Prop):W (Cl.get (aBin E .neq t xo yo) (.int .u8 (m:Nat)) (.int .u8 46)) s Q=Q (.bool (!decide (m=46))) s:=As (neqU .u8 rfl m 46 xo yo)
theorem KN {m:Nat}(Q:Value->St->Prop):W (Cl.get (aBin E .neq t xo yo) (.int .u8 (m:Nat)) (.int .u8 47)) s Q=Q (.bool (!decide (m=47))) s:=As (neqU .u8 rfl m 47 xo yo)
end
section
variable {n:Nat}{s:St}{a:ByteArray}{Q:Value->St->Prop}
theorem Zl_ {Q:Value×FrameMode->St->Prop}{s0:St}(hz:a.size<=1000000)(hcx:s0.cx=cxN)(q:Q (.bool (AC a), .run) s0):
  ∀(m i n:Nat) (tm:T Value) (td:List Item),i+m=a.size->10*m+30<=n->skim 64 td=Jc->(∀j,j<i->okN (a.get! j).toNat=true)->T.get tm 0=some (.string a)->T.get tm 3=some (.int .i64 (i:Nat))->
  W (runF envS n ⟨57,K4,CF,tm,td, .run, .normal,none⟩) s0 Q:=by
 intro m
 induction m with
 |zero=>
  intro i n tm td hi hn hT hok h0 h3
  have hall:allN a=true:=Kl_ (p:=i) λj hj=>hok j J
  refine Bd_.u ?_ hT
  simp only[Qi,RR,SS,Ap,h0,h3,CA A8]
  refine aG FV_ ?_
  refine AlD_.u ?_
  have fin: ∀(b:Bool) (n':Nat) (tm':T Value) (td:List Item),2<=n'->skim 64 td=Nh->T.get tm' 2=some (.bool b)->b=AC a->W (runF envS n' ⟨57,K4,CF,tm',td, .run, .normal,none⟩) s0 Q:=by
   intro b n' tm' td hn' hT g2 hb
   refine aB (rs:=[2]) (vs:=[.bool b]) hT (.inl Aep_) J Pj T4 hcx (by simp[g2]) ?_
   rw[hb]
   exact q
  by_cases h1:1<=a.size
  ·have e1:decide ((1:Int)<=((a.size:Nat):Int))=true:=decide_eq_true J
   by_cases h2:a.size<=60
   ·have e2:decide (((a.size:Nat):Int)<=60)=true:=decide_eq_true J
    simp only[Ju,RR,SS,reduceCtorEq, ↓reduceIte,K1,B9,h0,CA A8,e1,e2]
    exact fin true _ _ _ J rfl Y (by unfold AC;rw[decide_eq_true J,hall];rfl)
   ·have e2:decide (((a.size:Nat):Int)<=60)=false:=decide_eq_false J
    simp only[Ju,RR,SS,reduceCtorEq, ↓reduceIte,K1,B9,h0,CA A8,e1,e2]
    exact fin false _ _ _ J rfl Y (by unfold AC;rw[decide_eq_false J];rfl)
  ·have e1:decide ((1:Int)<=((a.size:Nat):Int))=false:=decide_eq_false J
   simp only[Ju,RR,SS,reduceCtorEq, ↓reduceIte,B9,h0,CA A8,e1,Bool.false_eq_true]
   exact fin false _ _ _ J rfl Y (by unfold AC;rw[decide_eq_false J];rfl)
 |succ m ih=>
  intro i n tm td hi hn hT hok h0 h3
  have hil:i<a.size:=J
  have hg:=getL hil
  refine Bd_.u ?_ hT
  simp only[Qi,RR,SS,Ap,h0,h3,CA A8]
  refine aJ FV_ ?_
  refine AoX_.u ?_
  have ei:=eiW (i:=i) J
  have good: ∀(n':Nat) (tm':T Value) (td:List Item),n<=n'+6->skim 64 td=Ir->okN (a.get! i).toNat=true->T.get tm' 0=some (.string a)->T.get tm' 3=some (.int .i64 (i:Nat))->T.get tm' 52=some (.bool false)->W (runF envS n' ⟨57,K4,CF,tm',td, .run, .normal,none⟩) s0 Q:=by
   intro n' tm' td hn' hT' hk g0 g3 g52
   refine aG Od_ ?_ hT' (by simp[g52])
   refine Arf_.u ?_
   simp only[AS_,RR,SS,AY,g3,ei]
   exact ih (i+1) _ _ _ J J Arc_ (λj hj=>by
    by_cases e:j=i
    ·rw[e];exact hk
    ·exact hok j J) (an g0) Y
  have bad: ∀(n':Nat) (tm':T Value) (td:List Item),10<=n'->skim 64 td=Ir->okN (a.get! i).toNat=false->T.get tm' 52=some (.bool true)->W (runF envS n' ⟨57,K4,CF,tm',td, .run, .normal,none⟩) s0 Q:=by
   intro n' tm' td hn' hT' hk g52
   refine aJ Od_ ?_ hT' (by simp[g52])
   refine Ahi_.u ?_
   simp only[VZ,RR,SS]
   refine aB (rs:=[2]) (vs:=[.bool false]) rfl (.inl Akb_) J Pj T4 hcx Y ?_
   have e:AC a=false:=by unfold AC;rw[W0 hil hk,Bool.and_false]
   rw[e]at q
   exact q
  generalize hc:(a.get! i).toNat=c at *
  have cs:(c<45)\/(c=45)\/(c=46)\/(c=47)\/(48<=c/\c<=57)\/(58<=c/\c<=96)\/(97<=c/\c<=122)\/(123<=c):=J
  rcases cs with hc1|hc1|hc1|hc1|hc1|hc1|hc1|hc1
  ·have e0:decide (97<=c)=false:=decide_eq_false J;have e1:decide (c<=122)=true:=decide_eq_true J;have e2:decide (48<=c)=false:=decide_eq_false J;have e3:decide (c<=57)=true:=decide_eq_true J;have e4:decide (c=45)=false:=decide_eq_false J;have e5:decide (c=46)=false:=decide_eq_false J;have e6:decide (c=47)=false:=decide_eq_false J
   simp only[DX,RR,SS,Nat.reduceEqDiff,reduceCtorEq, ↓reduceIte,h0,h3,Cv A8 hg,hc,Fd,F5,e0,e2,Bool.false_eq_true]
   refine E7.u ?_
   simp only[DU,RR,SS,Nat.reduceEqDiff,reduceCtorEq, ↓reduceIte,h0,h3,Cv A8 hg,hc,Hg,H7,KN,e4,e5,e6,A5,Bool.not_false]
   exact bad _ _ _ J rfl (by unfold okN;exact decide_eq_false J) Y
  ·have e0:decide (97<=c)=false:=decide_eq_false J;have e1:decide (c<=122)=true:=decide_eq_true J;have e2:decide (48<=c)=false:=decide_eq_false J;have e3:decide (c<=57)=true:=decide_eq_true J;have e4:decide (c=45)=true:=decide_eq_true J;have e5:decide (c=46)=false:=decide_eq_false J;have e6:decide (c=47)=false:=decide_eq_false J
   simp only[DX,RR,SS,Nat.reduceEqDiff,reduceCtorEq, ↓reduceIte,h0,h3,Cv A8 hg,hc,Fd,F5,e0,e2,Bool.false_eq_true]
   refine E7.u ?_
   simp only[DU,RR,SS,Nat.reduceEqDiff,reduceCtorEq, ↓reduceIte,h0,h3,Cv A8 hg,hc,Hg,e4,A5,Bool.not_true,Bool.not_false,Bool.false_eq_true]
   exact good _ _ _ J rfl (by unfold okN;exact decide_eq_true J) (an h0) (an h3) Y
  ·have e0:decide (97<=c)=false:=decide_eq_false J;have e1:decide (c<=122)=true:=decide_eq_true J;have e2:decide (48<=c)=false:=decide_eq_false J;have e3:decide (c<=57)=true:=decide_eq_true J;have e4:decide (c=45)=false:=decide_eq_false J;have e5:decide (c=46)=true:=decide_eq_true J;have e6:decide (c=47)=false:=decide_eq_false J
   simp only[DX,RR,SS,Nat.reduceEqDiff,reduceCtorEq, ↓reduceIte,h0,h3,Cv A8 hg,hc,Fd,F5,e0,e2,Bool.false_eq_true]
   refine E7.u ?_
   simp only[DU,RR,SS,Nat.reduceEqDiff,reduceCtorEq, ↓reduceIte,h0,h3,Cv A8 hg,hc,Hg,H7,e4,e5,A5,Bool.not_true,Bool.not_false,Bool.false_eq_true]
   exact good _ _ _ J rfl (by unfold okN;exact decide_eq_true J) (an h0) (an h3) Y
  ·have e0:decide (97<=c)=false:=decide_eq_false J;have e1:decide (c<=122)=true:=decide_eq_true J;have e2:decide (48<=c)=false:=decide_eq_false J;have e3:decide (c<=57)=true:=decide_eq_true J;have e4:decide (c=45)=false:=decide_eq_false J;have e5:decide (c=46)=false:=decide_eq_false J;have e6:decide (c=47)=true:=decide_eq_true J
   simp only[DX,RR,SS,Nat.reduceEqDiff,reduceCtorEq, ↓reduceIte,h0,h3,Cv A8 hg,hc,Fd,F5,e0,e2,Bool.false_eq_true]
   refine E7.u ?_
   simp only[DU,RR,SS,Nat.reduceEqDiff,reduceCtorEq, ↓reduceIte,h0,h3,Cv A8 hg,hc,Hg,H7,KN,e4,e5,e6,A5,Bool.not_true,Bool.not_false]
   exact good _ _ _ J rfl (by unfold okN;exact decide_eq_true J) (an h0) (an h3) Y
  ·have e0:decide (97<=c)=false:=decide_eq_false J;have e1:decide (c<=122)=true:=decide_eq_true J;have e2:decide (48<=c)=true:=decide_eq_true J;have e3:decide (c<=57)=true:=decide_eq_true J;have e4:decide (c=45)=false:=decide_eq_false J;have e5:decide (c=46)=false:=decide_eq_false J;have e6:decide (c=47)=false:=decide_eq_false J
   simp only[DX,RR,SS,Nat.reduceEqDiff,reduceCtorEq, ↓reduceIte,h0,h3,Cv A8 hg,hc,Fd,F5,Od,e0,e2,e3,Bool.false_eq_true]
   refine E7.u ?_
   simp only[DU,RR,SS,Nat.reduceEqDiff,reduceCtorEq, ↓reduceIte,h0,h3,A5,Bool.not_true,Bool.false_eq_true]
   exact good _ _ _ J rfl (by unfold okN;exact decide_eq_true J) (an h0) (an h3) Y
  ·have e0:decide (97<=c)=false:=decide_eq_false J;have e1:decide (c<=122)=true:=decide_eq_true J;have e2:decide (48<=c)=true:=decide_eq_true J;have e3:decide (c<=57)=false:=decide_eq_false J;have e4:decide (c=45)=false:=decide_eq_false J;have e5:decide (c=46)=false:=decide_eq_false J;have e6:decide (c=47)=false:=decide_eq_false J
   simp only[DX,RR,SS,Nat.reduceEqDiff,reduceCtorEq, ↓reduceIte,h0,h3,Cv A8 hg,hc,Fd,F5,Od,e0,e2,e3,Bool.false_eq_true]
   refine E7.u ?_
   simp only[DU,RR,SS,Nat.reduceEqDiff,reduceCtorEq, ↓reduceIte,h0,h3,Cv A8 hg,hc,Hg,H7,KN,e4,e5,e6,A5,Bool.not_false]
   exact bad _ _ _ J rfl (by unfold okN;exact decide_eq_false J) Y
  ·have e0:decide (97<=c)=true:=decide_eq_true J;have e1:decide (c<=122)=true:=decide_eq_true J;have e2:decide (48<=c)=true:=decide_eq_true J;have e3:decide (c<=57)=false:=decide_eq_false J;have e4:decide (c=45)=false:=decide_eq_false J;have e5:decide (c=46)=false:=decide_eq_false J;have e6:decide (c=47)=false:=decide_eq_false J
   simp only[DX,RR,SS,Nat.reduceEqDiff,reduceCtorEq, ↓reduceIte,h0,h3,GM_,Aam_,Cv A8 hg,hc,Fd,KK_,e0,e1]
   refine E7.u ?_
   simp only[DU,RR,SS,Nat.reduceEqDiff,reduceCtorEq, ↓reduceIte,h0,h3,A5,Bool.not_true,Bool.false_eq_true]
   exact good _ _ _ J rfl (by unfold okN;exact decide_eq_true J) (an h0) (an h3) Y
  ·have e0:decide (97<=c)=true:=decide_eq_true J;have e1:decide (c<=122)=false:=decide_eq_false J;have e2:decide (48<=c)=true:=decide_eq_true J;have e3:decide (c<=57)=false:=decide_eq_false J;have e4:decide (c=45)=false:=decide_eq_false J;have e5:decide (c=46)=false:=decide_eq_false J;have e6:decide (c=47)=false:=decide_eq_false J
   simp only[DX,RR,SS,Nat.reduceEqDiff,reduceCtorEq, ↓reduceIte,h0,h3,Cv A8 hg,hc,Fd,F5,KK_,Od,e0,e1,e2,e3,Bool.false_eq_true]
   refine E7.u ?_
   simp only[DU,RR,SS,Nat.reduceEqDiff,reduceCtorEq, ↓reduceIte,h0,h3,Cv A8 hg,hc,Hg,H7,KN,e4,e5,e6,A5,Bool.not_false]
   exact bad _ _ _ J rfl (by unfold okN;exact decide_eq_false J) Y
theorem PA_ (hz:a.size<=1000000)(hn:10*a.size+60<=n)(q: ∀s1,s1.mem=s.mem->s1.next=s.next->Ext Any Non s s1->Q (.bool (AC a)) s1):W (Ac envS (runF envS n) 57 [.string a]) s Q:=by
 refine Aib_ λtm h=> ?_
 refine AhV_.u ?_
 simp only[Rm_,RR,SS]
 refine Afd_.u ?_
 simp only[TR,RR,SS]
 exact Zl_ (s0:=s.cxN cxN) hz rfl (q _ rfl rfl (Ext.refl s)) a.size 0 _ _ _ J J rfl (λj hj=>J) (an h) Y
end
theorem Lm:elT envS 32=some (1,1,[.int .u8 0]):=X
def EmB (s:St)(l:List Nat)(v:Value)(b:Nat):Prop:=EmS s 1 l.length (u8l l) v b
theorem EmB.same {s s':St}{l:List Nat}{v:Value}{b:Nat}(h:EmB s l v b)(hm:s'.mem=s.mem)(hn:s'.next=s.next):EmB s' l v b:=EmS.same h hm hn
theorem EmB.bs {s:St}{l:List Nat}{v:Value}{b:Nat}(h:EmB s l v b)(hz:l.length<capU):Bs s v l:=by
 rcases h with⟨rfl,h0,h1⟩|⟨h,_⟩
 ·obtain rfl:l=[]:=List.eq_nil_of_length_eq_zero h0
  exact .inr ⟨b,0,0,rfl,am,Eg (by unfold capU;decide),λi v e=>by simp[u8l]at e⟩
 ·exact .inr ⟨b,0,_,h.val,by rw[EZ hz];exact Nat.le_refl _,D9 hz al,h.own.row⟩
theorem EmB.at {s:St}{l:List Nat}{v:Value}{b:Nat}(h:EmB s l v b): ∃c,v= .slice (some ⟨b,0,none⟩) l.length c:=by
 obtain⟨c,e,_⟩:=EmS.row h
 exact⟨c,e⟩
theorem EmB.f {s:St}{l:List Nat}{v:Value}{b x:Nat}(h:EmB s l v b)(hx:BsF v x):b<=x:=by
 obtain⟨c,rfl⟩:=h.at
 have:b+0<=x:=hx.1
 omega
theorem EmB.lt {s:St}{l:List Nat}{v:Value}{b x:Nat}(h:EmB s l v b)(hx:BsF v x):x<s.next:=by
 rcases h with⟨rfl,h0,h1⟩|⟨h,_⟩
 ·have h1:b+0<=x:=hx.1
  have h2:x<b+0+0:=hx.2
  omega
 ·have h1:=h.lt
  rw[h.val]at hx
  have h2:x<b+0+l.length:=hx.2
  omega
theorem EmB.nil {s:St}{b:Nat}:EmB s [] (.slice (some ⟨b,0,none⟩) 0 0) b:= .inl ⟨rfl,rfl,rfl⟩
theorem W.appBy {s:St}{l m:List Nat}{v x:Value}{b:Nat}{Q:Value->St->Prop}(hbd:s.lim<=s.next)(h:EmB s l v b)(hx:Bs s x m)(hz:l.length+m.length<=1000000)
  (q: ∀s2 v2 b2,(b2=b\/s.next<=b2)->EmB s2 (l++m) v2 b2->Ext (λy=>BsF x y\/MkF 1 l.length b y) (MkF 1 l.length b) s s2->Q v2 s2):W (AH envS .append [32,32] [v,x]) s Q:=by
 rw[DL]
 refine W.appE hbd LE h hx.src.g al al J (by rw[Br,Nat.mul_one]) (FF _) λs2 v2 b2 hb2 h2 x2=>q s2 v2 b2 hb2 ?_ x2
 have e:u8l (l++m)=u8l l++u8l m:=List.map_append
 unfold EmB
 rw[e,List.length_append]
 exact h2
theorem ApG_ (room:Int):buildN envS 60 [(1, .int .i64 room)]=some [.slice none 0 0, .int .i64 room, .int .i64 0, .bool false, .int .i64 0, .bool false]:=X
def RkS.used (k:RkS):Nat:=(k.wl.map λf=>f.b.length).sum
section
variable {n R:Nat}{s:St}{k:RkS}{a:ByteArray}{Q:Value->St->Prop}
theorem Aik_ {room:Int}(hr:room<0\/16777216<room)(hn:40<=n)(q: ∀s1,Ext Any Non s s1->Q (.tuple #[.pointer none, .int .i64 5]) s1):W (Ac envS (runF envS n) 7 [.int .i64 room]) s Q:=by
 refine Wc λtm t0=> ?_
 refine Xc.u ?_
 simp only[Mo,RR,SS]
 refine EV_.u ?_
 have fin: ∀(n':Nat) (tm':T Value) (td:List Item),10<=n'->skim 64 td=JD->T.get tm' 9=some (.bool true)->W (runF envS n' ⟨7,Akf_,Hu,tm',td, .run, .normal,none⟩) (s.cxN cxN) λp s1=>Q p.1 (s1.cxN s.cx):=by
  intro n' tm' td hn' hT g9
  refine aJ Uc ?_ hT (by simp[g9])
  refine AhS_.u ?_
  simp only[Xy,RR,SS]
  refine aB (rs:=[2,3]) (vs:=[.pointer none, .int .i64 5]) rfl (.inl Aji_) J Rr Z0 rfl Y ?_
  exact q _ (Ext.refl (F:=Any) (G:=Non) s)
 by_cases hneg:room<0
 ·simp only[Lz,RR,SS,reduceCtorEq, ↓reduceIte,Ap,t0,decide_eq_true hneg]
  exact fin _ _ _ J rfl Y
 ·have e2:decide ((16777216:Int)<room)=true:=decide_eq_true J
  simp only[Lz,RR,SS,reduceCtorEq, ↓reduceIte,Ap,Ck,t0,decide_eq_false hneg,e2]
  exact fin _ _ _ J rfl Y
theorem AnB_ {room:Int}(hb:s.lim<=s.next)(h0:0<=room)(hr:room<=16777216)(hn:40<=n)(q: ∀s1,Ext Any Non s s1->RkI s1 s.next ⟨[], .slice none 0 0,0,room,0,false,0,false⟩->s1.next=s.next+7->Q (.tuple #[.pointer (some ⟨s.next,0,none⟩), .int .i64 0]) s1):W (Ac envS (runF envS n) 7 [.int .i64 room]) s Q:=by
 have hb0:(s.cxN cxN).lim<=(s.cxN cxN).next:=hb
 refine Wc λtm t0=> ?_
 refine Xc.u ?_
 simp only[Mo,RR,SS]
 refine EV_.u ?_
 have e1:decide (room<0)=false:=decide_eq_false J
 have e2:decide ((16777216:Int)<room)=false:=decide_eq_false J
 simp only[Lz,RR,SS,reduceCtorEq, ↓reduceIte,Ap,Ck,t0,e1,e2]
 refine aG Uc ?_
 refine WW_.u ?_
 simp only[HY_,RR,SS,reduceCtorEq, ↓reduceIte,t0,Ii (ApG_ room)]
 refine W.box λs2 n2 x2 r2=> ?_
 rw[FP]at n2 r2
 have ea:(s.cxN cxN).next=s.next:=rfl
 rw[ea]at r2 n2 ⊢
 have n2':s2.next=s.next+7:=n2
 have y2:Ext Any Non (s.cxN cxN) s2:=x2.weak hb0 (λ_ _ _=>trivial) λ_ _ h=>h
 refine aB (rs:=[2,3]) (vs:=[.pointer (some ⟨s.next,0,none⟩), .int .i64 0]) rfl (.inl Adl_) J Rr Z0 y2.cx Y ?_
 have nof: ∀x,¬MkF 3 0 0 x:=λx h=>absurd h.1 J
 exact q _ y2.cx' ⟨(r2 0 _ rfl).same rfl rfl,(r2 1 _ rfl).same rfl rfl,(r2 2 _ rfl).same rfl rfl,(r2 3 _ rfl).same rfl rfl,(r2 4 _ rfl).same rfl rfl,(r2 5 _ rfl).same rfl rfl, .inl ⟨rfl,rfl⟩,λf hf=>absurd hf am,λf hf=>absurd hf am,λx hx=>(nof x hx).elim,λf hf=>absurd hf am⟩ n2'
theorem Alg_ {room:Int}(hr:room<0\/16777216<room)(hn:40<=n)(q: ∀s1,Ext Any Non s s1->Q (.int .i64 5) s1):W (Ac envS (runF envS n) 34 [.pointer (some ⟨R,0,none⟩), .int .i64 room]) s Q:=by
 refine GX_ λtm t0 t1=> ?_
 refine Ig_.u ?_
 simp only[Sn,RR,SS]
 refine Qx_.u ?_
 have fin: ∀(n':Nat) (tm':T Value) (td:List Item),10<=n'->skim 64 td=JS->T.get tm' 10=some (.bool true)->W (runF envS n' ⟨34,AlL_,Fr,tm',td, .run, .normal,none⟩) (s.cxN cxN) λp s1=>Q p.1 (s1.cxN s.cx):=by
  intro n' tm' td hn' hT g9
  refine aJ V7 ?_ hT (by simp[g9])
  refine AmE_.u ?_
  simp only[AO_,RR,SS]
  refine aB (rs:=[4]) (vs:=[.int .i64 5]) rfl (.inl Yo_) J RZ MA_ rfl Y ?_
  exact q _ (Ext.refl (F:=Any) (G:=Non) s)
 by_cases hneg:room<0
 ·simp only[Km,RR,SS,Nat.reduceEqDiff, ↓reduceIte,Ap,t1,decide_eq_true hneg]
  exact fin _ _ _ J rfl Y
 ·have e2:decide ((16777216:Int)<room)=true:=decide_eq_true J
  simp only[Km,RR,SS,Nat.reduceEqDiff,reduceCtorEq, ↓reduceIte,Ap,Ck,t1,decide_eq_false hneg,e2]
  exact fin _ _ _ J rfl Y
theorem cR {R o o':Nat}(h:o≠o'): ¬In R (0+o') 1 (R+o):=λh1=>by have h3:=h1.1;have h4:=h1.2;omega
theorem ZG_ {room:Int}(hb:s.lim<=s.next)(hI:RkI s R k)(h0:0<=room)(hr:room<=16777216)(hn:40<=n)(q: ∀s1,Ext Any (In R 0 6) s s1->RkI s1 R {k with room:=room}->Q (.int .i64 0) s1):W (Ac envS (runF envS n) 34 [.pointer (some ⟨R,0,none⟩), .int .i64 room]) s Q:=by
 have hb0:(s.cxN cxN).lim<=(s.cxN cxN).next:=hb
 have hI0:RkI (s.cxN cxN) R k:=hI.same rfl rfl
 refine GX_ λtm t0 t1=> ?_
 refine Ig_.u ?_
 simp only[Sn,RR,SS]
 refine Qx_.u ?_
 have e1:decide (room<0)=false:=decide_eq_false J
 have e2:decide ((16777216:Int)<room)=false:=decide_eq_false J
 simp only[Km,RR,SS,Nat.reduceEqDiff,reduceCtorEq, ↓reduceIte,Ap,Ck,t1,e1,e2]
 refine aG V7 ?_
 refine Aat_.u ?_
 simp only[IQ_,RR,SS,Nat.reduceEqDiff,reduceCtorEq, ↓reduceIte,t0,t1,Ab AY_ al]
 refine aI Bv rfl hI0.r1 λs2 n2 x2 o2=> ?_
 have hI2:=hI0.own (room:=room) (N:=k.N) (fused:=k.fused) (left:=k.left) (out:=k.out) x2 (λy _ h=>⟨by have:=h.1;omega,by have:=h.2;omega⟩) o2 (hI0.r2.ext x2 (cR al)) (hI0.r3.ext x2 (cR al)) (hI0.r4.ext x2 (cR al)) (hI0.r5.ext x2 (cR al))
 have y2:Ext Any (In R 0 6) (s.cxN cxN) s2:=x2.weak hb0 (λ_ _ _=>trivial) λy _ hq=>In6 ⟨by have:=hq.1;omega,by have:=hq.2;omega⟩
 refine UE_.u ?_
 simp only[Ws,RR,SS]
 refine aB (rs:=[4]) (vs:=[.int .i64 0]) rfl (.inl AjI_) J RZ MA_ y2.cx Y ?_
 exact q _ y2.cx' (hI2.same rfl rfl)
theorem AkV_ {m:Int}(hb:s.lim<=s.next)(hI:RkI s R k)(hn:40<=n)(q1:m<0-> ∀s1,Ext Any Non s s1->Q (.int .i64 2) s1)(q2:0<=m-> ∀s1,Ext Any (In R 0 6) s s1->RkI s1 R {k with fused:=true,left:=m}->Q (.int .i64 0) s1):W (Ac envS (runF envS n) 31 [.pointer (some ⟨R,0,none⟩), .int .i64 m]) s Q:=by
 have hb0:(s.cxN cxN).lim<=(s.cxN cxN).next:=hb
 have hI0:RkI (s.cxN cxN) R k:=hI.same rfl rfl
 refine XK_ λtm t0 t1=> ?_
 refine TA_.u ?_
 simp only[Vq,RR,SS]
 refine Ajg_.u ?_
 simp only[W3,RR,SS,Nat.reduceEqDiff, ↓reduceIte,Ap,t1]
 by_cases hneg:m<0
 ·refine aJ UL ?_ rfl (an hneg)
  refine Alz_.u ?_
  simp only[Lo_,RR,SS]
  refine aB (rs:=[4]) (vs:=[.int .i64 2]) rfl (.inl Aid_) J MO DI_ rfl Y ?_
  exact q1 hneg _ (Ext.refl (F:=Any) (G:=Non) s)
 ·refine aG UL ?_
  refine Akk_.u ?_
  simp only[GZ_,RR,SS,reduceCtorEq, ↓reduceIte,t0,Ab Im al]
  refine aI BB rfl hI0.r3 λs2 n2 x2 o2=> ?_
  have hI2:=hI0.own (room:=k.room) (N:=k.N) (fused:=true) (left:=k.left) (out:=k.out) x2 (λy _ h=>⟨by have:=h.1;omega,by have:=h.2;omega⟩) (hI0.r1.ext x2 (cR al)) (hI0.r2.ext x2 (cR al)) o2 (hI0.r4.ext x2 (cR al)) (hI0.r5.ext x2 (cR al))
  have y2:Ext Any (In R 0 6) (s.cxN cxN) s2:=x2.weak hb0 (λ_ _ _=>trivial) λy _ hq=>In6 ⟨by have:=hq.1;omega,by have:=hq.2;omega⟩
  refine AhJ_.u ?_
  simp only[Bk_,RR,SS,Nat.reduceEqDiff,reduceCtorEq, ↓reduceIte,t0,t1,Ab Jt al]
  refine aI Bv rfl hI2.r4 λs3 n3 x3 o3=> ?_
  have hI3:=hI2.own (room:=k.room) (N:=k.N) (fused:=true) (left:=m) (out:=k.out) x3 (λy _ h=>⟨by have:=h.1;omega,by have:=h.2;omega⟩) (hI2.r1.ext x3 (cR al)) (hI2.r2.ext x3 (cR al)) (hI2.r3.ext x3 (cR al)) o3 (hI2.r5.ext x3 (cR al))
  have y3:Ext Any (In R 0 6) (s.cxN cxN) s3:=y2.on x3 hb0 λy _ hq=>In6 ⟨by have:=hq.1;omega,by have:=hq.2;omega⟩
  refine AiX_.u ?_
  simp only[PV_,RR,SS]
  refine aB (rs:=[4]) (vs:=[.int .i64 0]) rfl (.inl Acq_) J MO DI_ y3.cx Y ?_
  exact q2 J _ y3.cx' (hI3.same rfl rfl)
theorem Apm_ (l:List Nat){i:Nat}(h:i<l.length):(l.take (i+1)).sum=(l.take i).sum+l[i]:=by
 rw[List.take_add_one,List.getElem?_eq_getElem h,List.sum_append]
 simp only[Option.toList,List.sum_cons,List.sum_nil,Nat.add_zero]
theorem Vw_ (l:List Nat)(i:Nat):(l.take i).sum<=l.sum:=by
 have e:l.sum=(l.take i).sum+(l.drop i).sum:=by
  conv=>lhs;rw[<-List.take_append_drop i l]
  rw[List.sum_append]
 omega
theorem YN_ {Q:Value×FrameMode->St->Prop}{s0:St}(hb0:s0.lim<=s0.next)(hI0:RkI s0 R k)(hl:k.ws.length<=1000)(hz:k.used<=5000000)(hcx:s0.cx=cxN)
  (q: ∀s1,Ext Any Non s0 s1->Q (.int .i64 (k.used:Nat), .run) s1):
  ∀(m i n:Nat) (tm:T Value) (s:St) (td:List Item),i+m=k.ws.length->10*m+20<=n->skim 64 td=KX->Ext Any Non s0 s->T.get tm 0=some (.pointer (some ⟨R,0,none⟩))->T.get tm 3=some (.int .i64 (((k.wl.map λf=>f.b.length).take i).sum:Nat))->T.get tm 4=some (.int .i64 (i:Nat))->
  W (runF envS n ⟨39,Wu_,EB,tm,td, .run, .normal,none⟩) s Q:=by
 intro m
 have hlen:(k.wl.map λf=>f.b.length).length=k.ws.length:=by rw[List.length_map,aH]
 induction m with
 |zero=>
  intro i n tm s td hi hn hT hx h0 h3 h4
  have hI:=hI0.ext0 hx
  refine Pa_.u ?_ hT
  simp only[O7,RR,SS,h0,h4,Ab AM al]
  refine aA AN hI.r0.at' ?_
  have y:=hx.thenRd hb0 (R+(0+0))
  simp only[Ap,hI.l.len AL]
  refine aG Ak_ ?_
  refine Uz_.u ?_
  simp only[Ei_,RR,SS,Nat.reduceEqDiff, ↓reduceIte,h3]
  refine aB (rs:=[2]) (vs:=[.int .i64 (((k.wl.map λf=>f.b.length).take i).sum:Nat)]) rfl (.inl AgY_) J Zv Aql_ (y.cx.trans hcx) Y ?_
  have e:((k.wl.map λf=>f.b.length).take i).sum=k.used:=by
   unfold RkS.used
   rw[List.take_of_length_le J]
  rw[e]
  exact q _ y
 |succ m ih=>
  intro i n tm s td hi hn hT hx h0 h3 h4
  have hI:=hI0.ext0 hx
  have hil:i<k.ws.length:=J
  refine Pa_.u ?_ hT
  simp only[O7,RR,SS,h0,h4,Ab AM al]
  refine aA AN hI.r0.at' ?_
  have y:=hx.thenRd hb0 (R+(0+0))
  have hI1:RkI (s.rdN (R+(0+0))) R k:=hI.same rfl rfl
  generalize s.rdN (R+(0+0))=s1 at *
  simp only[Ap,hI.l.len AL]
  refine aJ Ak_ ?_
  refine AoH_.u ?_
  obtain⟨c,ev,_,n1,_⟩:=hI1.l.at hil
  simp only[NK_,RR,SS,Nat.reduceEqDiff,reduceCtorEq, ↓reduceIte,h0,h3,h4,Ab AM al]
  refine aA AN hI1.r0.at' ?_
  have y2:=y.thenRd hb0 (R+(0+0))
  simp only[ev,AA AL hil,Ab CB al]
  refine aA A2 (n1.same rfl rfl).at' ?_
  have y3:=y2.thenRd hb0 (k.b+(0+i*3+1))
  have hB:=hI.bs _ (List.getElem_mem hil)
  have es:=Apm_ (k.wl.map λf=>f.b.length) (i:=i) J
  have eg:(k.wl.map λf=>f.b.length)[i]'J=k.ws[i].rf.b.length:=by
   rw[List.getElem_map,aM hil]
  rw[eg]at es
  have hle:=Vw_ (k.wl.map λf=>f.b.length) (i+1)
  have hle':((k.wl.map λf=>f.b.length).take (i+1)).sum<=k.used:=hle
  have ea:wrap64 ((((k.wl.map λf=>f.b.length).take i).sum:Nat)+(k.ws[i].rf.b.length:Nat):Int)=((((k.wl.map λf=>f.b.length).take (i+1)).sum:Nat):Int):=by
   rw[Bh J J];omega
  simp only[AY,Bs.lenq hB BH,ea]
  refine Ace_.u ?_
  have ei:=eiW (i:=i) J
  simp only[XL,RR,SS,Nat.reduceEqDiff, ↓reduceIte,AY,h4,ei]
  exact ih (i+1) _ _ _ _ J J AlC_ y3 (an h0) Y Y
theorem BH_ (hb:s.lim<=s.next)(hI:RkI s R k)(hl:k.ws.length<=1000)(hz:k.used<=5000000)(hn:10*k.ws.length+60<=n)(q: ∀s1,Ext Any Non s s1->Q (.int .i64 (k.used:Nat)) s1):
  W (Ac envS (runF envS n) 39 [.pointer (some ⟨R,0,none⟩)]) s Q:=by
 have hb0:(s.cxN cxN).lim<=(s.cxN cxN).next:=hb
 refine Afj_ λtm h0=> ?_
 refine AaJ_.u ?_
 simp only[ZC,RR,SS]
 refine AfU_.u ?_
 simp only[NE_,RR,SS]
 refine Ajx_.u ?_
 simp only[PH_,RR,SS]
 exact YN_ (s0:=s.cxN cxN) hb0 (hI.same rfl rfl) hl hz rfl (λs1 x1=>q _ x1.cx') k.ws.length 0 _ _ _ _ J J rfl (Ext.refl _) (an h0) Y Y
theorem PT_ (hb:s.lim<=s.next)(hI:RkI s R k)(hl:k.ws.length<=1000)(hz: ∀f∈k.ws,f.rf.b.length<=1000000)(hn:10*k.ws.length+100<=n)
  (q1:k.out=true-> ∀s1,Ext Any Non s s1->Q (.tuple #[.slice none 0 0, .int .i64 10]) s1)
  (q2:k.out=false->atW k.wl a=none-> ∀s1,Ext Any Non s s1->Q (.tuple #[.slice none 0 0, .int .i64 6]) s1)
  (q3:k.out=false-> ∀i (hi:i<k.ws.length),atW k.wl a=some i-> ∀s1 v,Ext Any Non s s1->Bs s1 v k.ws[i].rf.b->(∀x,BsF v x->s.next<=x)->Q (.tuple #[v, .int .i64 0]) s1):
  W (Ac envS (runF envS n) 44 [.pointer (some ⟨R,0,none⟩), .string a]) s Q:=by
 have hb0:(s.cxN cxN).lim<=(s.cxN cxN).next:=hb
 have hI0:RkI (s.cxN cxN) R k:=hI.same rfl rfl
 refine Air_ λtm h0 h1=> ?_
 refine Yv_.u ?_
 simp only[RY_,RR,SS]
 refine Aew_.u ?_
 simp only[KT_,RR,SS,Nat.reduceEqDiff,reduceCtorEq, ↓reduceIte,h0,h1]
 have out: ∀(i:Int) (n':Nat) (tm':T Value) (td:List Item) (s1:St),10*k.ws.length+60<=n'->skim 64 td=Rs->Ext Any Non (s.cxN cxN) s1->T.get tm' 0=some (.pointer (some ⟨R,0,none⟩))->T.get tm' 6=some (.int .i64 i)->(i<0/\atW k.wl a=none)\/(∃j:Nat,i=(j:Nat)/\atW k.wl a=some j)->W (runF envS n' ⟨44,Amm_,Ea,tm',td, .run, .normal,none⟩) s1 λp s1=>Q p.1 (s1.cxN s.cx):=by
  intro i n' tm' td s1 hn' hT x1 g0 g6 hi
  have hI1:=hI0.ext0 x1
  refine Ahj_.u ?_ hT
  simp only[EP_,RR,SS,g0,Ab E9 al]
  refine aA BB hI1.r5.at' ?_
  have y2:=x1.thenRd hb0 (R+(0+5))
  have hI2:RkI (s1.rdN (R+(0+5))) R k:=hI1.same rfl rfl
  generalize s1.rdN (R+(0+5))=s2 at *
  cases ho:k.out with
  |true=>
   refine aJ BB_ ?_
   refine VG_.u ?_
   simp only[Wt,RR,SS]
   refine aB (rs:=[4,5]) (vs:=[.slice none 0 0, .int .i64 10]) rfl (.inl DY_) J Li QX y2.cx Y ?_
   exact q1 ho _ y2.cx'
  |false=>
   refine aG BB_ ?_
   refine Adb_.u ?_
   simp only[Qz_,RR,SS,Nat.reduceEqDiff, ↓reduceIte,Ap,g6]
   rcases hi with⟨hneg,hat⟩|⟨j,rfl,hat⟩
   ·refine aJ ZD ?_ rfl (an hneg)
    refine Ajb_.u ?_
    simp only[Wv,RR,SS]
    refine aB (rs:=[4,5]) (vs:=[.slice none 0 0, .int .i64 6]) AhM_ (.inl DY_) J Li QX y2.cx Y ?_
    exact q2 ho hat _ y2.cx'
   ·have hj:j<k.ws.length:=by
     obtain⟨h,_⟩:=CO hat
     rwa [aH]at h
    refine aG ZD ?_
    refine AjQ_.u ?_
    simp only[Tj,RR,SS,Nat.reduceEqDiff,reduceCtorEq, ↓reduceIte,g0,g6,Ab AM al]
    refine aQ (y2.bnd hb0) (r:=[]) Lm al rfl (BD al) λs3 n3 x3 r3=> ?_
    have y3:=y2.on x3 hb0 λ_ _ h=>h
    have hI3:=hI2.ext0 x3
    refine aA AN hI3.r0.at' ?_
    have y4:=y3.thenRd hb0 (R+(0+0))
    have hI4:RkI (s3.rdN (R+(0+0))) R k:=hI3.same rfl rfl
    generalize s3.rdN (R+(0+0))=s4 at *
    obtain⟨c,ev,_,n1,_⟩:=hI4.l.at hj
    simp only[ev,AA AL hj,Ab CB al]
    refine aA A2 n1.at' ?_
    have y5:=y4.thenRd hb0 (k.b+(0+j*3+1))
    have hB:=(hI4.bs _ (List.getElem_mem hj)).same (s':=s4.rdN (k.b+(0+j*3+1))) rfl rfl
    refine W.appBy (y5.bnd hb0) (EmB.nil (b:=s2.next)) hB (by have:=hz _ (List.getElem_mem hj);simpa using this) λs6 v6 b6 hb6 h6 x6=> ?_
    have y6:=y5.on x6 hb0 λy hy h=>absurd h.1 am
    have h2:=y2.nxt
    have h5:=y5.nxt
    have hbb:s.next<=b6:=by
     have h2':s.next<=s2.next:=h2
     have h5':s.next<=(s4.rdN (k.b+(0+j*3+1))).next:=h5
     rcases hb6 with h|h<;>omega
    rw[List.nil_append]at h6
    refine aB (rs:=[4,5]) (vs:=[v6, .int .i64 0]) rfl (.inl ApR_) J Li QX y6.cx Y ?_
    exact q3 ho j hj hat _ v6 y6.cx' ((h6.bs (Nat.lt_of_le_of_lt (hz _ (List.getElem_mem hj)) al)).same rfl rfl) λx hx=>by have:=h6.f hx;omega
 refine EA hb0 hI0 hl J (λhat s1 x1=> ?_) λj hat s1 x1=> ?_
 ·try simp only[SS,Nat.reduceEqDiff,reduceCtorEq, ↓reduceIte]
  exact out (-1) _ _ _ _ J rfl x1 (an h0) Y (.inl ⟨al,hat⟩)
 ·try simp only[SS,Nat.reduceEqDiff,reduceCtorEq, ↓reduceIte]
  exact out (j:Nat) _ _ _ _ J rfl x1 (an h0) Y (.inr ⟨j,rfl,hat⟩)
end
theorem P2:elT envS 58=some (3,48,[.string ⟨#[]⟩, .slice none 0 0, .int .i64 0]):=X
theorem SS_ (ws:List RW)(i:Nat)(h:i<=ws.length):(Ay ws).take (i*3)=Ay (ws.take i):=by
 conv=>lhs;rw[<-List.take_append_drop i ws,GV]
 rw[List.take_left' (by rw[Dx,List.length_take];congr 1;omega)]
theorem WV_ (ws:List RW)(i:Nat)(h:i<=ws.length):(Ay ws).drop (i*3)=Ay (ws.drop i):=by
 conv=>lhs;rw[<-List.take_append_drop i ws,GV]
 rw[List.drop_left' (by rw[Dx,List.length_take];congr 1;omega)]
theorem H0 {ws:List RW}(hv: ∀f∈ws,oneCell f.v=true):(Ay ws).all oneCell=true:=by
 induction ws with
 |nil=>rfl
 |cons f l ih=>
  show(true&&(oneCell f.v&&(true&&(Ay l).all oneCell)))=true
  rw[hv f am,ih λg hg=>hv g (by simp[hg])]
  rfl
theorem Ext.monoF {F F' G:Nat->Prop}{s s':St}(h:Ext F' G s s')(hF: ∀x,F' x->F x):Ext F G s s':=
 ⟨h.nxt,h.lim,h.cx,h.mem,let ⟨d,e,q⟩:=h.rd;⟨d,e,λx hx=>⟨(q x hx).1,hF x (q x hx).2⟩⟩,h.wr⟩
theorem Ct {sz b x:Nat}(h:MkF sz 0 b x):False:=absurd h.1 (Nat.lt_irrefl 0)
section
variable {n R:Nat}{s:St}{k:RkS}{a:ByteArray}{Q:Value->St->Prop}
theorem RkI.one (hI:RkI s R k): ∀f∈k.ws,oneCell f.v=true:=λf hf=>(hI.bs f hf).oneq
theorem LR.srcT {s:St}{L:Value}{b i:Nat}{ws:List RW}(h:LR s L b ws)(hi:i<=ws.length)(hz:ws.length<capU)(hp:0<ws.length): ∃v,(∀(s':St) (Q:Value->St->Prop),W (AZ envS 58 L none (some (.int .i64 (i:Nat)))) s' Q=Q v s')/\Src s 3 v i (Ay (ws.take i)) (MkF 3 ws.length b):=by
 have m:=h.mk hp
 have e:=m.val
 have hc:(capU*((b+ws.length*3)*1024+3)+ws.length)%capU=ws.length:=EZ hz
 have hok:Bu (capU*((b+ws.length*3)*1024+3)+ws.length) 3=true:=D9 hz al
 generalize capU*((b+ws.length*3)*1024+3)+ws.length=C at *
 refine⟨.slice (some ⟨b,0,none⟩) i (C-0),λs' Q=> ?_, ?_⟩
 ·rw[e]
  rw[CW (l:=0) (h:=i) (lo:=none) (hi:=some (.int .i64 (i:Nat))) AL rfl rfl (Nat.zero_le _) J hok Q]
  rw[if_pos (show 0<C%capU by omega)]
  rfl
 ·have r:Row s b 0 (Ay (ws.take i)):=by
   rw[<-SS_ ws i hi]
   exact m.own.take.row
  obtain⟨h1,s1,h2,h3,h4,h5⟩:=FQ (n:=i) (c:=C-0) r (by rw[Dx,List.length_take];congr 1;omega)
  refine⟨h1,s1,h2,h3,h4,h5.monoF λx hx=>⟨hp,by have:=hx.1;omega, ?_⟩⟩
  have h6:x<b+0+i*3:=hx.2
  have h7:i*3<=ws.length*3:=Nat.mul_le_mul_right 3 hi
  omega
theorem LR.srcD {s:St}{L:Value}{b i:Nat}{ws:List RW}(h:LR s L b ws)(hi:i<=ws.length)(hz:ws.length<capU)(hp:0<ws.length): ∃v,(∀(s':St) (Q:Value->St->Prop),W (AZ envS 58 L (some (.int .i64 (i:Nat))) none) s' Q=Q v s')/\Src s 3 v (ws.length-i) (Ay (ws.drop i)) (MkF 3 ws.length b):=by
 have m:=h.mk hp
 have e:=m.val
 have hc:(capU*((b+ws.length*3)*1024+3)+ws.length)%capU=ws.length:=EZ hz
 have hok:Bu (capU*((b+ws.length*3)*1024+3)+ws.length) 3=true:=D9 hz al
 generalize capU*((b+ws.length*3)*1024+3)+ws.length=C at *
 refine⟨.slice (some ⟨b,if i<C%capU then 0+i*3 else 0,none⟩) (ws.length-i) (C-i),λs' Q=> ?_, ?_⟩
 ·rw[e]
  exact CW (l:=i) (h:=ws.length) (lo:=some (.int .i64 (i:Nat))) (hi:=none) AL rfl rfl hi J hok Q
 ·rw[hc]
  have hlen:(Ay (ws.drop i)).length=(ws.length-i)*3:=by rw[Dx,List.length_drop]
  by_cases c:i<ws.length
  ·rw[if_pos c]
   have r:Row s b (0+i*3) (Ay (ws.drop i)):=by
    rw[<-WV_ ws i hi]
    exact m.own.drop.row
   obtain⟨h1,s1,h2,h3,h4,h5⟩:=FQ (n:=ws.length-i) (c:=C-i) r hlen
   refine⟨h1,s1,h2,h3,h4,h5.monoF λx hx=>⟨hp,by have:=hx.1;omega, ?_⟩⟩
   have h6:x<b+(0+i*3)+(ws.length-i)*3:=hx.2
   have h7:i*3+(ws.length-i)*3=ws.length*3:=by rw[<-Nat.add_mul];congr 1;omega
   omega
  ·have e0:ws.drop i=[]:=List.drop_eq_nil_of_le J
   rw[if_neg c]
   have r:Row s b 0 (Ay (ws.drop i)):=by
    rw[e0]
    exact λj u e=>by cases e
   obtain⟨h1,s1,h2,h3,h4,h5⟩:=FQ (n:=ws.length-i) (c:=C-i) r hlen
   refine⟨h1,s1,h2,h3,h4,h5.monoF λx hx=> ?_⟩
   have h6:x<b+0+(ws.length-i)*3:=hx.2
   have h8:b+0<=x:=hx.1
   have h7:ws.length-i=0:=J
   rw[h7]at h6
   omega
theorem ZJ_:Yj_=[]:=X
theorem Ss (hb:s.lim<=s.next)(hI:RkI s R k)(hl:k.ws.length<=1000){i:Nat}(hi:i<k.ws.length)(hn:20<=n)(q: ∀s1 L' b',Ext Any (In R 0 6) s s1->RkI s1 R {k with ws:=k.ws.eraseIdx i,L:=L',b:=b'}->s.next<=b'->Q (.tuple #[]) s1):
  W (Ac envS (runF envS n) 58 [.pointer (some ⟨R,0,none⟩), .int .i64 (i:Nat)]) s Q:=by
 have hb0:(s.cxN cxN).lim<=(s.cxN cxN).next:=hb
 have hI0:RkI (s.cxN cxN) R k:=hI.same rfl rfl
 have hcx:(s.cxN cxN).cx=cxN:=rfl
 have hn0:(s.cxN cxN).next=s.next:=rfl
 refine Anb_ λtm h0 h1=> ?_
 refine Alw_.u ?_
 generalize hs0:s.cxN cxN=s0 at *
 have hp:0<k.ws.length:=J
 have hzc:k.ws.length<capU:=Nat.lt_of_le_of_lt hl al
 have ho:=hI0.one
 have hR:R+6<=s0.next:=by have:=hI0.r5.1;omega
 have lF:=hI0.l.lt
 simp only[EZ_,RR,h0,h1,Aa,Aj,EN,A3,A0,AW,Cb]
 refine aO (aQ (s:=oSt s0.mem s0.next) (Nat.le_refl _) (r:=[]) P2 al rfl (BD al) λs1 n1 x1 o1=>⟨Non,x1,λrd1 hr1=> ?_⟩)
 obtain rfl:=CU (λx hx=>(hr1 x hx).2)
 have n1':s1.next=s0.next+1:=n1
 have eb:(oSt s0.mem s0.next).next=s0.next:=rfl
 rw[eb]
 try simp only[Aa]
 refine Eq.mpr (Aj _ _ _ _ _) ?_
 dsimp only
 try simp only[Aa]
 rw[W_dq λs Q=>AD (s:=s) _ Q]
 dsimp only
 try simp only[Aa]
 rw[W_dq λs Q=>Ab (s:=s) AM al Q]
 dsimp only
 try simp only[Aa]
 have hI1:RkI s1 R k:=(hI0.same (s':=oSt s0.mem s0.next) rfl rfl).ext0 x1
 refine aD AN ((hI1.r0.same (s':=dSt s1.mem s1.next) rfl rfl).at') λrd5 hr5=> ?_
 try simp only[Aa]
 refine Eq.mpr (Aj _ _ _ _ _) ?_
 dsimp only
 try simp only[Aa,Cb,AW,A0,A3]
 obtain⟨vT,eT,sT⟩:=(hI1.l.same (s':=oSt s1.mem s1.next) rfl rfl).srcT (i:=i) J hzc hp
 rw[W_dq λs Q=>Eq.to_iff (eT s Q) |> propext]
 dsimp only
 try simp only[Aa,A0,A3,AW]
 refine aS ?_
 rw[DL]
 refine W.appE (s:=oSt s1.mem s1.next) (Nat.le_refl _) HO (n:=i) (len:=0) (old:=[]) (.inl ⟨rfl,rfl,rfl⟩) sT.g al al J (by rw[Dx,List.length_take];congr 1;omega) (H0 λf hf=>ho f (List.mem_of_mem_take hf)) λs8 v8 b8 hb8 m8 x8=>⟨_,_,x8,λrd8 wr8 hr8 hw8=> ?_⟩
 rw[Nat.zero_add,List.nil_append]at m8
 obtain rfl:=CU (λx hx=>Ct (hw8 x hx).2)
 have x8':Ext Any Non (oSt s1.mem s1.next) s8:=(x8.monoF λ_ _=>trivial).gw (Nat.le_refl _) λ_ _ h=>(Ct h).elim
 have hI8:RkI s8 R k:=(hI1.same (s':=oSt s1.mem s1.next) rfl rfl).ext0 x8'
 have n8:s1.next<=s8.next:=x8.nxt
 try simp only[Aa]
 refine Eq.mpr (Aj _ _ _ _ _) ?_
 dsimp only
 try simp only[Aa]
 rw[W_dq λs Q=>AD (s:=s) _ Q]
 dsimp only
 try simp only[Aa]
 rw[W_dq λs Q=>Ab (s:=s) AM al Q]
 dsimp only
 try simp only[Aa]
 refine aD AN ((hI8.r0.same (s':=dSt s8.mem s8.next) rfl rfl).at') λrd12 hr12=> ?_
 try simp only[Aa]
 refine Eq.mpr (Aj _ _ _ _ _) ?_
 dsimp only
 try simp only[Aa,Cb,AW,A0,A3]
 have ei:=eiW (i:=i) J
 rw[W_dq λs Q=>Hr (s:=s) _ _ Q,ei]
 dsimp only
 try simp only[Aa,Cb,AW,A0,A3]
 obtain⟨vD,eD,sD⟩:=(hI8.l.same (s':=oSt s8.mem s8.next) rfl rfl).srcD (i:=i+1) J hzc hp
 rw[W_dq λs Q=>eD s Q]
 dsimp only
 try simp only[Aa,A0,A3,AW]
 refine aS ?_
 rw[DL]
 refine W.appE (s:=oSt s8.mem s8.next) (Nat.le_refl _) HO (m8.same rfl rfl) sD.g al al J (by rw[Dx,List.length_drop]) (H0 λf hf=>ho f (List.mem_of_mem_drop hf)) λs16 v16 b16 hb16 m16 x16=>⟨_,_,x16,λrd16 wr16 hr16 hw16=> ?_⟩
 have n16:s8.next<=s16.next:=x16.nxt
 try simp only[Aa]
 rw[W_dq λs Q=>AD (s:=s) _ Q]
 dsimp only
 try simp only[Aa]
 rw[W_dq λs Q=>Ab (s:=s) AM al Q,AI]
 have e5: ∀x∈rd5,x=R:=λx h=>by have:=hr5 x h;omega
 have e12: ∀x∈rd12,x=R:=λx h=>by have:=hr12 x h;omega
 have hb8':s0.next<=b8:=by
  rcases hb8 with h|h
  ·rw[h];exact Nat.le_refl _
  ·have h':s1.next<=b8:=h
   omega
 have hb16':s0.next<=b16:=by
  rcases hb16 with h|h
  ·rw[h];exact hb8'
  ·have h':s8.next<=b16:=h
   omega
 have w16: ∀x∈wr16,s0.next<=x:=λx h=>by
  have h1:=(hw16 x h).2.2.1
  omega
 have r8: ∀x∈rd8,x<s0.next:=λx h=>by
  rcases(hr8 x h).2 with h1|h1
  ·exact lF x h1
  ·exact(Ct h1).elim
 refine⟨CP ?_, ?_⟩
 ·simp only[List.reverse_cons,List.reverse_nil,List.nil_append,List.cons_append,allP,BS,List.take,Cu]
  have lts: ∀x,s0.next<=x-> ¬x<s0.next:=λx h=>J
  have lt1: ∀x,x<s0.next-> ¬s0.next<=x:=λx h=>J
  have g5: ∀x∈rd5,¬s0.next<=x:=λx h=>by have:=e5 x h;omega
  have g12: ∀x∈rd12,¬s0.next<=x:=λx h=>by have:=e12 x h;omega
  have g8: ∀x∈rd8,¬s0.next<=x:=λx h=>by have:=r8 x h;omega
  have g16: ∀x∈wr16,x∉rd5/\x∉rd12/\x∉rd8:=λx h=>⟨λq=>g5 x q (w16 x h),λq=>g12 x q (w16 x h),λq=>g8 x q (w16 x h)⟩
  simp+contextual [lts,lt1,g5,g12,g8,g16]
  exact⟨.inl rfl, .inl rfl⟩
 ·refine aK (Ank_ _ _ _ _ _ _ _ _ _ _ _ _ _ _ _ _ _ _ _ _ _ _ _ _) ?_
  simp only[SS]
  generalize hs':(⟨(dSt s16.mem s16.next).mem,(dSt s16.mem s16.next).next,s0.lim,_,_,s0.cx⟩:St)=s7
  have m7:s7.mem=s16.mem:=by rw[<-hs'];rfl
  have n7:s7.next=s16.next:=by rw[<-hs'];rfl
  have x7:Ext Any Non s0 s7:=by
   rw[<-hs']
   refine aU (by show s0.next<=s16.next;omega) (λx hx _=> ?_) ?_ λ_ _ _ _ _=>trivial
   ·have h1:T.get s16.mem x=T.get s8.mem x:=x16.mem x (by show x<s8.next;omega) λh=>by have:=h.2.1;omega
    have h2:T.get s8.mem x=T.get s1.mem x:=x8'.mem x (by show x<s1.next;omega) λh=>h
    have h3:T.get s1.mem x=T.get s0.mem x:=x1.mem x hx λh=>h
    show T.get s16.mem x=_
    rw[h1,h2,h3]
   ·simp only[List.mem_cons,List.not_mem_nil,or_false]
    rintro m hm x hx hxl
    have hw:x∈wr16:=by
     rcases hm with rfl|rfl|rfl|rfl|rfl|rfl|rfl|rfl|rfl|rfl|rfl|rfl|rfl|rfl|rfl|rfl|rfl|rfl|rfl<;>first|exact hx|(cases hx;done)
    have:=w16 x hw
    omega
  have hI7:=hI0.ext0 x7
  refine aI AN (by obtain⟨c,e,_⟩:=m16.row;rw[e];rfl) (hI7.r0.same rfl rfl) λs9 n9 x9 o9=> ?_
  have z9:Ext Any (λy=>y=R) s7 s9:=x9.weak (x7.bnd hb0) (λ_ _ _=>trivial) λy _ hq=>by have h1:=hq.1;have h2:=hq.2;omega
  have y9:Ext Any (In R 0 6) s0 s9:=(x7.gw hb0 λ_ _ h=>h.elim).on z9 hb0 λy _ h=>by subst h;exact In6 ⟨J,J⟩
  refine aB (rs:=[]) (vs:=[]) rfl (.inr ZJ_) J UA Uc_ (y9.cx.trans hcx) rfl ?_
  have ee:k.ws.eraseIdx i=k.ws.take i++k.ws.drop (i+1):=List.eraseIdx_eq_take_drop_succ ..
  have el:(k.ws.eraseIdx i).length=i+(k.ws.length-(i+1)):=by rw[List.length_eraseIdx_of_lt hi];omega
  have hm:EmS s9 3 (k.ws.eraseIdx i).length (Ay (k.ws.eraseIdx i)) v16 b16:=by
   rw[el,ee,GV]
   rcases m16 with h|⟨h,h0⟩
   ·exact .inl h
   ·exact .inr ⟨(h.same m7 n7).ext z9 λx hx hq=>by have h1:=hx.1;omega,h0⟩
  have sub: ∀f∈k.ws.eraseIdx i,f∈k.ws:=λf hf=>List.mem_of_mem_eraseIdx hf
  have hI9:RkI s9 R {k with ws:=k.ws.eraseIdx i,L:=v16,b:=b16}:=⟨o9,hI7.r1.ext z9 J,hI7.r2.ext z9 J,hI7.r3.ext z9 J,hI7.r4.ext z9 J,hI7.r5.ext z9 J, .inr hm,λf hf=>(hI7.bs f (sub f hf)).ext z9 λx hx h=>by have h1:=(hI0.br f (sub f hf) x hx).1;have h2:x=R:=h;omega,λf hf x hx=>Nat.lt_of_lt_of_le (hI7.bl f (sub f hf) x hx) z9.nxt,λx hx=>by have h1:b16+0<=x:=hx.2.1;omega,λf hf x hx=>⟨(hI0.br f (sub f hf) x hx).1,λh=>by have h1:=hI0.bl f (sub f hf) x hx;have h2:b16+0<=x:=h.2.1;omega⟩⟩
  rw[<-hs0]at y9
  exact q _ v16 b16 y9.cx' (hI9.same rfl rfl) J
end
theorem src0 {s:St}{F:Nat->Prop}:Src s 3 (.slice none 0 0) 0 [] F:=⟨⟨_,_,rfl⟩,s,rfl,rfl,rfl,Ext.refl s⟩
theorem Ox_ {s:St}{a:Addr}{c:Nat}{F:Nat->Prop}:Src s 3 (.slice (some a) 0 c) 0 [] F:=⟨⟨_,_,rfl⟩,s,rfl,rfl,rfl,Ext.refl s⟩
theorem EmS.ext0 {F:Nat->Prop}{s s':St}{sz n:Nat}{l:List Value}{v:Value}{b:Nat}(h:EmS s sz n l v b)(e:Ext F Non s s'):EmS s' sz n l v b:=by
 rcases h with h|⟨h,h0⟩
 ·exact .inl h
 ·exact .inr ⟨h.ext e λ_ _ g=>g,h0⟩
theorem LR.emp {s:St}{L:Value}{b:Nat}(h:LR s L b []):L= .slice none 0 0\/L= .slice (some ⟨b,0,none⟩) 0 0:=by
 rcases h with⟨h,_⟩|⟨h,_⟩|⟨_,h⟩
 ·exact .inl h
 ·exact .inr h
 ·exact absurd h am
theorem LR.srcTT {s:St}{L:Value}{b i:Nat}{ws:List RW}(h:LR s L b ws)(hi:i<=ws.length)(hz:ws.length<capU): ∃v,(∀(s':St) (Q:Value->St->Prop),W (AZ envS 58 L none (some (.int .i64 (i:Nat)))) s' Q=Q v s')/\Src s 3 v i (Ay (ws.take i)) (MkF 3 ws.length b):=by
 cases ws with
 |cons f l=>exact h.srcT hi hz am
 |nil=>
  obtain rfl:i=0:=by simpa using hi
  rcases h.emp with rfl|rfl
  ·exact⟨.slice none 0 0,λs' Q=>HT (lo:=none) (hi:=some (.int .i64 ((0:Nat):Int))) AL rfl rfl Q,src0⟩
  ·refine⟨_,λs' Q=>CW (l:=0) (h:=0) (lo:=none) (hi:=some (.int .i64 ((0:Nat):Int))) AL rfl rfl (Nat.le_refl _) (Nat.zero_le _) (Eg (by unfold capU;decide)) Q,Ox_⟩
theorem LR.srcDD {s:St}{L:Value}{b i:Nat}{ws:List RW}(h:LR s L b ws)(hi:i<=ws.length)(hz:ws.length<capU): ∃v,(∀(s':St) (Q:Value->St->Prop),W (AZ envS 58 L (some (.int .i64 (i:Nat))) none) s' Q=Q v s')/\Src s 3 v (ws.length-i) (Ay (ws.drop i)) (MkF 3 ws.length b):=by
 cases ws with
 |cons f l=>exact h.srcD hi hz am
 |nil=>
  obtain rfl:i=0:=by simpa using hi
  rcases h.emp with rfl|rfl
  ·exact⟨.slice none 0 0,λs' Q=>HT (lo:=some (.int .i64 ((0:Nat):Int))) (hi:=none) AL rfl rfl Q,src0⟩
  ·refine⟨_,λs' Q=>CW (l:=0) (h:=0) (lo:=some (.int .i64 ((0:Nat):Int))) (hi:=none) AL rfl rfl (Nat.le_refl _) (Nat.zero_le _) (Eg (by unfold capU;decide)) Q,Ox_⟩
def RW.val (f:RW):Value:= .agg #[.string f.rf.name,f.v, .int .i64 (f.rf.safe:Nat)]
def insR (ws:List RW)(p:Nat)(f:RW):List RW:=ws.take p++f::ws.drop p
theorem OE_ (ws:List RW)(f:RW):(insR ws (A9 (ws.map RW.rf) f.rf.name) f).map RW.rf=insW (ws.map RW.rf) f.rf:=by
 rw[Lg]
 unfold insR
 rw[List.map_append,List.map_take,List.map_cons,List.map_drop]
theorem AkI_:WL_=[]:=X
theorem AjL_ (f:RW):CY (λk=>some (k*3,3)) [(0,f.val)] (rep 1 [.string ⟨#[]⟩, .slice none 0 0, .int .i64 0])=some (Ay [f]):=by
 unfold RW.val
 rfl
section
variable {n R:Nat}{s:St}{k:RkS}{f:RW}{Q:Value->St->Prop}
theorem HE_ (hb:s.lim<=s.next)(hI:RkI s R k)(hl:k.ws.length<=900)(hB:Bs s f.v f.rf.b)(hBF: ∀x,BsF f.v x->x<s.next/\R+6<=x)(hn:10*k.ws.length+100<=n)(q: ∀s1 L' b',Ext Any (In R 0 6) s s1->RkI s1 R {k with ws:=insR k.ws (A9 k.wl f.rf.name) f,L:=L',b:=b'}->s.next<=b'->Q (.tuple #[]) s1):
  W (Ac envS (runF envS n) 59 [.pointer (some ⟨R,0,none⟩),f.val]) s Q:=by
 have hb0:(s.cxN cxN).lim<=(s.cxN cxN).next:=hb
 have hI00:RkI (s.cxN cxN) R k:=hI.same rfl rfl
 have hcx:(s.cxN cxN).cx=cxN:=rfl
 refine Ahm_ λtm h0 h1=> ?_
 refine AqL_.u ?_
 simp only[Ah_,RR,SS,h1]
 unfold RW.val
 refine W.box λsa na xa oa=> ?_
 rw[FP]at na oa
 have ea:(s.cxN cxN).next=s.next:=rfl
 rw[ea]at oa na ⊢
 have na':sa.next=s.next+4:=na
 have ya:Ext Any Non (s.cxN cxN) sa:=xa.weak hb0 (λ_ _ _=>trivial) λ_ _ h=>h
 have hIa:=hI00.ext0 ya
 refine AjK_.u ?_
 simp only[VO,RR,SS,reduceCtorEq, ↓reduceIte,h0,Ab Gy al]
 refine aA AQ (oa 0 (.string f.rf.name) rfl).at' ?_
 have yb:=ya.thenRd hb0 (s.next+(0+0))
 have hIb:RkI (sa.rdN (s.next+(0+0))) R k:=hIa.same rfl rfl
 have ob:Ai (sa.rdN (s.next+(0+0))) s.next 0 [.string f.rf.name,f.v, .int .i64 (f.rf.safe:Nat)]:=λi u e=>(oa i u e).same rfl rfl
 have nb':(sa.rdN (s.next+(0+0))).next=s.next+4:=na'
 generalize sa.rdN (s.next+(0+0))=sb at *
 refine AnO_ (yb.bnd hb0) hIb J J λs0 x0=> ?_
 have y0:=yb.on x0 hb0 λ_ _ h=>h
 have hI0:=hIb.ext0 x0
 have o0:Ai s0 s.next 0 [.string f.rf.name,f.v, .int .i64 (f.rf.safe:Nat)]:=ob.ext0 x0
 have n0:s.next+4<=s0.next:=by have:=x0.nxt;omega
 have hbs0:s0.lim<=s0.next:=y0.bnd hb0
 have hp:A9 k.wl f.rf.name<=k.ws.length:=by have:=NJ_ k.wl f.rf.name;rwa [aH]at this
 generalize A9 k.wl f.rf.name=i at *
 refine Aht_.u ?_
 have hzc:k.ws.length<capU:=Nat.lt_of_le_of_lt (show _<=1000 by omega) al
 have ho:=hI0.one
 have hfo:oneCell f.v=true:=hB.oneq
 have hR:R+6<=s0.next:=by have:=hI0.r5.1;omega
 have lF:=hI0.l.lt
 have h0c:s0.cx=cxN:=y0.cx.trans hcx
 simp only[TP,RR,T.get_set,Nat.reduceEqDiff,reduceIte,h0,Aa,Aj,EN,A3,A0,AW,Cb]
 refine aO (aQ (s:=oSt s0.mem s0.next) (Nat.le_refl _) (r:=[]) P2 al rfl (BD al) λs1 n1 x1 o1=>⟨Non,x1,λrd1 hr1=> ?_⟩)
 obtain rfl:=CU (λx hx=>(hr1 x hx).2)
 have n1':s1.next=s0.next+1:=n1
 have eb:(oSt s0.mem s0.next).next=s0.next:=rfl
 rw[eb]
 try simp only[Aa]
 refine Eq.mpr (Aj _ _ _ _ _) ?_
 dsimp only
 try simp only[Aa]
 rw[W_dq λs Q=>AD (s:=s) _ Q]
 dsimp only
 try simp only[Aa]
 rw[W_dq λs Q=>Ab (s:=s) AM al Q]
 dsimp only
 try simp only[Aa]
 have hI1:RkI s1 R k:=(hI0.same (s':=oSt s0.mem s0.next) rfl rfl).ext0 x1
 refine aD AN ((hI1.r0.same (s':=dSt s1.mem s1.next) rfl rfl).at') λrd5 hr5=> ?_
 try simp only[Aa]
 refine Eq.mpr (Aj _ _ _ _ _) ?_
 dsimp only
 try simp only[Aa,Cb,AW,A0,A3]
 obtain⟨vT,eT,sT⟩:=(hI1.l.same (s':=oSt s1.mem s1.next) rfl rfl).srcTT (i:=i) hp hzc
 rw[W_dq λs Q=>eT s Q]
 dsimp only
 try simp only[Aa,A0,A3,AW]
 refine aS ?_
 rw[DL]
 refine W.appE (s:=oSt s1.mem s1.next) (Nat.le_refl _) HO (n:=i) (len:=0) (old:=[]) (.inl ⟨rfl,rfl,rfl⟩) sT.g al al J (by rw[Dx,List.length_take];congr 1;omega) (H0 λf hf=>ho f (List.mem_of_mem_take hf)) λs8 v8 b8 hb8 m8 x8=>⟨_,_,x8,λrd8 wr8 hr8 hw8=> ?_⟩
 rw[Nat.zero_add,List.nil_append]at m8
 obtain rfl:=CU (λx hx=>Ct (hw8 x hx).2)
 have x8':Ext Any Non (oSt s1.mem s1.next) s8:=(x8.monoF λ_ _=>trivial).gw (Nat.le_refl _) λ_ _ h=>(Ct h).elim
 have hI8:RkI s8 R k:=(hI1.same (s':=oSt s1.mem s1.next) rfl rfl).ext0 x8'
 have n8:s1.next<=s8.next:=x8.nxt
 have o8:Ai s8 s.next 0 [.string f.rf.name,f.v, .int .i64 (f.rf.safe:Nat)]:=Ai.ext0 (λi u e=>((Ai.ext0 (λi u e=>(o0 i u e).same (s':=oSt s0.mem s0.next) rfl rfl) x1) i u e).same (s':=oSt s1.mem s1.next) rfl rfl) x8'
 try simp only[Aa]
 refine aO (W.loadA (s:=oSt s8.mem s8.next) (l:=[.string f.rf.name,f.v, .int .i64 (f.rf.safe:Nat)]) Hp (λi u e=>((o8 i u e).same (s':=oSt s8.mem s8.next) rfl rfl).at') rfl λs9 m9 n9 x9=>⟨_,x9,λrd9 hr9=> ?_⟩)
 have m9':s9.mem=s8.mem:=m9
 have n9':s9.next=s8.next:=n9
 rw[m9',n9']
 try simp only[Aa,LL,EN,AW]
 refine aO (aQ (s:=oSt s8.mem s8.next) (Nat.le_refl _) (r:=Ay [f]) P2 al (AjL_ f) (BD al) λs10 n10 x10 o10=>⟨Non,x10,λrd10 hr10=> ?_⟩)
 obtain rfl:=CU (λx hx=>(hr10 x hx).2)
 have n10':s10.next=s8.next+4:=n10
 have eb8:(oSt s8.mem s8.next).next=s8.next:=rfl
 rw[eb8]
 rw[eb8]at o10
 try simp only[Aa]
 have m10:=(m8.same (s':=oSt s8.mem s8.next) rfl rfl).ext0 x10
 have hI10:RkI s10 R k:=(hI8.same (s':=oSt s8.mem s8.next) rfl rfl).ext0 x10
 refine aS ?_
 rw[DL]
 refine W.appE (s:=oSt s10.mem s10.next) (Nat.le_refl _) HO (m10.same (s':=oSt s10.mem s10.next) rfl rfl) (FQ (s:=oSt s10.mem s10.next) (n:=1) (c:=1) (b:=s8.next) (o:=0) (l:=Ay [f]) (λi u e=>((o10 i u e).same (s':=oSt s10.mem s10.next) rfl rfl).at') rfl).g al al J rfl (H0 λg hg=>by rw[List.mem_singleton.1 hg];exact hfo) λs11 v11 b11 hb11 m11 x11=>⟨_,_,x11,λrd11 wr11 hr11 hw11=> ?_⟩
 rw[<-GV]at m11
 have hb8':s0.next<=b8:=by
  rcases hb8 with h|h
  ·rw[h];exact Nat.le_refl _
  ·have h':s1.next<=b8:=h
   omega
 have hb11':s0.next<=b11:=by
  rcases hb11 with h|h
  ·rw[h];exact hb8'
  ·have h':s10.next<=b11:=h
   omega
 have n11:s10.next<=s11.next:=x11.nxt
 have hI11:RkI s11 R k:=(hI10.same (s':=oSt s10.mem s10.next) rfl rfl).ext (x11.monoF (F:=Any) λ_ _=>trivial) λx _ hF g=>by
  have h1:=hI0.lt x hF
  have h2:b8+0<=x:=g.2.1
  omega
 try simp only[Aa]
 refine Eq.mpr (Aj _ _ _ _ _) ?_
 dsimp only
 try simp only[Aa]
 rw[W_dq λs Q=>AD (s:=s) _ Q]
 dsimp only
 try simp only[Aa]
 rw[W_dq λs Q=>Ab (s:=s) AM al Q]
 dsimp only
 try simp only[Aa]
 refine aD AN ((hI11.r0.same (s':=dSt s11.mem s11.next) rfl rfl).at') λrd15 hr15=> ?_
 try simp only[Aa]
 refine Eq.mpr (Aj _ _ _ _ _) ?_
 dsimp only
 try simp only[Aa,Cb,AW,A0,A3]
 obtain⟨vD,eD,sD⟩:=(hI11.l.same (s':=oSt s11.mem s11.next) rfl rfl).srcDD (i:=i) hp hzc
 rw[W_dq λs Q=>eD s Q]
 dsimp only
 try simp only[Aa,A0,A3,AW]
 refine aS ?_
 rw[DL]
 refine W.appE (s:=oSt s11.mem s11.next) (Nat.le_refl _) HO (m11.same (s':=oSt s11.mem s11.next) rfl rfl) sD.g al al J (by rw[Dx,List.length_drop]) (H0 λg hg=>ho g (List.mem_of_mem_drop hg)) λs16 v16 b16 hb16 m16 x16=>⟨_,_,x16,λrd16 wr16 hr16 hw16=> ?_⟩
 have n16:s11.next<=s16.next:=x16.nxt
 try simp only[Aa]
 rw[W_dq λs Q=>AD (s:=s) _ Q]
 dsimp only
 try simp only[Aa]
 rw[W_dq λs Q=>Ab (s:=s) AM al Q,AI]
 have e5: ∀x∈rd5,x=R:=λx h=>by have:=hr5 x h;omega
 have e15: ∀x∈rd15,x=R:=λx h=>by have:=hr15 x h;omega
 have e9: ∀x∈rd9,x<s0.next:=λx h=>by
  have h1:x<s.next+0+3:=(hr9 x h).2.2
  omega
 have hb16':s0.next<=b16:=by
  rcases hb16 with h|h
  ·rw[h];exact hb11'
  ·have h':s11.next<=b16:=h
   omega
 have w11: ∀x∈wr11,s0.next<=x:=λx h=>by
  have h1:b8+0<=x:=(hw11 x h).2.2.1
  omega
 have w16: ∀x∈wr16,s0.next<=x:=λx h=>by
  have h1:b11+0<=x:=(hw16 x h).2.2.1
  omega
 have r8: ∀x∈rd8,x<s0.next:=λx h=>by
  rcases(hr8 x h).2 with h1|h1
  ·exact lF x h1
  ·exact(Ct h1).elim
 refine⟨CP ?_, ?_⟩
 ·simp only[List.reverse_cons,List.reverse_nil,List.nil_append,List.cons_append,allP,BS,List.take,Cu]
  have lts: ∀x,s0.next<=x-> ¬x<s0.next:=λx h=>J
  have lt1: ∀x,x<s0.next-> ¬s0.next<=x:=λx h=>J
  have g5: ∀x∈rd5,¬s0.next<=x:=λx h=>by have:=e5 x h;omega
  have g15: ∀x∈rd15,¬s0.next<=x:=λx h=>by have:=e15 x h;omega
  have g8: ∀x∈rd8,¬s0.next<=x:=λx h=>by have:=r8 x h;omega
  have g9: ∀x∈rd9,¬s0.next<=x:=λx h=>by have:=e9 x h;omega
  have g11: ∀x∈wr11,x∉rd5/\x∉rd15/\x∉rd8/\x∉rd9:=λx h=>⟨λq=>g5 x q (w11 x h),λq=>g15 x q (w11 x h),λq=>g8 x q (w11 x h),λq=>g9 x q (w11 x h)⟩
  have g16: ∀x∈wr16,x∉rd5/\x∉rd15/\x∉rd8/\x∉rd9:=λx h=>⟨λq=>g5 x q (w16 x h),λq=>g15 x q (w16 x h),λq=>g8 x q (w16 x h),λq=>g9 x q (w16 x h)⟩
  simp+contextual [lts,lt1,g5,g15,g8,g9,g11,g16]
  and_intros<;>exact .inl rfl
 ·refine aK (Aau_ _ _ _ _ _ _ _ _ _ _ _ _ _ _ _ _ _ _ _ _ _ _ _ _ _ _) ?_
  simp only[SS]
  generalize hs':(⟨(dSt s16.mem s16.next).mem,(dSt s16.mem s16.next).next,s0.lim,_,_,s0.cx⟩:St)=s7
  have m7:s7.mem=s16.mem:=by rw[<-hs'];rfl
  have n7:s7.next=s16.next:=by rw[<-hs'];rfl
  have x7:Ext Any Non s0 s7:=by
   rw[<-hs']
   refine aU (by show s0.next<=s16.next;omega) (λx hx _=> ?_) ?_ λ_ _ _ _ _=>trivial
   ·have h1:T.get s16.mem x=T.get s11.mem x:=x16.mem x (by show x<s11.next;omega) λh=>by have h2:b11+0<=x:=h.2.1;omega
    have h2:T.get s11.mem x=T.get s10.mem x:=x11.mem x (by show x<s10.next;omega) λh=>by have h2:b8+0<=x:=h.2.1;omega
    have h3:T.get s10.mem x=T.get s8.mem x:=x10.mem x (by show x<s8.next;omega) λh=>h
    have h4:T.get s8.mem x=T.get s1.mem x:=x8'.mem x (by show x<s1.next;omega) λh=>h
    have h5:T.get s1.mem x=T.get s0.mem x:=x1.mem x hx λh=>h
    show T.get s16.mem x=_
    rw[h1,h2,h3,h4,h5]
   ·simp only[List.mem_cons,List.not_mem_nil,or_false]
    rintro m hm x hx hxl
    have hw:x∈wr16\/x∈wr11:=by
     rcases hm with rfl|rfl|rfl|rfl|rfl|rfl|rfl|rfl|rfl|rfl|rfl|rfl|rfl|rfl|rfl|rfl|rfl|rfl|rfl|rfl|rfl<;>first|exact .inl hx|exact .inr hx|(cases hx;done)
    rcases hw with hw|hw
    ·have:=w16 x hw
     omega
    ·have:=w11 x hw
     omega
  have hI7:=hI0.ext0 x7
  refine aI AN (by obtain⟨c,e,_⟩:=m16.row;rw[e];rfl) (hI7.r0.same rfl rfl) λs9 n9 x9 o9=> ?_
  have z9:Ext Any (λy=>y=R) s7 s9:=x9.weak (x7.bnd hbs0) (λ_ _ _=>trivial) λy _ hq=>by have h1:=hq.1;have h2:=hq.2;omega
  have y9:Ext Any (In R 0 6) (s.cxN cxN) s9:=((y0.on x7 hb0 λ_ _ h=>h).gw hb0 λ_ _ h=>h.elim).on z9 hb0 λy _ h=>by subst h;exact In6 ⟨J,J⟩
  refine aB (rs:=[]) (vs:=[]) rfl (.inr AkI_) J Cy_ AoP_ (y9.cx.trans hcx) rfl ?_
  have el:(insR k.ws i f).length=i+1+(k.ws.length-i):=by
   unfold insR
   rw[List.length_append,List.length_cons,List.length_take,List.length_drop]
   omega
  have ec:Ay (insR k.ws i f)=Ay (k.ws.take i++[f])++Ay (k.ws.drop i):=by
   unfold insR
   rw[<-GV,List.append_assoc]
   rfl
  have hm:EmS s9 3 (insR k.ws i f).length (Ay (insR k.ws i f)) v16 b16:=by
   rw[el,ec]
   rcases m16 with h|⟨h,h0⟩
   ·exact .inl h
   ·exact .inr ⟨(h.same m7 n7).ext z9 λx hx hq=>by have h1:b16+0<=x:=hx.1;have h2:x=R:=hq;omega,h0⟩
  have sub: ∀g∈insR k.ws i f,g=f\/g∈k.ws:=λg hg=>by
   unfold insR at hg
   rcases List.mem_append.1 hg with h|h
   ·exact .inr (List.mem_of_mem_take h)
   ·rcases List.mem_cons.1 h with h|h
    ·exact .inl h
    ·exact .inr (List.mem_of_mem_drop h)
  have y7:Ext Any Non (s.cxN cxN) s7:=y0.on x7 hb0 λ_ _ h=>h
  have hB7:Bs s7 f.v f.rf.b:=(hB.same (s':=s.cxN cxN) rfl rfl).ext0 y7
  have hn7:s.next<=s7.next:=y7.nxt
  have hn00:s.next<=s0.next:=J
  have hI9:RkI s9 R {k with ws:=insR k.ws i f,L:=v16,b:=b16}:=⟨o9,hI7.r1.ext z9 J,hI7.r2.ext z9 J,hI7.r3.ext z9 J,hI7.r4.ext z9 J,hI7.r5.ext z9 J, .inr hm,λg hg=>by
    rcases sub g hg with rfl|hg
    ·exact hB7.ext z9 λx hx h=>by have h1:=(hBF x hx).2;have h2:x=R:=h;omega
    ·exact(hI7.bs g hg).ext z9 λx hx h=>by have h1:=(hI0.br g hg x hx).1;have h2:x=R:=h;omega,λg hg x hx=>by
    have hz:=z9.nxt
    rcases sub g hg with rfl|hg
    ·have h1:=(hBF x hx).1;omega
    ·have h1:=hI7.bl g hg x hx;omega,λx hx=>by have h1:b16+0<=x:=hx.2.1;omega,λg hg x hx=>by
    rcases sub g hg with rfl|hg
    ·exact⟨(hBF x hx).2,λh=>by have h1:=(hBF x hx).1;have h2:b16+0<=x:=h.2.1;omega⟩
    ·exact⟨(hI0.br g hg x hx).1,λh=>by have h1:=hI0.bl g hg x hx;have h2:b16+0<=x:=h.2.1;omega⟩⟩
  exact q _ v16 b16 y9.cx' (hI9.same rfl rfl) J
end
theorem Ll: ∀{ws:List RW} {i:Nat} (h:i<ws.length) {f:RW},f.rf.name=ws[i].rf.name->f.rf.safe=ws[i].rf.safe->Ay (ws.set i f)=(Ay ws).set (i*3+1) f.v
 |g::l,0,_,f,h1,h2=>by
  have h1':f.rf.name=g.rf.name:=h1
  have h2':f.rf.safe=g.rf.safe:=h2
  show _::_::_::Ay l=_::_::_::Ay l
  rw[h1',h2']
 |g::l,i+1,h,f,h1,h2=>by
  have ih:=Ll (ws:=l) (i:=i) (by simpa using h) (f:=f) h1 h2
  rw[show(i+1)*3+1=i*3+1+1+1+1 by omega]
  show _::_::_::Ay (l.set i f)=_::_::_::(Ay l).set (i*3+1) f.v
  rw[ih]
theorem QV: ∀{ws:List RW} {i:Nat} (h:i<ws.length) {f:RW},f.rf.name=ws[i].rf.name->f.v=ws[i].v->Ay (ws.set i f)=(Ay ws).set (i*3+2) (.int .i64 (f.rf.safe:Nat))
 |g::l,0,_,f,h1,h2=>by
  have h1':f.rf.name=g.rf.name:=h1
  have h2':f.v=g.v:=h2
  show _::_::_::Ay l=_::_::_::Ay l
  rw[h1',h2']
 |g::l,i+1,h,f,h1,h2=>by
  have ih:=QV (ws:=l) (i:=i) (by simpa using h) (f:=f) h1 h2
  rw[show(i+1)*3+2=i*3+2+1+1+1 by omega]
  show _::_::_::Ay (l.set i f)=_::_::_::(Ay l).set (i*3+2) _
  rw[ih]
theorem Marked.put {F:Nat->Prop}{s s':St}{sz n j:Nat}{l:List Value}{v u:Value}{b:Nat}(h:Marked s sz n l v b)(hj:j<l.length)(hn:s'.next=s.next)(e:Ext F (λy=>y=b+j) s s')(ho:Own s' b j u):Marked s' sz n (l.set j u) v b:=by
 have hl:=h.len
 refine⟨h.val,λi w hi=> ?_,by rw[List.length_set];exact h.len, ?_,by rw[hn];exact h.lt⟩
 ·by_cases c:i=j
  ·subst c
   rw[List.getElem?_set_self hj]at hi
   have:w=u:=by injection hi with hi;exact hi.symm
   rw[this,Nat.zero_add]
   exact ho
  ·rw[List.getElem?_set_ne J]at hi
   exact(h.own i w hi).ext e λg=>J
 ·obtain⟨q,h1,h2⟩:=h.tok
  exact⟨q,h1,by rw[e.mem _ h.lt λg=>J];exact h2⟩
theorem RkI.put {F:Nat->Prop}{s s':St}{R i r:Nat}{k:RkS}{u:Value}{f:RW}(h:RkI s R k)(hi:i<k.ws.length)(hr:r<3)(hn:s'.next=s.next)(e:Ext F (λy=>y=k.b+(i*3+r)) s s')(ho:Own s' k.b (i*3+r) u)(hc:Ay (k.ws.set i f)=(Ay k.ws).set (i*3+r) u)(hB:Bs s' f.v f.rf.b)(hF: ∀x,BsF f.v x->x<s'.next/\R+6<=x/\ ¬MkF 3 k.ws.length k.b x):RkI s' R {k with ws:=k.ws.set i f}:=by
 have hp:0<k.ws.length:=J
 have h3:i*3+r<k.ws.length*3:=J
 have inL:MkF 3 k.ws.length k.b (k.b+(i*3+r)):=⟨hp,J,J⟩
 have hR:R+6<=k.b+(i*3+r):=h.lr _ inL
 have m:=(h.l.mk hi).put (by rw[Dx];exact h3) hn e ho
 have hle:(k.ws.set i f).length=k.ws.length:=List.length_set
 have sub: ∀g∈k.ws.set i f,g=f\/g∈k.ws:=λg hg=>by
  rcases List.mem_or_eq_of_mem_set hg with h|h
  ·exact .inr h
  ·exact .inl h
 refine⟨h.r0.ext e J,h.r1.ext e J,h.r2.ext e J,h.r3.ext e J,h.r4.ext e J,h.r5.ext e J, .inr (.inr ⟨?_, ?_⟩),λg hg=> ?_,λg hg x hx=> ?_,λx hx=> ?_,λg hg x hx=> ?_⟩
 ·show Marked s' 3 (k.ws.set i f).length (Ay (k.ws.set i f)) k.L k.b
  rw[hle,hc]
  exact m
 ·show 0<(k.ws.set i f).length
  omega
 ·rcases sub g hg with rfl|hg
  ·exact hB
  ·exact(h.bs g hg).ext e λx hx q=>by
    have q':x=_:=q
    rw[q']at hx
    exact(h.br g hg _ hx).2 inL
 ·rcases sub g hg with rfl|hg
  ·exact(hF x hx).1
  ·rw[hn];exact h.bl g hg x hx
 ·have hx':MkF 3 (k.ws.set i f).length k.b x:=hx
  rw[hle]at hx'
  exact h.lr x hx'
 ·rcases sub g hg with rfl|hg
  ·exact⟨(hF x hx).2.1,by rw[hle];exact(hF x hx).2.2⟩
  ·exact⟨(h.br g hg x hx).1,by rw[hle];exact(h.br g hg x hx).2⟩
section
variable {n R:Nat}{s:St}{k:RkS}{a:ByteArray}{Q:Value->St->Prop}
def RW.kept (f:RW):RW:={f with rf:={f.rf with safe:=f.rf.b.length}}
theorem Za_ (hb:s.lim<=s.next)(hI:RkI s R k)(hl:k.ws.length<=900)(hz: ∀f∈k.ws,f.rf.b.length<=1000000)(hn:10*k.ws.length+200<=n)
  (q1:k.out=true-> ∀s1,Ext Any Non s s1->Q (.int .i64 10) s1)
  (q2:k.out=false->atW k.wl a=none-> ∀s1,Ext Any Non s s1->Q (.int .i64 6) s1)
  (q3:k.out=false-> ∀i (hi:i<k.ws.length),atW k.wl a=some i->(k.fused=true/\k.left=0)-> ∀s1,Ext Any (In R 0 6) s s1->RkI s1 R {k with out:=true}->Q (.int .i64 10) s1)
  (q4:k.out=false-> ∀i (hi:i<k.ws.length),atW k.wl a=some i-> ¬(k.fused=true/\k.left=0)-> ∀s1,Ext Any (RkG R k) s s1->RkI s1 R {k with ws:=k.ws.set i k.ws[i].kept,N:=wrap64 (k.N+1),left:=if k.fused then wrap64 (k.left-1)else k.left}->Q (.int .i64 0) s1):
  W (Ac envS (runF envS n) 28 [.pointer (some ⟨R,0,none⟩), .string a]) s Q:=by
 have hb0:(s.cxN cxN).lim<=(s.cxN cxN).next:=hb
 have hI0:RkI (s.cxN cxN) R k:=hI.same rfl rfl
 refine Arn_ λtm h0 h1=> ?_
 refine Aek_.u ?_
 simp only[Wx,RR,SS]
 refine AhX_.u ?_
 simp only[XN,RR,SS,Nat.reduceEqDiff,reduceCtorEq, ↓reduceIte,h0,h1]
 have out: ∀(i:Int) (n':Nat) (tm':T Value) (td:List Item) (s1:St),10*k.ws.length+100<=n'->skim 64 td=O0->Ext Any Non (s.cxN cxN) s1->T.get tm' 0=some (.pointer (some ⟨R,0,none⟩))->T.get tm' 5=some (.int .i64 i)->(i<0/\atW k.wl a=none)\/(∃j:Nat,i=(j:Nat)/\atW k.wl a=some j)->W (runF envS n' ⟨28,AeD_,CJ,tm',td, .run, .normal,none⟩) s1 λp s1=>Q p.1 (s1.cxN s.cx):=by
  intro i n' tm' td s1 hn' hT x1 g0 g5 hi
  have hI1:=hI0.ext0 x1
  refine XN_.u ?_ hT
  simp only[Da_,RR,SS,g0,Ab E9 al]
  refine aA BB hI1.r5.at' ?_
  have y2:=x1.thenRd hb0 (R+(0+5))
  have hI2:RkI (s1.rdN (R+(0+5))) R k:=hI1.same rfl rfl
  generalize s1.rdN (R+(0+5))=s2 at *
  cases ho:k.out with
  |true=>
   refine aJ Up ?_
   refine AoN_.u ?_
   simp only[QL_,RR,SS]
   refine aB (rs:=[4]) (vs:=[.int .i64 10]) rfl (.inl Qt) J IU Lo y2.cx Y ?_
   exact q1 ho _ y2.cx'
  |false=>
   refine aG Up ?_
   refine Ahd_.u ?_
   simp only[FZ_,RR,SS,Nat.reduceEqDiff, ↓reduceIte,Ap,g5]
   rcases hi with⟨hneg,hat⟩|⟨j,rfl,hat⟩
   ·refine aJ TQ ?_ rfl (an hneg)
    refine AgJ_.u ?_
    simp only[T1,RR,SS]
    refine aB (rs:=[4]) (vs:=[.int .i64 6]) AnY_ (.inl Qt) J IU Lo y2.cx Y ?_
    exact q2 ho hat _ y2.cx'
   ·have hj:j<k.ws.length:=by
     obtain⟨h,_⟩:=CO hat
     rwa [aH]at h
    refine aG TQ ?_
    refine Acl_.u ?_
    simp only[U5,RR,SS,reduceCtorEq, ↓reduceIte,g0]
    refine JV (y2.bnd hb0) hI2 J (λhf s3 n3 x3 hI3=> ?_) λhf s3 n3 x3 hI3=> ?_
    ·have y3:Ext Any (In R 0 6) (s.cxN cxN) s3:=(y2.gw hb0 λ_ _ h=>h.elim).on x3 hb0 λ_ _ h=>h
     simp only[A5,Bool.not_false]
     refine aJ Bx_ ?_
     refine Akl_.u ?_
     simp only[T6,RR,SS]
     refine aB (rs:=[4]) (vs:=[.int .i64 10]) TD_ (.inl Qt) J IU Lo y3.cx Y ?_
     exact q3 ho j hj hat hf _ y3.cx' (hI3.same rfl rfl)
    ·have y3:Ext Any (In R 0 6) (s.cxN cxN) s3:=(y2.gw hb0 λ_ _ h=>h.elim).on x3 hb0 λ_ _ h=>h
     simp only[A5,Bool.not_true]
     refine aG Bx_ ?_
     refine Aqy_.u ?_
     obtain⟨c,ev,o0,o1,o2⟩:=hI3.l.at hj
     have ev':k.L= .slice (some ⟨k.b,0,none⟩) k.ws.length c:=ev
     have hB:=hI3.bs _ (List.getElem_mem hj)
     have r0:=hI3.r0
     simp only[Qj_,RR,T.get_set,Nat.reduceEqDiff,reduceIte,g0,g5,Aa,Aj]
     rw[W_dq λs Q=>AD (s:=s) _ Q]
     dsimp only
     try simp only[Aa]
     rw[W_dq λs Q=>Ab (s:=s) AM al Q]
     dsimp only
     try simp only[Aa]
     refine aD AN ((r0.same (s':=dSt s3.mem s3.next) rfl rfl).at') λrd3 hr3=> ?_
     try simp only[Aa]
     refine Eq.mpr (Aj _ _ _ _ _) ?_
     dsimp only
     refine Eq.mpr (Aj _ _ _ _ _) ?_
     dsimp only
     try simp only[Aa]
     rw[W_dq λs Q=>AD (s:=s) _ Q]
     dsimp only
     try simp only[Aa]
     rw[W_dq λs Q=>Ab (s:=s) AM al Q]
     dsimp only
     try simp only[Aa]
     refine aD AN ((r0.same (s':=dSt s3.mem s3.next) rfl rfl).at') λrd8 hr8=> ?_
     try simp only[Aa]
     refine Eq.mpr (Aj _ _ _ _ _) ?_
     dsimp only
     simp only[ev']
     rw[W_dq λs Q=>AA (s:=s) AL hj Q]
     dsimp only
     try simp only[Aa]
     rw[W_dq λs Q=>Ab (s:=s) CB al Q]
     dsimp only
     try simp only[Aa]
     refine aD A2 ((o1.same (s':=dSt s3.mem s3.next) rfl rfl).at') λrd12 hr12=> ?_
     try simp only[Aa,A0,A3,AW]
     rw[W_dq λs Q=>Bs.lenq (s':=s) hB BH Q]
     dsimp only
     try simp only[Aa]
     rw[W_dq λs Q=>AA (s:=s) AL hj Q]
     dsimp only
     try simp only[Aa]
     rw[W_dq λs Q=>Ab (s:=s) Ge al Q,AI]
     refine⟨BZ am am, ?_⟩
     refine aK (Acn_ _ _ _ _ _ _ _ _ _ _ _ _ _ _ _ _ _ _ _ _ _) ?_
     simp only[SS]
     generalize hs':(⟨(dSt s3.mem s3.next).mem,(dSt s3.mem s3.next).next,s3.lim,_,_,s3.cx⟩:St)=s4
     have m4:s4.mem=s3.mem:=by rw[<-hs'];rfl
     have n4:s4.next=s3.next:=by rw[<-hs'];rfl
     have x4:Ext Any Non s3 s4:=by
      rw[<-hs']
      exact Ext.draw (F:=Any) (Nat.le_refl _) (λ_ _=>rfl) am λ_ _ _ _ _=>trivial
     have y4:=y3.on x4 hb0 λ_ _ h=>h.elim
     have hI4:=hI3.same m4 n4
     refine aI Bv rfl (o2.same m4 n4) λs5 n5 x5 o5=> ?_
     have e2:0+j*3+2=j*3+2:=J
     have e2': ∀y,In k.b (0+j*3+2) 1 y->y=k.b+(j*3+2):=λy hq=>by have h1:=hq.1;have h2:=hq.2;omega
     have x5':Ext Any (λy=>y=k.b+(j*3+2)) s4 s5:=x5.weak (y4.bnd hb0) (λ_ _ _=>trivial) λy _ hq=>e2' y hq
     have o5':Own s5 k.b (j*3+2) (.int .i64 (k.ws[j].rf.b.length:Nat)):=by rw[e2]at o5;exact o5
     have hI5:=hI4.put (i:=j) (r:=2) (f:=k.ws[j].kept) hj al n5 x5' o5' (QV hj rfl rfl) ((hI4.bs _ (List.getElem_mem hj)).ext x5' λx hx q=>by
      have q':x=_:=q
      rw[q']at hx
      exact(hI4.br _ (List.getElem_mem hj) _ hx).2 ⟨by show 0<k.ws.length;omega,by show k.b+0<=_;omega,by show _<k.b+0+(k.ws.length*3+1);omega⟩) λx hx=>⟨by rw[n5];exact hI4.bl _ (List.getElem_mem hj) x hx,hI4.br _ (List.getElem_mem hj) x hx⟩
     have y5:Ext Any (RkG R k) (s.cxN cxN) s5:=(y4.gw hb0 λ_ _ h=> .inl h).on x5' hb0 λy _ h=>by
      have h':y=_:=h
      subst h'
      exact .inr ⟨J,by show k.b+0<=_;omega,by show _<k.b+0+(k.ws.length*3+1);omega⟩
     refine TK_.u ?_
     simp only[Bu_,RR,SS]
     refine aB (rs:=[4]) (vs:=[.int .i64 0]) rfl (.inl AhT_) J IU Lo y5.cx Y ?_
     exact q4 ho j hj hat hf _ y5.cx' (hI5.same rfl rfl)
 refine EA hb0 hI0 J J (λhat s1 x1=> ?_) λj hat s1 x1=> ?_
 ·try simp only[SS,Nat.reduceEqDiff,reduceCtorEq, ↓reduceIte]
  exact out (-1) _ _ _ _ J rfl x1 (an h0) Y (.inl ⟨al,hat⟩)
 ·try simp only[SS,Nat.reduceEqDiff,reduceCtorEq, ↓reduceIte]
  exact out (j:Nat) _ _ _ _ J rfl x1 (an h0) Y (.inr ⟨j,rfl,hat⟩)
