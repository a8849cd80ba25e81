import Derived.Test.YtndednnianphoaaGreatDoorJf24
import Derived.Test.YtndednnianphoaaGreatDoorJf08
import Derived.Test.YtndednnianphoaaGreatDoorJf07
import GoSem.ClaimWide
import Derived.Carry
import Derived.ChangeSame
namespace Go.Proofs.YtndednnianphoaaGreatDoor.Am
open Go.RowKit
section
variable {E:Env}{s:St}{t:Nat}{xo yo:Operand}
theorem SO_ (m n:Nat)(hn:1≤n):Cl.get (aBin E .rem t xo yo) (.int .i64 (.negSucc m)) (.int .i64 (n:Nat)) s= .some (.int .i64 ((Int.negSucc m).tmod (n:Nat))) s:=by
 show Bu E .rem t xo yo (.int .i64 (.negSucc m)) (.int .i64 (n:Nat)) s=_
 show M.on (semP E.P (do eqGuard .rem t xo yo (.int .i64 (.negSucc m)) (.int .i64 (n:Nat));binOp .rem t (.int .i64 (.negSucc m)) (.int .i64 (n:Nat)))) pV s=_
 have e:semP E.P (do eqGuard .rem t xo yo (.int .i64 (.negSucc m)) (.int .i64 (n:Nat));binOp .rem t (.int .i64 (.negSucc m)) (.int .i64 (n:Nat)))=some (.int .i64 ((Int.negSucc m).tmod (n:Nat))):=by
  show semP E.P (Op.intDiv .rem .i64 (.negSucc m) (n:Nat))=_
  unfold Op.intDiv
  rw[if_neg (by omega)]
  rfl
 rw[e]
 generalize (Int.negSucc m).tmod (n:Nat)=y
 have hp: ∀y:Int,pV (.int .i64 y) s= .some (.int .i64 y) s:=fun y=>by
  cases y with
  |ofNat k=>first|rfl|(cases k<;>rfl)
  |negSucc k=>first|rfl|(cases k<;>rfl)
 exact hp y
theorem Sc_ {x:Int}{n:Nat}(hn:1≤n)(Q:Value→St→Prop):W (Cl.get (aBin E .rem t xo yo) (.int .i64 x) (.int .i64 (n:Nat))) s Q=Q (.int .i64 (x.tmod (n:Nat))) s:=by
 cases x with
 |ofNat m=>exact Bp (OW_ m n hn xo yo)
 |negSucc m=>exact Bp (SO_ m n hn)
end
theorem AcB_ {x:Int}{m:Nat}(hm:1≤m):x%(m:Nat)=if x.tmod (m:Nat)<0 then x.tmod (m:Nat)+(m:Nat)else x.tmod (m:Nat):=by
 have b1:x.tmod (m:Nat)<(m:Nat):=Int.tmod_lt_of_pos x (by omega)
 have b2: -(m:Nat)<x.tmod (m:Nat):=by
  have:=Int.lt_tmod_of_pos x (b:=(m:Nat)) (by omega)
  omega
 have e:x=x.tmod (m:Nat)+(m:Nat)*x.tdiv (m:Nat):=(Int.tmod_add_mul_tdiv x (m:Nat)).symm
 have e1:x%(m:Nat)=x.tmod (m:Nat)%(m:Nat):=by
  conv=>lhs;rw[e]
  rw[Int.add_mul_emod_self_left]
 rw[e1]
 generalize x.tmod (m:Nat)=y at *
 by_cases h:y<0
 ·rw[if_pos h,←Int.add_emod_right,Int.emod_eq_of_lt (by omega) (by omega)]
 ·rw[if_neg h,Int.emod_eq_of_lt (by omega) (by omega)]
theorem FF_ {n m:Nat}{x:Int}{s:St}{Q:Value→St→Prop}(hm:1≤m)(hm2:m≤1000000)(hn:20≤n)(q:Q (.int .i64 (x%(m:Nat))) s):W (Ay envS (runF envS n) 19 [.int .i64 x, .int .i64 (m:Nat)]) s Q:=by
 refine Aau_ fun tm h0 h1=> ?_
 refine JJ_.w rfl (by omega) ?_
 simp only[DD_,Aa,W_mv,Ab]
 refine IA_.w Lf_ (by omega) ?_
 simp only[Ew_,Ac,W_oS,Aa,W_mv,Ab,T.get_set,reduceIte,Nat.reduceEqDiff, ↓reduceIte,Bk,h1]
 refine W.cond (v:=false) RJ_ SV_ (by simp[T.get_set];omega) (by omega) (fun h=>by cases h) fun _=> ?_
 refine TX_.w JX_ (by omega) ?_
 simp only[UE,Ac,W_oS,Aa,W_mv,Ab,T.get_set,reduceIte,Nat.reduceEqDiff,reduceCtorEq, ↓reduceIte,h0,h1,Sc_ hm]
 have b1:x.tmod (m:Nat)<(m:Nat):=Int.tmod_lt_of_pos x (by omega)
 have b2: -(m:Nat)<x.tmod (m:Nat):=by
  have:=Int.lt_tmod_of_pos x (b:=(m:Nat)) (by omega)
  omega
 rw[AcB_ hm]at q
 generalize x.tmod (m:Nat)=y at *
 refine Sw_.w ZS_ (by omega) ?_
 simp only[BJ_,Ac,W_oS,Aa,W_mv,Ab,T.get_set,reduceIte, ↓reduceIte,Bk]
 have fin: ∀(n1:Nat) (tm1:T Value) (td:List Item) (r:Int),10≤n1→r=(if y<0 then y+(m:Nat)else y)→skim 64 td=F0→T.get tm1 0=some (.int .i64 r)→W (runF envS n1 ⟨19,AaX_,Er,tm1,td, .run, .normal,none⟩) (s.cxN cxN) fun p s1=>Q p.1 (s1.cxN s.cx):=fun n1 tm1 td r hn1 hr hT g0=>by
  refine Aft_.w hT (by omega) ?_
  simp only[XF,Aa,W_mv,Ab,g0]
  refine W.end' (rs:=[4]) (vs:=[.int .i64 r]) Qv_ (.inl Aec_) (by omega) X3 JP_ rfl (by simp[T.get_set]) ?_
  rw[hr]
  exact q
 by_cases hy:y<0
 ·refine W.cond (v:=true) FU_ Fn_ (by simp[T.get_set];exact hy) (by omega) (fun _=> ?_) fun h=>by cases h
  refine AdW_.w YA_ (by omega) ?_
  simp only[Dv_,Ac,W_oS,Aa,W_mv,Ab,T.get_set,reduceIte,Nat.reduceEqDiff,reduceCtorEq, ↓reduceIte,BB,h1]
  rw[BZ (by omega) (by omega)]
  exact fin _ _ _ _ (by omega) (by rw[if_pos hy]) Zk_ (by simp[T.get_set])
 ·refine W.cond (v:=false) FU_ Fn_ (by simp[T.get_set];omega) (by omega) (fun h=>by cases h) fun _=> ?_
  exact fin _ _ _ _ (by omega) (by rw[if_neg hy]) Zp_ (by simp[T.get_set])
section
variable {n D M J:Nat}{s:St}{col:Nat→Nat}{va vm:Value}{l:List Bool}
theorem Abk_ {s0:St}(hb0:s0.lim≤s0.next)(hJ:s0.next≤J)(hl:BoR s0 va l)(h30:l.length≤30)
  (q: ∀n tm td s col,30000000≤n→skim 64 td=Iq→Ext Any Non s0 s→(∀x,x<s0.next→1000≤col x)→JrA s col D M J (nmJ 1) (CD 0 0 l) (nSes l) (nCom l) false→T.get tm 1=some vm→T.get tm 5=some (.bool true)→T.get tm 6=some (.pointer (some ⟨D,0,none⟩))→T.get tm 9=some (.int .i64 (nSes l:Nat))→T.get tm 10=some (.int .i64 (nCom l:Nat))→W (runF envS n ⟨4,P1,BI,tm,td, .run, .normal,none⟩) s fun p _=>p.1= .bool true):
  ∀(k i n:Nat) (tm:T Value) (td:List Item) (s:St) (col:Nat→Nat),i+k=l.length→30000010+10*k≤n→skim 64 td=Hx→Ext Any Non s0 s→(∀x,x<s0.next→1000≤col x)→JrA s col D M J (nmJ 1) (CD 0 0 (l.take i)) (nSes (l.take i)) (nCom (l.take i)) false→
   T.get tm 0=some va→T.get tm 1=some vm→T.get tm 5=some (.bool true)→T.get tm 6=some (.pointer (some ⟨D,0,none⟩))→T.get tm 7=some (.pointer (some ⟨J,0,none⟩))→T.get tm 9=some (.int .i64 (nSes (l.take i):Nat))→T.get tm 10=some (.int .i64 (nCom (l.take i):Nat))→T.get tm 11=some (.int .i64 (i:Nat))→
   W (runF envS n ⟨4,P1,BI,tm,td, .run, .normal,none⟩) s fun p _=>p.1= .bool true:=by
 intro k
 induction k with
 |zero=>
  intro i n tm td s col hi hn hT hx hc hA t0 t1 t5 t6 t7 t9 t10 t11
  have e:i=l.length:=by omega
  subst e
  rw[List.take_length]at hA t9 t10
  refine CZ_.w hT (by omega) ?_
  have d1:decide (((l.length:Nat):Int)<((l.length:Nat):Int))=false:=decide_eq_false (by omega)
  simp only[SJ,Ac,W_oS,Aa,W_mv,Ab,Ag,Af,Ae,Bk,t0,t11,BoR.len hl,d1]
  refine W.cond (v:=false) An_ Yj (by simp[T.get_set]) (by omega) (fun h=>by cases h) fun _=> ?_
  exact q _ _ _ s col (by omega) AaV_ hx hc hA (by simp[T.get_set,t1]) (by simp[T.get_set,t5]) (by simp[T.get_set,t6]) (by simp[T.get_set,t9]) (by simp[T.get_set,t10])
 |succ k ih=>
  intro i n tm td s col hi hn hT hx hc hA t0 t1 t5 t6 t7 t9 t10 t11
  have hil:i<l.length:=by omega
  have hls:=hl.ext0 hx
  have hbs:=hx.bnd hb0
  obtain⟨b,o,c,ev,hat⟩:=hls.at hil
  have d1:decide (((i:Nat):Int)<((l.length:Nat):Int))=true:=decide_eq_true (by omega)
  refine CZ_.w hT (by omega) ?_
  simp only[SJ,Ac,W_oS,Aa,W_mv,Ab,Ag,Af,Ae,Bk,t0,t11,BoR.len hl,d1]
  refine W.cond (v:=true) An_ Yj (by simp[T.get_set]) (by omega) (fun _=> ?_) fun h=>by cases h
  refine QN_.w HL_ (by omega) ?_
  simp only[Yl,Ac,W_oS,Aa,W_mv,Ab,T.get_set,reduceIte,Nat.reduceEqDiff,reduceCtorEq, ↓reduceIte,t0,t11]
  rw[ev]
  simp only[C7 Sv hil]
  refine W.load1 DH hat ?_
  have y1:=hx.thenRd hb0 (b+(o+i*1))
  have hA1:JrA (s.rdN (b+(o+i*1))) col D M J (nmJ 1) _ _ _ false:=hA.same rfl rfl
  have hs1:s0.next≤(s.rdN (b+(o+i*1))).next:=hx.nxt
  generalize s.rdN (b+(o+i*1))=s1 at *
  rw[←ev]at *
  have hb1:=y1.bnd hb0
  have ht:l.take (i+1)=l.take i++[l[i]]:=by rw[List.take_succ_eq_append_getElem hil]
  have hsum:=nSum (l.take i)
  have hti:(l.take i).length=i:=by rw[List.length_take];omega
  have hfl:(CD 0 0 (l.take i)).length≤300:=by rw[UZ];omega
  have e2:wrap64 (((i:Nat):Int)+1)=((i+1:Nat):Int):=by
   rw[BZ (by omega) (by omega)];simp
  have e3:wrap64 (((nSes (l.take i):Nat):Int)+1)=((nSes (l.take i)+1:Nat):Int):=by
   rw[BZ (by omega) (by omega)];simp
  have e4:wrap64 (((nCom (l.take i):Nat):Int)+1)=((nCom (l.take i)+1:Nat):Int):=by
   rw[BZ (by omega) (by omega)];simp
  try simp only[Ac,W_oS,W_on,Aa,W_mv,Ab,Ap,T.get_set,Ag,Af,Ar,Aq,Ae,Ah,reduceIte,Ak,As,Av,Aw,Ao,Aj,An,Au,Al,Ai,Nat.reduceEqDiff,reduceCtorEq, ↓reduceIte]
  cases hv:l[i]with
  |true=>
   rw[hv]at ht
   refine W.cond (v:=true) UK Gh_ (by simp[T.get_set]) (by omega) (fun _=> ?_) fun h=>by cases h
   refine Je_.w Ri_ (by omega) ?_
   simp only[WJ,Ac,W_oS,Aa,W_mv,Ab,T.get_set,reduceIte,Nat.reduceEqDiff, ↓reduceIte,BB,t9,e3]
   refine Mg_.w AbU_ (by omega) ?_
   simp only[Xm,Ac,W_oS,W_on,Aa,W_mv,Ab,T.get_set,Ag,Af,Ae,Ah,reduceIte,Nat.reduceEqDiff, ↓reduceIte,t7]
   refine NN_ hb1 hA1 (Rv (by decide)) (by omega) hfl rfl (by omega) fun s2 col2 hag x2 hA2=> ?_
   have y2:Ext Any Non s0 s2:=y1.on x2 hb0 fun x hx h=>by
    have:=hc x hx
    rcases h with h|h<;>omega
   simp only[CM,Bool.not_true]
   refine W.cond (v:=false) Mf_ Yp_ (by simp[T.get_set]) (by omega) (fun h=>by cases h) fun _=> ?_
   refine VU.w RT_ (by omega) ?_
   simp only[Sb,Ac,W_oS,Aa,W_mv,Ab,T.get_set,reduceIte,Nat.reduceEqDiff, ↓reduceIte,BB,t11,e2]
   have g1:nSes (l.take (i+1))=nSes (l.take i)+1:=by rw[ht,GA_];simp
   have g2:nCom (l.take (i+1))=nCom (l.take i):=by rw[ht,Xn];simp
   have hA2':JrA s2 col2 D M J (nmJ 1) (CD 0 0 (l.take (i+1))) (nSes (l.take (i+1))) (nCom (l.take (i+1))) false:=by
    rw[g1,g2,ht,BC_]
    exact hA2
   exact ih (i+1) _ _ _ s2 col2 (by omega) (by omega) AL_ y2 (fun x hx=>by rw[hag x (by omega)];exact hc x hx) hA2' (by simp[T.get_set,t0]) (by simp[T.get_set,t1]) (by simp[T.get_set,t5]) (by simp[T.get_set,t6]) (by simp[T.get_set,t7]) (by rw[g1];simp[T.get_set]) (by rw[g2];simp[T.get_set,t10]) (by simp[T.get_set])
  |false=>
   rw[hv]at ht
   refine W.cond (v:=false) UK Gh_ (by simp[T.get_set]) (by omega) (fun h=>by cases h) fun _=> ?_
   refine TY_.w PV_ (by omega) ?_
   simp only[FA_,Ac,W_oS,Aa,W_mv,Ab,T.get_set,reduceIte,Nat.reduceEqDiff, ↓reduceIte,BB,t10,e4]
   refine LE_.w TN_ (by omega) ?_
   simp only[VL,Ac,W_oS,W_on,Aa,W_mv,Ab,T.get_set,Ag,Af,Ae,Ah,reduceIte,Nat.reduceEqDiff, ↓reduceIte,t7]
   refine Aco_ hb1 hA1 (Rv (by decide)) (by omega) hfl rfl (by omega) fun s2 col2 hag x2 hA2=> ?_
   have y2:Ext Any Non s0 s2:=y1.on x2 hb0 fun x hx h=>by
    have:=hc x hx
    rcases h with h|h<;>omega
   simp only[CM,Bool.not_true]
   refine W.cond (v:=false) PX_ NW_ (by simp[T.get_set]) (by omega) (fun h=>by cases h) fun _=> ?_
   refine VU.w Jk_ (by omega) ?_
   simp only[Sb,Ac,W_oS,Aa,W_mv,Ab,T.get_set,reduceIte,Nat.reduceEqDiff, ↓reduceIte,BB,t11,e2]
   have g1:nSes (l.take (i+1))=nSes (l.take i):=by rw[ht,GA_];simp
   have g2:nCom (l.take (i+1))=nCom (l.take i)+1:=by rw[ht,Xn];simp
   have hA2':JrA s2 col2 D M J (nmJ 1) (CD 0 0 (l.take (i+1))) (nSes (l.take (i+1))) (nCom (l.take (i+1))) false:=by
    rw[g1,g2,ht,BC_]
    exact hA2
   exact ih (i+1) _ _ _ s2 col2 (by omega) (by omega) AL_ y2 (fun x hx=>by rw[hag x (by omega)];exact hc x hx) hA2' (by simp[T.get_set,t0]) (by simp[T.get_set,t1]) (by simp[T.get_set,t5]) (by simp[T.get_set,t6]) (by simp[T.get_set,t7]) (by rw[g1];simp[T.get_set,t9]) (by rw[g2];simp[T.get_set]) (by simp[T.get_set])
end
theorem Bn.at8 {s:St}{v:Value}{l:List Nat}{i m:Nat}{Q:Value→St→Prop}{j:Int}(h:Bn s v l)(hj:j=(i:Nat))(e:l[i]?=some m)(q: ∀b o,At s b o (.int .u8 (m:Nat))→Q (.pointer (some ⟨b,o,none⟩)) s):W (BD envS 23 v (.int .i64 j)) s Q:=by
 obtain⟨b,o,c,rfl,_,_,hrow⟩:=h
 have hi:=(List.getElem?_eq_some_iff.1 e).1
 rw[F9 hj G3 hi]
 refine q b (o+i*1) ?_
 rw[Nat.mul_one]
 exact hrow i _ (by unfold u8l;rw[List.getElem?_map,e];rfl)
section
variable {D M:Nat}{vm:Value}{a b:Nat}{many:Int}
theorem RB_ {s0:St}(hb0:s0.lim≤s0.next)(ha:a<256)(hb:b<256)(hcx:s0.cx=cxN):
  ∀(k i n:Nat) (tm:T Value) (td:List Item) (s:St) (col:Nat→Nat) (K:DkS) (g:FileS) (R:List (Nat×Nat)),(i:Int)+k=many%((21:Nat):Int)→1000010*(k+1)≤n→skim 64 td=Hd→Ext Any Non s0 s→(∀x,x<s0.next→1000≤col x)→DkI s col D M K→K.fs=[g]→Safe g (nmJ (i+1)) (A7 R)→K.room=1048576→K.out=false→K.fused=false→(∀r∈R,CO r)→R.length≤100→maxJ 1 0 R=a→maxJ 2 0 R=b→
   T.get tm 1=some (.int .i64 many)→T.get tm 5=some (.bool true)→T.get tm 6=some (.pointer (some ⟨D,0,none⟩))→T.get tm 9=some (.int .i64 (a:Nat))→T.get tm 10=some (.int .i64 (b:Nat))→T.get tm 12=some (.int .i64 (i:Nat))→
   W (runF envS n ⟨4,P1,BI,tm,td, .run, .normal,none⟩) s fun p _=>p.1= .bool true:=by
 intro k
 induction k with
 |zero=>
  intro i n tm td s col K g R hi hn hT hx hc hI hK hg hr ho hu hR hRl hRa hRb t1 t5 t6 t9 t10 t12
  refine WO.w hT (by omega) ?_
  simp only[Ui,Ac,W_oS,W_on,Aa,W_mv,Ab,Ag,Af,Ae,Ah,t1,t12]
  refine FF_ (m:=21) (by decide) (by decide) (by omega) ?_
  have d1:decide (((i:Nat):Int)<many%((21:Nat):Int))=false:=decide_eq_false (by omega)
  simp only[Bk,d1]
  refine W.cond (v:=false) BV_ BW_ (by simp[T.get_set]) (by omega) (fun h=>by cases h) fun _=> ?_
  refine HV_.w Mz_ (by omega) ?_
  simp only[Y7,Aa,W_mv,Ab,T.get_set,reduceIte,Nat.reduceEqDiff, ↓reduceIte,t5]
  exact W.end' (rs:=[4]) (vs:=[.bool true]) AdC_ (.inl JF_) (by omega) S3 Y3 (hx.cx.trans hcx) (by simp[T.get_set]) rfl
 |succ k ih=>
  intro i n tm td s col K g R hi hn hT hx hc hI hK hg hr ho hu hR hRl hRa hRb t1 t5 t6 t9 t10 t12
  have hm21:many%((21:Nat):Int)<21:=Int.emod_lt_of_pos _ (by decide)
  have hi20:i<20:=by omega
  refine WO.w hT (by omega) ?_
  simp only[Ui,Ac,W_oS,W_on,Aa,W_mv,Ab,Ag,Af,Ae,Ah,t1,t12]
  refine FF_ (m:=21) (by decide) (by decide) (by omega) ?_
  have d1:decide (((i:Nat):Int)<many%((21:Nat):Int))=true:=decide_eq_true (by omega)
  simp only[Bk,d1]
  refine W.cond (v:=true) BV_ BW_ (by simp[T.get_set]) (by omega) (fun _=> ?_) fun h=>by cases h
  refine Nb_.w Xn_ (by omega) ?_
  simp only[DS_,Ac,W_oS,W_on,Aa,W_mv,Ab,T.get_set,Ag,Af,Ae,Ah,reduceIte,Nat.reduceEqDiff, ↓reduceIte,t6]
  have hbs:=hx.bnd hb0
  have hus:=Pp hK hg
  have hrl:(A7 R).length=9*R.length:=IE _
  refine Vd (m:=i+1) (L:=[(R,[])]) (u:=false) hbs hI (by rw[hK];exact⟨by rw[List.append_nil];exact hg,trivial⟩) (fun p hp=>by rw[List.mem_singleton.1 hp];exact⟨hR,hRl,by simp⟩) (fun h=>by cases h) (by omega) (show i+1+1≤39 by omega) (by omega) hr ho hu (by omega) (XN_ hK hg.name (by omega) (by omega)) (fun h=>by cases h) fun s1 col1 J k1 g1 hag1 x1 hJ1 hK1=> ?_
  have m1:maxA 1 0 [(R,[])]=a:=hRa
  have m2:maxA 2 0 [(R,[])]=b:=hRb
  rw[m1,m2]at hK1
  have hK1:JrI s1 col1 D M J (nmJ (i+1+1)) [(1,a),(2,b)] a b false k1 g1:=hK1
  have hsl:s0.next≤s.next:=hx.nxt
  have y1:Ext Any Non s0 s1:=hx.on x1 hb0 fun x hx h=>by have:=hc x hx;omega
  have hc1: ∀x,x<s0.next→1000≤col1 x:=fun x hx=>by rw[hag1 x (by omega) (hc x hx)];exact hc x hx
  try simp only[Ac,W_oS,W_on,Aa,W_mv,Ab,Ap,T.get_set,Ag,Af,Ar,Aq,Ae,Ah,reduceIte,Ak,As,Av,Aw,Ao,Aj,An,Au,Al,Ai,Nat.reduceEqDiff,reduceCtorEq, ↓reduceIte]
  rw[Bv (k:=0) rfl]
  try simp only[Ac,W_oS,W_on,Aa,W_mv,Ab,Ap,T.get_set,Ag,Af,Ar,Aq,Ae,Ah,reduceIte,Ak,As,Av,Aw,Ao,Aj,An,Au,Al,Ai,Nat.reduceEqDiff,reduceCtorEq, ↓reduceIte]
  rw[Bv (k:=1) rfl]
  try simp only[Ac,W_oS,W_on,Aa,W_mv,Ab,Ap,T.get_set,Ag,Af,Ar,Aq,Ae,Ah,reduceIte,Ak,As,Av,Aw,Ao,Aj,An,Au,Al,Ai,Nat.reduceEqDiff,reduceCtorEq, ↓reduceIte]
  refine XK_.w SY_ (by omega) ?_
  simp only[X9,Ac,W_on,Aa,W_mv,Ab,T.get_set,Ag,Af,Ae,Ah,reduceIte,Nat.reduceEqDiff, ↓reduceIte,t6]
  have hnm:k1.fs.map FileS.name=[nmJ (i+1+1)]:=by rw[hK1.fs];show [g1.name]=_;rw[hK1.safe.name]
  refine Uo (p:=⟨#[]⟩) (y1.bnd hb0) hK1.dk (by rw[hnm];exact Eb_ (by omega)) (by rw[hnm];intro a ha;rw[List.mem_singleton.1 ha];exact Vx_ (by omega)) (by rw[hK1.fs];show 10*1+500≤_;omega) fun s2 v2 b2 hb2 hr2 x2=> ?_
  rw[hnm]at hr2
  have hK2:=hK1.ext x2 fun _ _ g=>g.elim
  have y2:=y1.then0 x2 hb0
  have hr2':MkS s2 1 1 [Value.string (nmJ (i+1+1))] v2 b2:=hr2
  obtain⟨c2,rfl,ho2⟩:=hr2.at (i:=0) (by simp)
  have ho2:Own s2 b2 (0+0*1) (.string (nmJ (i+1+1))):=ho2
  try simp only[Ac,W_oS,W_on,Aa,W_mv,Ab,Ap,T.get_set,Ag,Af,Ar,Aq,Ae,Ah,reduceIte,Ak,As,Av,Aw,Ao,Aj,An,Au,Al,Ai,Nat.reduceEqDiff,reduceCtorEq, ↓reduceIte]
  refine Adw_.w WD_ (by omega) ?_
  simp only[WB,Ac,W_oS,W_on,Aa,W_mv,Ab,T.get_set,Ag,Af,Ae,Ah,reduceIte,Ak,Ao,Aj,An,Al,Nat.reduceEqDiff,reduceCtorEq, ↓reduceIte,Bt,t6,t9,t10,decide_true,Bool.not_true,C8 PX]
  refine Aea_ (y2.bnd hb0) ⟨k1,g1,hK2⟩ (by omega) fun s3 x3=> ?_
  have hK3:=hK2.ext x3 fun _ _ g=>g.elim
  have y3:=y2.then0 x3 hb0
  have ho3:=ho2.ext0 x3
  have d1q:(!decide (((1:Nat):Int)=1))=false:=rfl
  simp only[W_oS,W_on,Aa,Ah,reduceIte,Ak,Ao,Aj,An,Al,reduceCtorEq, ↓reduceIte,Bt,CM,Bool.not_true,CU Hz,List.length_singleton,d1q]
  simp only[Un Hz (show 0<1 by decide)]
  refine W.load1 CN ho3.at' ?_
  have y4:=y3.thenRd hb0 (b2+(0+0*1))
  have hK4:JrI (s3.rdN (b2+(0+0*1))) col1 D M J _ _ _ _ _ k1 g1:=hK3.same rfl rfl
  have ho4:Own (s3.rdN (b2+(0+0*1))) b2 (0+0*1) _:=ho3.same rfl rfl
  generalize s3.rdN (b2+(0+0*1))=s4 at *
  have hk0:0<k1.fs.length:=by rw[hK1.fs];show 0<1;decide
  have hg0:k1.fs[0]=g1:=by
   have e:k1.fs[0]?=some g1:=by rw[hK1.fs];rfl
   rw[List.getElem?_eq_getElem hk0]at e
   exact Option.some.inj e
  have hlk:=QO hK1.fs hK1.safe
  try simp only[Ac,W_oS,W_on,Aa,W_mv,Ab,Ap,T.get_set,Ag,Af,Ar,Aq,Ae,Ah,reduceIte,Ak,As,Av,Aw,Ao,Aj,An,Au,Al,Ai,Nat.reduceEqDiff,reduceCtorEq, ↓reduceIte]
  refine AaD_ (y4.bnd hb0) hK4.dk hk0 hlk (by omega) fun s5 x5=> ?_
  have hK5:=hK4.ext x5 fun _ _ g=>g.elim
  have y5:=y4.then0 x5 hb0
  have ho5:=ho4.ext0 x5
  have hl0:((k1.fs[0].lb.length:Nat):Int)=0:=by rw[hg0,hK1.safe.lb];rfl
  rw[hl0]
  simp only[Bt,decide_true,Bool.not_true]
  refine W.cond (v:=false) Ib_ Mo_ (by simp[T.get_set]) (by omega) (fun h=>by cases h) fun _=> ?_
  refine AeE_.w Zi_ (by omega) ?_
  simp only[Zf,Ac,W_oS,W_on,Aa,W_mv,Ab,T.get_set,Ag,Af,Ae,Ah,reduceIte,Nat.reduceEqDiff, ↓reduceIte,t6]
  simp only[Un Hz (show 0<1 by decide)]
  refine W.load1 CN ho5.at' ?_
  have y6:=y5.thenRd hb0 (b2+(0+0*1))
  have hK6:JrI (s5.rdN (b2+(0+0*1))) col1 D M J _ _ _ _ _ k1 g1:=hK5.same rfl rfl
  generalize s5.rdN (b2+(0+0*1))=s6 at *
  try simp only[Ac,W_oS,W_on,Aa,W_mv,Ab,Ap,T.get_set,Ag,Af,Ar,Aq,Ae,Ah,reduceIte,Ak,As,Av,Aw,Ao,Aj,An,Au,Al,Ai,Nat.reduceEqDiff,reduceCtorEq, ↓reduceIte]
  have hus1:=Pp hK1.fs hK1.safe
  have h18:(A7 [(1,a),(2,b)]).length=18:=IE _
  refine QG (y6.bnd hb0) hK6.dk (by rw[hK1.fs];show 1≤300;decide) (by omega) (by omega) (fun h=>by rw[hK1.ou]at h;cases h) (fun _ h=>by rw[hlk]at h;cases h) fun _ j hj hjl s7 v7 x7 hb7 hn7=> ?_
  rw[hlk]at hj
  cases hj
  have hb7:Bs s7 v7 (A7 [(1,a),(2,b)]):=by
   have e:(k1.fs[0]'hjl).all=A7 [(1,a),(2,b)]:=by
    unfold FileS.all
    rw[hg0,hK1.safe.sb,hK1.safe.lb,List.append_nil]
   rw[←e]
   exact hb7
  have hK7:=hK6.ext x7 fun _ _ g=>g.elim
  have y7:=y6.then0 x7 hb0
  have hbn7:Bn s7 v7 (A7 [(1,a),(2,b)]):=hb7.resolve_left fun h=>by have:=congrArg List.length h.2;rw[h18]at this;cases this
  try simp only[Ac,W_oS,W_on,Aa,W_mv,Ab,Ap,T.get_set,Ag,Af,Ar,Aq,Ae,Ah,reduceIte,Ak,As,Av,Aw,Ao,Aj,An,Au,Al,Ai,Nat.reduceEqDiff,reduceCtorEq, ↓reduceIte]
  rw[Bv (k:=0) rfl]
  try simp only[Ac,W_oS,W_on,Aa,W_mv,Ab,Ap,T.get_set,Ag,Af,Ar,Aq,Ae,Ah,reduceIte,Ak,As,Av,Aw,Ao,Aj,An,Au,Al,Ai,Nat.reduceEqDiff,reduceCtorEq, ↓reduceIte]
  rw[Bv (k:=1) rfl]
  try simp only[Ac,W_oS,W_on,Aa,W_mv,Ab,Ap,T.get_set,Ag,Af,Ar,Aq,Ae,Ah,reduceIte,Ak,As,Av,Aw,Ao,Aj,An,Au,Al,Ai,Nat.reduceEqDiff,reduceCtorEq, ↓reduceIte]
  refine Ng_.w Acd_ (by omega) ?_
  have d18:(!decide (((18:Nat):Int)=18))=false:=rfl
  simp only[UJ,Ac,W_oS,W_on,Aa,W_mv,Ab,T.get_set,Ag,Af,Ae,reduceIte,Ak,Ao,Aj,An,Al,Nat.reduceEqDiff,reduceCtorEq, ↓reduceIte,Bt,decide_true,Bool.not_true,hb7.len BQ,h18,d18]
  refine W.cond (v:=false) Zc_ Tu_ (by simp[T.get_set]) (by omega) (fun h=>by cases h) fun _=> ?_
  refine Xs_.w AfN_ (by omega) ?_
  simp only[Cx_,Ac,W_oS,W_on,Aa,W_mv,Ab,T.get_set,Ag,Af,Ae,Ah,reduceIte,Nat.reduceEqDiff, ↓reduceIte]
  have rk1:CO (1,a):=⟨by simp,by simp,ha⟩
  have rk2:CO (2,b):=⟨by simp,by simp,hb⟩
  refine W.cut hbn7 BQ (i:=0) (j:=9) rfl rfl (Nat.zero_le _) (by omega) fun v8 hv8 hF8=> ?_
  rw[show((A7 [(1,a),(2,b)]).take 9).drop 0=recJ (1,a)from by have:=Az_ (r:=(1,a)) (l:=[(2,b)]) (t:=[]);rw[List.append_nil]at this;exact this]at hv8
  try simp only[Ac,W_oS,W_on,Aa,W_mv,Ab,Ap,T.get_set,Ag,Af,Ar,Aq,Ae,Ah,reduceIte,Ak,As,Av,Aw,Ao,Aj,An,Au,Al,Ai,Nat.reduceEqDiff,reduceCtorEq, ↓reduceIte]
  refine Us (y7.bnd hb0) hv8 (P0 rk1) (by rw[Cx];decide) (by rw[Cx];omega) (fun _ s8 w8 x8 hw8 _=> ?_) fun hno=>absurd (Pv _) hno
  rw[Q3]at hw8
  have hK8:=hK7.ext x8 fun _ _ g=>g.elim
  have y8:=y7.then0 x8 hb0
  have hbn8:Bn s8 v7 (A7 [(1,a),(2,b)]):=(hb7.ext0 x8).resolve_left fun h=>by have:=congrArg List.length h.2;rw[h18]at this;cases this
  try simp only[Ac,W_oS,W_on,Aa,W_mv,Ab,Ap,T.get_set,Ag,Af,Ar,Aq,Ae,Ah,reduceIte,Ak,As,Av,Aw,Ao,Aj,An,Au,Al,Ai,Nat.reduceEqDiff,reduceCtorEq, ↓reduceIte]
  rw[Bv (k:=0) rfl]
  try simp only[Ac,W_oS,W_on,Aa,W_mv,Ab,Ap,T.get_set,Ag,Af,Ar,Aq,Ae,Ah,reduceIte,Ak,As,Av,Aw,Ao,Aj,An,Au,Al,Ai,Nat.reduceEqDiff,reduceCtorEq, ↓reduceIte]
  rw[Bv (k:=1) rfl]
  try simp only[Ac,W_oS,W_on,Aa,W_mv,Ab,Ap,T.get_set,Ag,Af,Ar,Aq,Ae,Ah,reduceIte,Ak,As,Av,Aw,Ao,Aj,An,Au,Al,Ai,Nat.reduceEqDiff,reduceCtorEq, ↓reduceIte]
  refine Lr_.w TS_ (by omega) ?_
  simp only[Wb,Ac,W_oS,W_on,Aa,W_mv,Ab,T.get_set,Ag,Af,Ae,Ah,reduceIte,Nat.reduceEqDiff, ↓reduceIte]
  refine W.cut hbn8 BQ (i:=9) (j:=(A7 [(1,a),(2,b)]).length) rfl rfl (by omega) (Nat.le_refl _) fun v9 hv9 hF9=> ?_
  rw[List.take_length,show(A7 [(1,a),(2,b)]).drop 9=recJ (2,b)from by have:=Zx (r:=(1,a)) (l:=[(2,b)]) (t:=[]);rw[List.append_nil,List.append_nil,CG_]at this;exact this]at hv9
  try simp only[Ac,W_oS,W_on,Aa,W_mv,Ab,Ap,T.get_set,Ag,Af,Ar,Aq,Ae,Ah,reduceIte,Ak,As,Av,Aw,Ao,Aj,An,Au,Al,Ai,Nat.reduceEqDiff,reduceCtorEq, ↓reduceIte]
  refine Us (y8.bnd hb0) hv9 (P0 rk2) (by rw[Cx];decide) (by rw[Cx];omega) (fun _ s9 w9 x9 hw9 _=> ?_) fun hno=>absurd (Pv _) hno
  rw[Q3]at hw9
  have hK9:=hK8.ext x9 fun _ _ g=>g.elim
  have y9:=y8.then0 x9 hb0
  have q8:Bs s9 w8 [1,0,0,0,a]:=hw8.bn.bs.ext0 x9
  have q9:Bs s9 w9 [2,0,0,0,b]:=hw9.bn.bs
  have bnn: ∀{s':St} {v:Value} {x y:Nat},Bs s' v [x,0,0,0,y]→Bn s' v [x,0,0,0,y]:=fun h=>h.resolve_left fun h=>by have:=congrArg List.length h.2;cases this
  try simp only[Ac,W_oS,W_on,Aa,W_mv,Ab,Ap,T.get_set,Ag,Af,Ar,Aq,Ae,Ah,reduceIte,Ak,As,Av,Aw,Ao,Aj,An,Au,Al,Ai,Nat.reduceEqDiff,reduceCtorEq, ↓reduceIte]
  rw[Bv (k:=0) rfl]
  try simp only[Ac,W_oS,W_on,Aa,W_mv,Ab,Ap,T.get_set,Ag,Af,Ar,Aq,Ae,Ah,reduceIte,Ak,As,Av,Aw,Ao,Aj,An,Au,Al,Ai,Nat.reduceEqDiff,reduceCtorEq, ↓reduceIte]
  rw[Bv (k:=1) rfl]
  try simp only[Ac,W_oS,W_on,Aa,W_mv,Ab,Ap,T.get_set,Ag,Af,Ar,Aq,Ae,Ah,reduceIte,Ak,As,Av,Aw,Ao,Aj,An,Au,Al,Ai,Nat.reduceEqDiff,reduceCtorEq, ↓reduceIte]
  refine AcW_.w AeO_ (by omega) ?_
  have d5:(!decide (((5:Nat):Int)=5))=false:=rfl
  have l5: ∀x y:Nat,[x,0,0,0,y].length=5:=fun _ _=>rfl
  simp only[Yk,Ac,W_oS,W_on,Aa,W_mv,Ab,T.get_set,Ag,Af,Ae,reduceIte,Ak,Ao,Aj,An,Al,Nat.reduceEqDiff,reduceCtorEq, ↓reduceIte,Bt,t9,t10,decide_true,Bool.not_true,q8.len BQ,q9.len BQ,l5,d5]
  refine(bnn q8).at8 (i:=0) rfl rfl fun ba oa hat=>W.load1 DX hat ?_
  have y10:=y9.thenRd hb0 (ba+oa)
  have q8':Bs (s9.rdN (ba+oa)) w8 _:=q8.same rfl rfl
  have q9':Bs (s9.rdN (ba+oa)) w9 _:=q9.same rfl rfl
  have hK10:JrI (s9.rdN (ba+oa)) col1 D M J _ _ _ _ _ k1 g1:=hK9.same rfl rfl
  clear hat
  generalize s9.rdN (ba+oa)=s10 at *
  try simp only[Ac,W_oS,W_on,Aa,W_mv,Ab,Ap,T.get_set,Ag,Af,Ar,Aq,Ae,Ah,reduceIte,Ak,As,Av,Aw,Ao,Aj,An,Au,Al,Ai,Nat.reduceEqDiff,reduceCtorEq, ↓reduceIte]
  refine(Rc (m:=1) (n:=1) _).mpr ?_
  simp only[decide_true,Bool.not_true,W_oS,Aa,reduceIte,Ak,Ao,Aj,An,Al,reduceCtorEq, ↓reduceIte]
  refine(bnn q9').at8 (i:=0) rfl rfl fun ba oa hat=>W.load1 DX hat ?_
  have y11:=y10.thenRd hb0 (ba+oa)
  have q8:Bs (s10.rdN (ba+oa)) w8 _:=q8'.same rfl rfl
  have q9:Bs (s10.rdN (ba+oa)) w9 _:=q9'.same rfl rfl
  have hK11:JrI (s10.rdN (ba+oa)) col1 D M J _ _ _ _ _ k1 g1:=hK10.same rfl rfl
  clear hat
  generalize s10.rdN (ba+oa)=s11 at *
  try simp only[Ac,W_oS,W_on,Aa,W_mv,Ab,Ap,T.get_set,Ag,Af,Ar,Aq,Ae,Ah,reduceIte,Ak,As,Av,Aw,Ao,Aj,An,Au,Al,Ai,Nat.reduceEqDiff,reduceCtorEq, ↓reduceIte]
  refine(Rc (m:=2) (n:=2) _).mpr ?_
  simp only[decide_true,Bool.not_true,W_oS,Aa,reduceIte,Ak,Ao,Aj,An,Al,reduceCtorEq, ↓reduceIte]
  refine(bnn q8).at8 (i:=4) rfl rfl fun ba oa hat=>W.load1 DX hat ?_
  have y12:=y11.thenRd hb0 (ba+oa)
  have q9':Bs (s11.rdN (ba+oa)) w9 _:=q9.same rfl rfl
  have hK12:JrI (s11.rdN (ba+oa)) col1 D M J _ _ _ _ _ k1 g1:=hK11.same rfl rfl
  clear hat
  generalize s11.rdN (ba+oa)=s12 at *
  try simp only[Ac,W_oS,W_on,Aa,W_mv,Ab,Ap,T.get_set,Ag,Af,Ar,Aq,Ae,Ah,reduceIte,Ak,As,Av,Aw,Ao,Aj,An,Au,Al,Ai,Nat.reduceEqDiff,reduceCtorEq, ↓reduceIte]
  rw[EY ha]
  simp only[W_oS,Aa,reduceIte,Ak,Ao,Aj,An,Al,reduceCtorEq, ↓reduceIte,Bt,decide_true,Bool.not_true]
  refine(bnn q9').at8 (i:=4) rfl rfl fun ba oa hat=>W.load1 DX hat ?_
  have y13:=y12.thenRd hb0 (ba+oa)
  have hK13:JrI (s12.rdN (ba+oa)) col1 D M J _ _ _ _ _ k1 g1:=hK12.same rfl rfl
  clear hat
  generalize s12.rdN (ba+oa)=s13 at *
  try simp only[Ac,W_oS,W_on,Aa,W_mv,Ab,Ap,T.get_set,Ag,Af,Ar,Aq,Ae,Ah,reduceIte,Ak,As,Av,Aw,Ao,Aj,An,Au,Al,Ai,Nat.reduceEqDiff,reduceCtorEq, ↓reduceIte]
  rw[EY hb]
  simp only[Bt,decide_true,Bool.not_true]
  refine W.cond (v:=false) VU_ AfW_ (by simp[T.get_set]) (by omega) (fun h=>by cases h) fun _=> ?_
  refine Sy_.w XD_ (by omega) ?_
  have e2:wrap64 (((i:Nat):Int)+1)=((i+1:Nat):Int):=by
   rw[BZ (by omega) (by omega)];simp
  simp only[CR_,Ac,W_oS,Aa,W_mv,Ab,T.get_set,reduceIte,Nat.reduceEqDiff, ↓reduceIte,BB,t12,e2]
  exact ih (i+1) _ _ _ s13 col1 k1 g1 [(1,a),(2,b)] (by omega) (by omega) ZV_ y13 hc1 hK13.dk hK1.fs hK1.safe hK1.room hK1.ou hK1.fu (fun r hr=>by
   rcases List.mem_cons.1 hr with rfl|hr
   ·exact rk1
   ·rw[List.mem_singleton.1 hr];exact rk2) (by simp) (by show max 0 a=a;omega) (by show max 0 b=b;omega) (by simp[T.get_set,t1]) (by simp[T.get_set,t5]) (by simp[T.get_set,t6]) (by simp[T.get_set,t9]) (by simp[T.get_set,t10]) (by simp[T.get_set])
end
theorem OR_ {n:Nat}{s:St}{va:Value}{l:List Bool}{many:Int}(hb:s.lim≤s.next)(hl:BoR s va l)(hll:l.length≤9223372036854775807)(hn:40000000≤n):
  W (Ay envS (runF envS n) 4 [va, .int .i64 many]) s fun v _=>v= .bool true:=by
 have hb0:(s.cxN cxN).lim≤(s.cxN cxN).next:=hb
 have hl0:BoR (s.cxN cxN) va l:=hl.same rfl rfl
 refine AbH_ fun tm t0 t1=> ?_
 refine Ny_.w rfl (by omega) ?_
 simp only[Co_,Aa,W_mv,Ab]
 refine Aaa_.w ZE_ (by omega) ?_
 simp only[AG_,Ac,W_on,Aa,W_mv,Ab,Af,Ah]
 refine W.orc Sb_ (W.pure ?_)
 try simp only[Ac,W_oS,W_on,Aa,W_mv,Ab,Ap,T.get_set,Ag,Af,Ar,Aq,Ae,Ah,reduceIte,Ak,As,Av,Aw,Ao,Aj,An,Au,Al,Ai,Nat.reduceEqDiff,reduceCtorEq, ↓reduceIte]
 refine AdY_.w AcU_ (by omega) ?_
 simp only[Dl_,Ac,W_oS,W_on,Aa,W_mv,Ab,Af,Ah]
 refine Aba_ hb0 (by omega) fun s1 col1 D M J hD hJ hc1 x1 hA1=> ?_
 have hs1:s.next≤s1.next:=x1.nxt
 try simp only[Ac,W_oS,W_on,Aa,W_mv,Ab,Ap,T.get_set,Ag,Af,Ar,Aq,Ae,Ah,reduceIte,Ak,As,Av,Aw,Ao,Aj,An,Au,Al,Ai,Nat.reduceEqDiff,reduceCtorEq, ↓reduceIte]
 rw[Bv (k:=0) rfl]
 try simp only[Ac,W_oS,W_on,Aa,W_mv,Ab,Ap,T.get_set,Ag,Af,Ar,Aq,Ae,Ah,reduceIte,Ak,As,Av,Aw,Ao,Aj,An,Au,Al,Ai,Nat.reduceEqDiff,reduceCtorEq, ↓reduceIte]
 rw[Bv (k:=1) rfl]
 try simp only[Ac,W_oS,W_on,Aa,W_mv,Ab,Ap,T.get_set,Ag,Af,Ar,Aq,Ae,Ah,reduceIte,Ak,As,Av,Aw,Ao,Aj,An,Au,Al,Ai,Nat.reduceEqDiff,reduceCtorEq, ↓reduceIte]
 rw[Bv (k:=2) rfl]
 try simp only[Ac,W_oS,W_on,Aa,W_mv,Ab,Ap,T.get_set,Ag,Af,Ar,Aq,Ae,Ah,reduceIte,Ak,As,Av,Aw,Ao,Aj,An,Au,Al,Ai,Nat.reduceEqDiff,reduceCtorEq, ↓reduceIte]
 refine OP_.w IL_ (by omega) ?_
 by_cases h30:30<l.length
 ·have d1:decide (((l.length:Nat):Int)>30)=true:=decide_eq_true (by omega)
  simp only[Ql,Ac,W_oS,W_on,Aa,W_mv,Ab,T.get_set,Ag,Af,Ae,reduceIte,Ak,Av,Aj,Au,Al,reduceCtorEq, ↓reduceIte,B4,t0,BoR.len hl0,d1]
  refine W.cond (v:=true) Ar_ WT (by simp[T.get_set]) (by omega) (fun _=> ?_) fun h=>by cases h
  refine RA_.w Ll_ (by omega) ?_
  simp only[ZL,Ac,W_oS,W_on,Aa,W_mv,Ab,T.get_set,reduceIte,Ak,As,Aj,An,Al,Nat.reduceEqDiff, ↓reduceIte]
  exact W.end' (rs:=[4]) (vs:=[.bool true]) AfC_ (.inl JE_) (by omega) S3 Y3 x1.cx (by simp[T.get_set]) rfl
 have d1:decide (((l.length:Nat):Int)>30)=false:=decide_eq_false (by omega)
 simp only[Ql,Ac,W_oS,W_on,Aa,W_mv,Ab,T.get_set,Ag,Af,Ae,reduceIte,Ak,Ao,Aj,An,Al,reduceCtorEq, ↓reduceIte,B4,t0,BoR.len hl0,d1,CM,Bool.not_true]
 refine W.cond (v:=false) Ar_ WT (by simp[T.get_set]) (by omega) (fun h=>by cases h) fun _=> ?_
 refine ZO_.w Acf_ (by omega) ?_
 simp only[Bq_,Aa,W_mv,Ab]
 refine YM_.w Nj_ (by omega) ?_
 simp only[VQ,Aa,W_mv,Ab]
 have hsum:=nSum l
 have hro: ∀r∈CD 0 0 l,CO r:=Aci_ (by omega) (by omega)
 refine Abk_ (s0:=s.cxN cxN) (vm:= .int .i64 many) (l:=l) (D:=D) (M:=M) (J:=J) hb0 hJ hl0 (by omega) (fun n2 tm2 td2 s2 col2 hn2 hT2 y2 hc2 hA2 g1 g5 g6 g9 g10=> ?_) l.length 0 _ _ _ s1 col1 (by omega) (by omega) Pk_ x1 hc1 hA1 (by simp[T.get_set,t0]) (by simp[T.get_set,t1]) (by simp[T.get_set]) (by simp[T.get_set]) (by simp[T.get_set]) (by simp[T.get_set];rfl) (by simp[T.get_set];rfl) (by simp[T.get_set])
 refine MV_.w hT2 (by omega) ?_
 simp only[Cg_,Aa,W_mv,Ab]
 obtain⟨K,g,hK⟩:=hA2
 have h21:(0:Int)≤many%((21:Nat):Int):=Int.emod_nonneg _ (by decide)
 have hm21:many%((21:Nat):Int)<21:=Int.emod_lt_of_pos _ (by decide)
 exact RB_ (s0:=s.cxN cxN) (a:=nSes l) (b:=nCom l) (many:=many) hb0 (by omega) (by omega) rfl (many%((21:Nat):Int)).toNat 0 _ _ _ s2 col2 K g (CD 0 0 l) (by omega) (by omega) Py_ y2 hc2 hK.dk hK.fs hK.safe hK.room hK.ou hK.fu hro (by rw[UZ];omega) (by rw[Aeg_,Nat.zero_add]) (by rw[Tt_,Nat.zero_add]) (by simp[T.get_set,g1]) (by simp[T.get_set,g5]) (by simp[T.get_set,g6]) (by simp[T.get_set,g9]) (by simp[T.get_set,g10]) (by simp[T.get_set])
open Go.RowKit Go.ChangeShapes Go.WideShapes
section
attribute [local irreducible] Be
theorem Ed_:Tryz.f4.params.toList=[22,3]:=by kernel_rfl
theorem Wu_:envS.orc.get 4=none:=by kernel_rfl
theorem SJ_:envS.ext.get 4=none:=by kernel_rfl
theorem Wj_:[22,3].all (Dr Tryz.prog 6)=true:=by kernel_rfl
set_option maxRecDepth 1000000 in
theorem walkFiles {H:Type}{enc:TypeId×Value→H}{w:World}{base:Nat}{args:Array Value}{ds:List (DataW H)}{ps:List MemPlace}(hA:DataW.TrodAll enc Tryz.prog w 0 (fun _=>true) true Tryz.f4.params.toList args.toList ds ps)
  (hv: ∀(j:Nat) t v,Tryz.f4.params[j]?=some t→args[j]?=some v→Value.okWide Tryz.prog w .any base t v):Calls Tryz.prog 4 args w fun e w'=>e= .returned (.bool true)∧Below w.heap.size w w':=by
 have hv': ∀(j:Nat) t v,[22,3][j]?=some t→args.toList[j]?=some v→Value.okWide Tryz.prog w .any base t v:=fun j t v e1 e2=>by
  rw[←Ed_]at e1
  rw[Array.getElem?_toList]at e1 e2
  exact hv j t v e1 e2
 rw[Ed_]at hA
 have hE:envS.P=Tryz.prog:=Pz_
 have h:=WX_ (E:=envS) (fuel:=41000000) (f:=4) (F:=6) (N:=maxLen) (v:= .bool true) (ts:=[22,3]) Ta_ Wu_ SJ_ rfl (by rw[hE];exact hA) (by rw[hE];exact hv') (by rw[hE];exact Wj_) (.inl (Nat.le_refl _)) (fun m nx us hus hu=>by
  rw[hE]at hu
  match us,hus,hu with
  |[u0,u1],_,hu=>
   have k0:=(hu 0 _ u0 rfl rfl).one Abd_
   have k1:=(hu 1 _ u1 rfl rfl).one ML_
   obtain⟨v,l,e0,hB,hM,_⟩:=RU_ (F:=4) Nx_ LD_ Acj_ k0
   obtain⟨y,e1,_⟩:=k1.int' Acx_
   cases e0
   cases e1
   exact OR_ (Nat.zero_le _) hB hM (by omega))
 rw[hE]at h
 exact h
end
open Go.RowKit Go.ChangeShapes
noncomputable def zeroT (P:Program)(t:Nat):Value:=((P.info? t).bind (·.zero)).getD .nilFunc
section
variable {H:Type}{enc:TypeId×Value→H}{P:Program}{W W':World}
theorem below_all (hl:laidOutB P=true)(hb:Below W.heap.size W W'){sp:Nat→Bool}: ∀{ts:List TypeId} {vs:List Value} {ds:List (DataW H)} {ps:List MemPlace},(ts.all fun t=>P.readableRec t&&decide (t<P.types.size))=true→DataW.TrodAll enc P W 0 (fun _=>true) true ts vs ds ps→(∀x∈ps,x.block<W.heap.size)→(∀x∈ps,sp x.block=true)→
  DataW.TrodAll enc P W' 0 sp true ts vs ds ps
 |[],_,_,_,_,h,_,_=>by
  obtain⟨rfl,rfl,rfl⟩:=trodAll_nil h
  exact trodAll_mk0
 |t::ts,_,_,_,hr,h,hlt,hsp=>by
  obtain⟨v,vs,d,ds,p,q,rfl,rfl,rfl,h1,h2⟩:=trodAll_cons h
  rw[List.all_cons,Bool.and_eq_true,Bool.and_eq_true]at hr
  refine⟨p,q,WideElems.Trod_stays hl hr.1.1 (of_decide_eq_true hr.1.2) h1 (fun x hx=>hb.same (hlt x (List.mem_append_left _ hx))) (fun x hx=>hsp x (List.mem_append_left _ hx)), ?_,rfl⟩
  exact below_all hl hb hr.2 h2 (fun x hx=>hlt x (List.mem_append_right _ hx)) (fun x hx=>hsp x (List.mem_append_right _ hx))
end
end Go.Proofs.YtndednnianphoaaGreatDoor.Am
