import Derived.Test.YtofanlcjeohcjaaIFn23
import Derived.Test.YtofanlcjeohcjaaIFn08
namespace Go.Proofs.Ytofanlcjeohcjaa.Am
open Go.RowKit
def Bl:List PkI→List Nat→Option (Int×HdI)
 |[],_=>none
 |p::ps,id=>match Bl ps id with
  |some r=>some r
  |none=>(BI p.hs id).map fun h=>(p.num,h)
theorem Uh (id:List Nat)(p:PkI): ∀l:List PkI,Bl (l++[p]) id=match BI p.hs id with|some h=>some (p.num,h)|none=>Bl l id
 |[]=>by
  show(match Bl [] id with|some r=>some r|none=>(BI p.hs id).map fun h=>(p.num,h))=_
  cases BI p.hs id<;>rfl
 |q::l=>by
  show(match Bl (l++[p]) id with|some r=>some r|none=>(BI q.hs id).map fun h=>(q.num,h))=_
  rw[Uh id p l]
  cases BI p.hs id<;>rfl
theorem Ow {ps:List PkI}{id:List Nat}{k:Nat}(hk:k<ps.length):Bl (ps.take (k+1)) id=match BI ps[k].hs id with|some h=>some (ps[k].num,h)|none=>Bl (ps.take k) id:=by
 rw[List.take_succ_eq_append_getElem hk,Uh]
theorem QS (k:List Item):skim 64 (DE (some .ret)++k)= .code .ret::k:=rfl
theorem Em_ {C l d n:Nat}{tm0:T Value}{id:List Nat}{p:PkI}{i:Int}{s:St}{Q:Value→St→Prop}(hb:s.lim≤s.next)(hO:FnO s C id)(hL:LP s l .ready none tm0 d)(hT:FnT C tm0)(hid:id.length=16)(hv:HiR s p.v p.hs)(h16: ∀h∈p.hs,h.1.length=16)(hvl: ∀x,HiF p.v x→x<C)(hz:p.hs.length≤1000000000)(hlC:C+40≤l)(hn:8*p.hs.length+400≤n)
  (q1:BI p.hs id=none→ ∀s1,Ext Any (fun x=>x=l) s s1→LP s1 l .ready none tm0 d→Q (.bool true) s1)
  (q2: ∀h,BI p.hs id=some h→ ∀s1,Ext Any (fun x=>x=l∨FnG C x) s s1→LP s1 l .done (some .ret) tm0 d→FnV s1 C p.num h true→Q (.bool false) s1):
  W (BR (runF envS n) l [.int .i64 i, .agg (pkC p).toArray]) s Q:=by
 have hll:=hL.1
 have hone:=hv.one
 refine W.round hL rfl (by rfl) ?_
 rw[Ib_]
 have x0:Ext Any (fun x=>x=l) (s.cxN cxR) ((s.rdN l).cxN cxR):=(Ext.rdN (F:=Any) (G:=fun x=>x=l) (s.cxN cxR) l fun _=>trivial)
 have hL0:LP ((s.rdN l).cxN cxR) l .ready none tm0 d:=hL.same rfl rfl
 have hO0:FnO ((s.rdN l).cxN cxR) C id:=hO.same rfl rfl
 have hv0:HiR ((s.rdN l).cxN cxR) p.v p.hs:=hv.same rfl rfl
 have hn0:((s.rdN l).cxN cxR).next=s.next:=rfl
 generalize (s.rdN l).cxN cxR=s0 at *
 have hb0:(s.cxN cxR).lim≤(s.cxN cxR).next:=hb
 refine GD_.w Ig_ (by omega) ?_
 simp only[Tw,Ac,W_oS,W_on,Aa,W_mv,Ab,Ag,T.get_set,Ae,Ad,Ak,Al,Af,Au,reduceIte,Ai,Aq,Av,As,Ah,Ap,Ao,Ar,Aj,An,Nat.reduceEqDiff,reduceCtorEq, ↓reduceIte]
 refine W.alloc Uw fun s1 n1 x1 o1=> ?_
 try simp only[Ac,W_oS,W_on,Aa,W_mv,Ab,Ag,T.get_set,Ae,Ad,Ak,Al,Af,Au,reduceIte,Ai,Aq,Av,As,Ah,Ap,Ao,Ar,Aj,An,Nat.reduceEqDiff,reduceCtorEq, ↓reduceIte]
 have n1':s1.next=s.next+4:=by rw[n1,hn0];rfl
 rw[hn0]at o1
 have y1:=x0.on x1 hb0 fun _ _ h=>h.elim
 refine W.store KS (v:= .agg (pkC p).toArray) rfl (LJ hone) (fun j hj=>by rw[hn0];exact(AI.owned o1) j (by simpa using hj)) fun s2 n2 x2 o2=> ?_
 rw[Cx]at o2
 rw[hn0]at x2 o2 ⊢
 have y2:=y1.on x2 hb0 fun x hx hq=>by
  have h1:x<s.next:=hx
  have h2:=hq.1
  omega
 have hL2:LP s2 l .ready none tm0 d:=(hL0.ext x1 fun h=>h).ext x2 fun hq=>by have:=hq.1;omega
 have hO2:FnO s2 C id:=(hO0.ext hid x1 fun _ _ _ h=>h).ext hid x2 fun y h1 h2 hq=>by have:=hq.1;omega
 have hv2:HiR s2 p.v p.hs:=(hv0.ext0 x1).ext h16 x2 fun x h1 hq=>by have:=hvl x h1;have:=hq.1;omega
 try simp only[Ac,W_oS,W_on,Aa,W_mv,Ab,Ag,T.get_set,Ae,Ad,Ak,Al,Af,Au,reduceIte,Ai,Aq,Av,As,Ah,Ap,Ao,Ar,Aj,An,Nat.reduceEqDiff,reduceCtorEq, ↓reduceIte]
 refine W.begR (k:=Gc.tail) (FX_.trans X5) hL2 (by omega) ?_
 have z3:=Ext.wr1 (s:=s2) l (.O (.loop .busy none 50 BV Bh tm0 [13,14] CN CK d))
 have hL3:LP ((s2.rdN l).wrN l (.O (.loop .busy none 50 BV Bh tm0 [13,14] CN CK d))) l .busy none tm0 d:=Obj.wr hL2
 have hn3:((s2.rdN l).wrN l (.O (.loop .busy none 50 BV Bh tm0 [13,14] CN CK d))).next=s.next+4:=by show s2.next=_;omega
 generalize (s2.rdN l).wrN l (.O (.loop .busy none 50 BV Bh tm0 [13,14] CN CK d))=s3 at *
 have y3:=y2.on z3 hb0 fun _ _ h=>h
 have hO3:FnO s3 C id:=hO2.ext hid z3 fun y h1 h2 hq=>by omega
 have hv3:HiR s3 p.v p.hs:=hv2.ext h16 z3 fun x h1 hq=>by have:=hvl x h1;omega
 have o3:AI s3 s.next 0 (pkC p):=o2.ext z3 fun i hi hq=>by omega
 have hT3:FnT C (T.set (T.set (putG Bh 13 (.int .i64 i) tm0) 14 (.agg (pkC p).toArray)) 8 (.pointer (some ⟨s.next,0,none⟩))):=((hT.put (by omega)).set (by omega)).set (by omega)
 have g8:T.get (T.set (T.set (putG Bh 13 (.int .i64 i) tm0) 14 (.agg (pkC p).toArray)) 8 (.pointer (some ⟨s.next,0,none⟩))) 8=some (.pointer (some ⟨s.next,0,none⟩)):=by
  simp only[T.get_set,Nat.reduceEqDiff,reduceIte]
 generalize T.set (T.set (putG Bh 13 (.int .i64 i) tm0) 14 (.agg (pkC p).toArray)) 8 (.pointer (some ⟨s.next,0,none⟩))=tm at *
 refine AM_.w XR (by omega) ?_
 simp only[UR,Ac,W_oS,W_on,Aa,W_mv,Ab,Ag,T.get_set,Ae,Ad,Ak,Al,Af,Au,reduceIte,Ai,Aq,Av,As,Ah,Ap,Ao,Ar,Aj,An,Nat.reduceEqDiff,reduceCtorEq, ↓reduceIte,g8,BE Cr (by decide)]
 refine W.load1 Cm (o3 2 _ rfl).at' ?_
 try simp only[Ac,W_oS,W_on,Aa,W_mv,Ab,Ag,T.get_set,Ae,Ad,Ak,Al,Af,Au,reduceIte,Ai,Aq,Av,As,Ah,Ap,Ao,Ar,Aj,An,Nat.reduceEqDiff,reduceCtorEq, ↓reduceIte]
 have y4:=y3.on (Ext.rdN (F:=Any) (G:=Non) s3 (s.next+(0+2)) fun _=>trivial) hb0 fun _ _ h=>h.elim
 refine Eb_ hone (by omega) fun s5 x5 n5 b5=> ?_
 have n5':s5.next=s.next+6:=by
  have:s5.next=s3.next+2:=n5
  omega
 have b5':Own s5 (s.next+4) 0 p.v:=by
  have:Own s5 s3.next 0 p.v:=b5
  rwa [hn3]at this
 rw[show(s3.rdN (s.next+(0+2))).next=s.next+4 from hn3]
 have y5:=y4.on x5 hb0 fun _ _ h=>h.elim
 have hL5:LP s5 l .busy none tm0 d:=(hL3.same (s':=s3.rdN (s.next+(0+2))) rfl rfl).ext x5 fun h=>h
 have hO5:FnO s5 C id:=(hO3.same (s':=s3.rdN (s.next+(0+2))) rfl rfl).ext hid x5 fun _ _ _ h=>h
 have o5:AI s5 s.next 0 (pkC p):=fun j u e=>((o3 j u e).same (s':=s3.rdN (s.next+(0+2))) rfl rfl).ext0 x5
 have hv5:HiR s5 p.v p.hs:=(hv3.same (s':=s3.rdN (s.next+(0+2))) rfl rfl).ext0 x5
 refine W.rangeFuncR Xq Km_ (T.get_set_same _ _ _) (by kernel_rfl) hL5 (by omega) fun s6 n6 x6 hO6=> ?_
 have hT6:FnT C (T.set tm 17 (.func (.func 129) #[] #[.pointer (some ⟨s.next+4,0,none⟩)])):=hT3.set (by omega)
 have g86:T.get (T.set tm 17 (.func (.func 129) #[] #[.pointer (some ⟨s.next+4,0,none⟩)])) 8=some (.pointer (some ⟨s.next,0,none⟩)):=by
  simp only[T.get_set,Nat.reduceEqDiff,reduceIte]
  exact g8
 generalize T.set tm 17 (.func (.func 129) #[] #[.pointer (some ⟨s.next+4,0,none⟩)])=tm6 at *
 have n6':s6.next=s.next+7:=by omega
 rw[n5']at hO6 ⊢
 have xr5:Ext Any Non s5 s6:=(Ext.rdN (F:=Any) (G:=Non) s5 l fun _=>trivial).on x6 (y5.bnd hb0) fun _ _ h=>h.elim
 have y6:=y5.on xr5 hb0 fun _ _ h=>h.elim
 have hL6:LP s6 l .busy none tm0 d:=hL5.ext xr5 fun h=>h
 show W (A2 envS (runF envS _) 129 [.func (.yield (s.next+6)) #[] #[], .pointer (some ⟨s.next+4,0,none⟩)]) s6 _
 refine JU_ (C:=C) (l:=s.next+6) (d:=d) (pc:=s.next) (B:=s.next+4) (p:=p) (id:=id) (hs:=p.hs) (y6.bnd hb0) (hO5.ext hid xr5 fun _ _ _ h=>h) hO6 hT6 g86 (fun j u e=>(o5 j u e).ext0 xr5) hid h16 (by omega) (by omega) (by omega) (b5'.ext0 xr5) (by omega) (hv5.ext0 xr5) (fun x hx=>by have:=hvl x hx;omega) hz (by omega) (fun hl w s7 x7 hL7=> ?_) fun h hl w s7 x7 hL7 hV7=> ?_
 ·refine⟨.ready,none,rfl,hL7, ?_⟩
  have y7:=y6.on x7 hb0 fun x hx hq=>by
   have:x<s.next:=hx
   omega
  have z8:=Ext.wr1 (s:=s7) (s.next+6) (.O (.loop .exhausted none 50 BV Bh tm6 [18,19] CB CF d))
  have y8:=y7.on z8 hb0 fun x hx hq=>by
   have:x<s.next:=hx
   omega
  have hL8:LP _ l .busy none tm0 d:=(hL6.ext x7 fun hq=>by omega).ext z8 fun hq=>by omega
  generalize (s7.rdN (s.next+6)).wrN (s.next+6) (.O (.loop .exhausted none 50 BV Bh tm6 [18,19] CB CF d))=s8 at *
  refine W.endR (LE_.trans QZ) hL8 (by omega) ?_
  exact q1 hl _ ((y8.on (Ext.wr1 (s:=s8) l _) hb0 fun _ _ h=>h).cx') ((Obj.wr hL8).same rfl rfl)
 ·refine⟨.done,some .ret,rfl,hL7, ?_⟩
  have y7:=(y6.weak (G:=fun x=>x=l∨FnG C x) hb0 (fun _ _ h=>h) fun _ _ h=> .inl h).on x7 hb0 fun x hx hq=>by
   have:x<s.next:=hx
   rcases hq with hq|hq
   ·omega
   ·exact .inr hq
  have z8:=Ext.wr1 (s:=s7) (s.next+6) (.O (.loop .exhausted (some .ret) 50 BV Bh tm6 [18,19] CB CF d))
  have y8:=y7.on z8 hb0 fun x hx hq=>by
   have:x<s.next:=hx
   omega
  have hL8:LP _ l .busy none tm0 d:=(hL6.ext x7 fun hq=>by unfold FnG at hq;omega).ext z8 fun hq=>by omega
  have h16h:=h16 _ (MX hl).1
  have hV8:=hV7.ext h16h z8 fun y h1 h2 hq=>by omega
  generalize (s7.rdN (s.next+6)).wrN (s.next+6) (.O (.loop .exhausted (some .ret) 50 BV Bh tm6 [18,19] CB CF d))=s8 at *
  refine W.retR (QS _) hL8 (by omega) ?_
  have z9:=Ext.wr1 (s:=s8) l (.O (.loop .done (some .ret) 50 BV Bh tm0 [13,14] CN CK d))
  exact q2 h hl _ ((y8.on z9 hb0 fun _ _ h=> .inl h).cx') ((Obj.wr hL8).same rfl rfl) ((hV8.ext h16h z9 fun y h1 h2 hq=>by omega).same rfl rfl)
theorem SQ:tyS envS 55=some (1,false):=by kernel_rfl
section
variable {C l d B:Nat}{tm0:T Value}{id:List Nat}{v:Value}{ps:List PkI}{s0:St}{Q:Value×FrameMode→St→Prop}
theorem Lh_ (hb0:s0.lim≤s0.next)(hO:FnO s0 C id)(hT:FnT C tm0)(hid:id.length=16)(hlC:C+40≤l)(hB:Own s0 B 0 v)(hBl:B<l)(hv:PkR s0 v ps)(hvl: ∀x,PkF v ps x→x<C)(hz: ∀p∈ps,p.hs.length≤1000000)(hcx:s0.cx=cxN)
  (q1:Bl ps id=none→ ∀s1,Ext Any (fun x=>x=l) s0 s1→LP s1 l .ready none tm0 d→Q (.tuple #[], .run) s1)
  (q2: ∀r,Bl ps id=some r→r.2.1.length=16→ ∀s1,Ext Any (fun x=>x=l∨FnG C x) s0 s1→LP s1 l .done (some .ret) tm0 d→FnV s1 C r.1 r.2 true→Q (.tuple #[], .run) s1):
  ∀(k n:Nat) (j:Int) (tm:T Value) (s:St) (td:List Item),k≤ps.length→8*k+8000500≤n→skim 64 td=FT→Ext Any (fun x=>x=l) s0 s→LP s l .ready none tm0 d→Bl ps id=Bl (ps.take k) id→j=(k:Int)-1→ps.length≤1000000000→
  T.get tm 0=some (.func (.yield l) #[] #[])→T.get tm 1=some (.pointer (some ⟨B,0,none⟩))→T.get tm 3=some (.int .i64 j)→
  W (runF envS n ⟨128,ZH,Fm,tm,td, .run, .normal,none⟩) s Q:=by
 intro k
 induction k with
 |zero=>
  intro n j tm s td hk hn hTd hx hL hla hj hpz h0 h1 h3
  subst hj
  refine Rc.w hTd (by omega) ?_
  simp only[ND,Ac,W_oS,W_on,Aa,W_mv,Ab,Ag,T.get_set,Ae,Ad,Ak,Al,Af,Au,reduceIte,Ai,Aq,Av,As,Ah,Ap,Ao,Ar,Aj,An,Nat.reduceEqDiff,reduceCtorEq, ↓reduceIte,A8,Bb,A5,A9,Be,Ba,Bc,A6,h3]
  refine W.cond (v:=false) UF O2 (by simp[T.get_set]) (by omega) (fun h=>by cases h) fun _=> ?_
  refine W.end' (rs:=[]) (vs:=[]) Kz_ (.inr (by kernel_rfl)) (by omega) N7 RO (hx.cx.trans hcx) rfl ?_
  exact q1 (by rw[hla];rfl) s hx hL
 |succ k ih=>
  intro n j tm s td hk hn hTd hx hL hla hj hpz h0 h1 h3
  obtain rfl:j=((k:Nat):Int):=by omega
  have hkl:k<ps.length:=by omega
  have hb:=hx.bnd hb0
  have hv1:PkR s v ps:=hv.ext hx fun x h1 h2=>by have:=hvl x h1;omega
  have hB1:Own s B 0 v:=hB.ext hx fun hq=>by omega
  have hzk:=hz _ (List.getElem_mem hkl)
  obtain⟨b,o,c,ev,gr,gh,g16,_,gf⟩:=hv1.at hkl
  rw[Ow hkl]at hla
  refine Rc.w hTd (by omega) ?_
  simp only[ND,Ac,W_oS,W_on,Aa,W_mv,Ab,Ag,T.get_set,Ae,Ad,Ak,Al,Af,Au,reduceIte,Ai,Aq,Av,As,Ah,Ap,Ao,Ar,Aj,An,Nat.reduceEqDiff,reduceCtorEq, ↓reduceIte,A8,Bb,A5,A9,Be,Ba,Bc,A6,h3]
  refine W.cond (v:=true) UF O2 (by simp[T.get_set]) (by omega) (fun _=> ?_) fun h=>by cases h
  refine FP_.w KK_ (by omega) ?_
  simp only[Uc,Ac,W_oS,W_on,Aa,W_mv,Ab,Ag,T.get_set,Ae,Ad,Ak,Al,Af,Au,reduceIte,Ai,Aq,Av,As,Ah,Ap,Ao,Ar,Aj,An,Nat.reduceEqDiff,reduceCtorEq, ↓reduceIte,h0,h1,h3]
  refine W.load1 SQ hB1.at' ?_
  simp only[Ac,W_oS,W_on,Aa,W_mv,Ab,Ag,T.get_set,Ae,Ad,Ak,Al,Af,Au,reduceIte,Ai,Aq,Av,As,Ah,Ap,Ao,Ar,Aj,An,Nat.reduceEqDiff,reduceCtorEq, ↓reduceIte,ev,Bx BL hkl]
  refine W.loadA KS (fun j u e=>(gr j u e).same rfl rfl) rfl fun s1 m1 n1 x1=> ?_
  have m1':s1.mem=s.mem:=m1
  have n1':s1.next=s.next:=n1
  have y1:Ext Any (fun x=>x=l) s0 s1:=((hx.on (Ext.rdN (F:=Any) (G:=Non) s (B+0) fun _=>trivial) hb0 fun _ _ h=>h.elim).on x1 hb0 fun _ _ h=>h.elim)
  have hO1:FnO s1 C id:=hO.ext hid y1 fun y h1 h2 hq=>by omega
  try simp only[Ac,W_oS,W_on,Aa,W_mv,Ab,Ag,T.get_set,Ae,Ad,Ak,Al,Af,Au,reduceIte,Ai,Aq,Av,As,Ah,Ap,Ao,Ar,Aj,An,Nat.reduceEqDiff,reduceCtorEq, ↓reduceIte]
  refine W.yield (Em_ (p:=ps[k]) (d:=d) (y1.bnd hb0) hO1 (hL.same m1' n1') hT hid (gh.same m1' n1') g16 (fun x hx=>hvl x (gf x hx)) (by omega) hlC (by omega) (fun hne s2 x2 hL2=> ?_) fun h heq s2 x2 hL2 hV2=> ?_)
  ·rw[hne]at hla
   rw[D7]
   simp only[Bool.not_true]
   refine W.cond (v:=false) Qs T3 (by simp[T.get_set]) (by omega) (fun h=>by cases h) fun _=> ?_
   refine EF_.w Ag_ (by omega) ?_
   have ej:wrap64 (((k:Nat):Int)-1)=((k:Nat):Int)-1:=B5 (by omega) (by omega)
   simp only[UJ,Ac,W_oS,W_on,Aa,W_mv,Ab,Ag,T.get_set,Ae,Ad,Ak,Al,Af,Au,reduceIte,Ai,Aq,Av,As,Ah,Ap,Ao,Ar,Aj,An,Nat.reduceEqDiff,reduceCtorEq, ↓reduceIte,A8,Bb,A5,A9,Be,Ba,Bc,A6,h3,ej]
   exact ih _ _ _ _ _ (by omega) (by omega) ZN (y1.on x2 hb0 fun _ _ h=>h) hL2 hla rfl hpz (by simp[T.get_set,h0]) (by simp[T.get_set,h1]) (by simp[T.get_set])
  ·rw[heq]at hla
   rw[D7]
   simp only[Bool.not_false]
   have y2:Ext Any (fun x=>x=l∨FnG C x) s0 s2:=(y1.weak hb0 (fun _ _ h=>h) fun _ _ h=> .inl h).on x2 hb0 fun _ _ h=>h
   refine W.cond (v:=true) Qs T3 (by simp[T.get_set]) (by omega) (fun _=> ?_) fun h=>by cases h
   refine W.end' (rs:=[]) (vs:=[]) EK_ (.inl CU_) (by omega) N7 RO (y2.cx.trans hcx) rfl ?_
   exact q2 _ hla (g16 _ (MX heq).1) s2 y2 hL2 hV2
end
theorem ZV {C l d B n:Nat}{tm0:T Value}{id:List Nat}{v:Value}{ps:List PkI}{s:St}{Q:Value→St→Prop}(hb:s.lim≤s.next)(hO:FnO s C id)(hL:LP s l .ready none tm0 d)(hT:FnT C tm0)(hid:id.length=16)(hlC:C+40≤l)(hB:Own s B 0 v)(hBl:B<l)(hv:PkR s v ps)(hvl: ∀x,PkF v ps x→x<C)(hz: ∀p∈ps,p.hs.length≤1000000)(hpz:ps.length≤1000000000)(hn:8*ps.length+9000000≤n)
  (q1:Bl ps id=none→ ∀w s1,Ext Any (fun x=>x=l) s s1→LP s1 l .ready none tm0 d→Q w s1)
  (q2: ∀r,Bl ps id=some r→r.2.1.length=16→ ∀w s1,Ext Any (fun x=>x=l∨FnG C x) s s1→LP s1 l .done (some .ret) tm0 d→FnV s1 C r.1 r.2 true→Q w s1):
  W (A2 envS (runF envS n) 128 [.func (.yield l) #[] #[], .pointer (some ⟨B,0,none⟩)]) s Q:=by
 refine Hz_ fun tm h0 h1=> ?_
 refine CY_.w rfl (by omega) ?_
 simp only[O6,Ac,W_oS,W_on,Aa,W_mv,Ab,Ag,T.get_set,Ae,Ad,Ak,Al,Af,Au,reduceIte,Ai,Aq,Av,As,Ah,Ap,Ao,Ar,Aj,An,Nat.reduceEqDiff,reduceCtorEq, ↓reduceIte,h1]
 refine W.load1 SQ (hB.same (s':=s.cxN cxN) rfl rfl).at' ?_
 try simp only[Ac,W_oS,W_on,Aa,W_mv,Ab,Ag,T.get_set,Ae,Ad,Ak,Al,Af,Au,reduceIte,Ai,Aq,Av,As,Ah,Ap,Ao,Ar,Aj,An,Nat.reduceEqDiff,reduceCtorEq, ↓reduceIte]
 rw[hv.len]
 have ej:wrap64 (((ps.length:Nat):Int)-1)=((ps.length:Nat):Int)-1:=B5 (by omega) (by omega)
 simp only[Ac,W_oS,W_on,Aa,W_mv,Ab,Ag,T.get_set,Ae,Ad,Ak,Al,Af,Au,reduceIte,Ai,Aq,Av,As,Ah,Ap,Ao,Ar,Aj,An,Nat.reduceEqDiff,reduceCtorEq, ↓reduceIte,A8,Bb,A5,A9,Be,Ba,Bc,A6,ej]
 have xr:Ext Any (fun x=>x=l) (s.cxN cxN) ((s.cxN cxN).rdN (B+0)):=Ext.rdN (F:=Any) (G:=fun x=>x=l) (s.cxN cxN) (B+0) fun _=>trivial
 refine Lh_ (s0:=s.cxN cxN) (C:=C) (l:=l) (d:=d) (B:=B) (tm0:=tm0) (v:=v) (ps:=ps) hb (hO.same rfl rfl) hT hid hlC (hB.same rfl rfl) hBl (hv.same rfl rfl) hvl hz rfl (fun hl s1 x1 hL1=> ?_) (fun r hl hr s1 x1 hL1 hV1=> ?_) ps.length _ _ _ _ _ (Nat.le_refl _) (by omega) EZ_ xr (hL.same rfl rfl) (by rw[List.take_length]) rfl hpz (by simp[T.get_set,h0]) (by simp[T.get_set,h1]) (by simp[T.get_set])
 ·exact q1 hl _ _ x1.cx' (hL1.same rfl rfl)
 ·exact q2 r hl hr _ _ x1.cx' (hL1.same rfl rfl) (hV1.same rfl rfl)
theorem BA_ {n:Nat}{v:Value}{s:St}{Q:Value→St→Prop}(hv:oneCell v=true)(hn:20≤n)(q: ∀s1,Ext Non Non s s1→s1.next=s.next+2→Own s1 s.next 0 v→Q (.func (.func 128) #[] #[.pointer (some ⟨s.next,0,none⟩)]) s1):W (A2 envS (runF envS n) 99 [v]) s Q:=by
 refine KR_ fun tm h0=> ?_
 refine Bg_.w rfl (by omega) ?_
 simp only[Sh,Ac,W_oS,W_on,Aa,W_mv,Ab,Ag,T.get_set,Ae,Ad,Ak,Al,Af,Au,reduceIte,Ai,Aq,Av,As,Ah,Ap,Ao,Ar,Aj,An,Nat.reduceEqDiff,reduceCtorEq, ↓reduceIte,h0]
 refine W.box fun sa na xa oa=> ?_
 rw[G3 hv]at na oa
 try simp only[Ac,W_oS,W_on,Aa,W_mv,Ab,Ag,T.get_set,Ae,Ad,Ak,Al,Af,Au,reduceIte,Ai,Aq,Av,As,Ah,Ap,Ao,Ar,Aj,An,Nat.reduceEqDiff,reduceCtorEq, ↓reduceIte]
 refine Ll_.w KV_ (by omega) ?_
 simp only[RK,Ac,W_oS,W_on,Aa,W_mv,Ab,Ag,T.get_set,Ae,Ad,Ak,Al,Af,Au,reduceIte,Ai,Aq,Av,As,Ah,Ap,Ao,Ar,Aj,An,Nat.reduceEqDiff,reduceCtorEq, ↓reduceIte]
 refine W.end' (rs:=[2]) (vs:=[.func (.func 128) #[] #[.pointer (some ⟨s.next,0,none⟩)]]) BI_ (.inl FR_) (by omega) Qx AT_ xa.cx (by simp[T.get_set];rfl) ?_
 exact q _ xa.cx' na ((oa 0 v rfl).same rfl rfl)
theorem TS {C D n:Nat}{nn:Int}{h:HdI}{b:Bool}{tm:T Value}{td:List Item}{s:St}{Q:Value×FrameMode→St→Prop}(hV:FnV s C nn h b)(h16:h.1.length=16)(hT:FnT C tm)(hc:s.cx= .cx none (some [BF D]))(hD:Obj s D (.deferred (some [])))(hb:s.lim≤s.next)(hCD:C+40≤D)(ht: ∃k,skim 64 td= .code .ret::k)(hn:3≤n)
  (q: ∀s1,Ext Any (fun x=>x=D) (s.cxN cxN) s1→Q (.tuple #[.int .i64 nn, .agg (AP h).toArray, .bool b], .run) s1):W (runF envS n ⟨50,BV,Bh,tm,td, .run, .normal,none⟩) s Q:=by
 obtain⟨k,ht⟩:=ht
 refine W.endK (P:= .code .ret::k) ht (.inl ⟨k,rfl⟩) hn Um Ff_ hc hD ?_
 have z:=Ext.wr1 (s:=s.cxN cxN) D (.O (.deferred none))
 show W _ (((s.cxN cxN).rdN D).wrN D (.O (.deferred none))) _
 have hV1:FnV (((s.cxN cxN).rdN D).wrN D (.O (.deferred none))) C nn h b:=(hV.same (s':=s.cxN cxN) rfl rfl).ext h16 z fun y h1 h2 hq=>by omega
 generalize ((s.cxN cxN).rdN D).wrN D (.O (.deferred none))=s1 at *
 have hb0:(s.cxN cxN).lim≤(s.cxN cxN).next:=hb
 refine W.resCell hT.t4 (W.load1 DI hV1.v4.at' (W.resCell hT.t5 (W.loadA B1 (fun j u e=>((hV1.v5 j u e).same rfl rfl).at') (Cg h16) fun s2 m2 n2 x2=>W.resCell hT.t6 (W.load1 LV ((hV1.v6.same (s':=s1.rdN (C+17+0)) rfl rfl).same m2 n2).at' (W.resNil ?_)))))
 have y1:=z.on (Ext.rdN (F:=Any) (G:=Non) s1 (C+17+0) fun _=>trivial) hb0 fun _ _ h=>h.elim
 have y2:=y1.on x2 hb0 fun _ _ h=>h.elim
 exact q _ (y2.on (Ext.rdN (F:=Any) (G:=Non) s2 (C+38+0) fun _=>trivial) hb0 fun _ _ h=>h.elim)
def resP (o:Option (Int×HdI)):Int×HdI×Bool:=match o with|some r=>(r.1,r.2,true)|none=>(0,(List.replicate 16 0,0,0),false)
theorem Tk:KU envS 35 []=some (AP (List.replicate 16 0,0,0)):=by kernel_rfl
theorem Aq_:ER envS 4=some [.bool false]:=by kernel_rfl
theorem ZM {n:Nat}{id:List Nat}{v:Value}{ps:List PkI}{s:St}{Q:Value→St→Prop}(hb:s.lim≤s.next)(hid:id.length=16)(hv:PkR s v ps)(hvl: ∀x,PkF v ps x→x<s.next)(hz: ∀p∈ps,p.hs.length≤1000000)(hpz:ps.length≤1000000000)(hn:8*ps.length+9100000≤n)
  (q: ∀s1,Ext Any Non s s1→Q (.tuple #[.int .i64 (resP (Bl ps id)).1, .agg (AP (resP (Bl ps id)).2.1).toArray, .bool (resP (Bl ps id)).2.2]) s1):
  W (A2 envS (runF envS n) 50 [v, .agg (u8l id).toArray]) s Q:=by
 refine Yk fun tm h0 h1=> ?_
 have hb0:(s.cxN cxN).lim≤(s.cxN cxN).next:=hb
 refine YW.w rfl (by omega) ?_
 simp only[Sv,Ac,W_oS,W_on,Aa,W_mv,Ab,Ag,T.get_set,Ae,Ad,Ak,Al,Af,Au,reduceIte,Ai,Aq,Av,As,Ah,Ap,Ao,Ar,Aj,An,Nat.reduceEqDiff,reduceCtorEq, ↓reduceIte,h1]
 refine W.box fun sa na xa oa=> ?_
 rw[Cx]at na oa
 have na':sa.next=s.next+17:=by rw[na,Bp,hid];rfl
 have ea:(s.cxN cxN).next=s.next:=rfl
 rw[ea]at oa ⊢
 try simp only[Ac,W_oS,W_on,Aa,W_mv,Ab,Ag,T.get_set,Ae,Ad,Ak,Al,Af,Au,reduceIte,Ai,Aq,Av,As,Ah,Ap,Ao,Ar,Aj,An,Nat.reduceEqDiff,reduceCtorEq, ↓reduceIte]
 refine W.alloc VP fun sb nb xb ob=> ?_
 have nb':sb.next=s.next+19:=by rw[nb,na'];rfl
 rw[na']at ob ⊢
 try simp only[Ac,W_oS,W_on,Aa,W_mv,Ab,Ag,T.get_set,Ae,Ad,Ak,Al,Af,Au,reduceIte,Ai,Aq,Av,As,Ah,Ap,Ao,Ar,Aj,An,Nat.reduceEqDiff,reduceCtorEq, ↓reduceIte]
 refine W.alloc Ew fun sc nc xc oc=> ?_
 have nc':sc.next=s.next+38:=by rw[nc,nb'];rfl
 rw[nb']at oc ⊢
 try simp only[Ac,W_oS,W_on,Aa,W_mv,Ab,Ag,T.get_set,Ae,Ad,Ak,Al,Af,Au,reduceIte,Ai,Aq,Av,As,Ah,Ap,Ao,Ar,Aj,An,Nat.reduceEqDiff,reduceCtorEq, ↓reduceIte]
 refine W.alloc Aq_ fun sd nd xd od=> ?_
 have nd':sd.next=s.next+40:=by rw[nd,nc'];rfl
 rw[nc']at od ⊢
 try simp only[Ac,W_oS,W_on,Aa,W_mv,Ab,Ag,T.get_set,Ae,Ad,Ak,Al,Af,Au,reduceIte,Ai,Aq,Av,As,Ah,Ap,Ao,Ar,Aj,An,Nat.reduceEqDiff,reduceCtorEq, ↓reduceIte]
 have ya:=(Ext.refl (F:=Any) (G:=Non) (s.cxN cxN)).on xa hb0 fun _ _ h=>h
 have yd:=((ya.on xb hb0 fun _ _ h=>h).on xc hb0 fun _ _ h=>h).on xd hb0 fun _ _ h=>h
 have hO:FnO sd s.next id:=⟨((AI.ext0 oa xb).ext0 xc).ext0 xd,⟨_,((ob 0 _ rfl).ext0 xc).ext0 xd⟩,fun j hj=>by
  obtain⟨u,hu⟩:=(AI.owned oc) j (by simpa using hj)
  exact⟨u,hu.ext0 xd⟩,⟨_,od 0 _ rfl⟩⟩
 refine ZI.w DV_ (by omega) ?_
 simp only[Vr,Ac,W_oS,W_on,Aa,W_mv,Ab,Ag,T.get_set,Ae,Ad,Ak,Al,Af,Au,reduceIte,Ai,Aq,Av,As,Ah,Ap,Ao,Ar,Aj,An,Nat.reduceEqDiff,reduceCtorEq, ↓reduceIte,h0]
 refine BA_ hv.one (by omega) fun se xe ne be=> ?_
 have ne':se.next=s.next+42:=by rw[ne,nd']
 rw[nd']at be ⊢
 try simp only[Ac,W_oS,W_on,Aa,W_mv,Ab,Ag,T.get_set,Ae,Ad,Ak,Al,Af,Au,reduceIte,Ai,Aq,Av,As,Ah,Ap,Ao,Ar,Aj,An,Nat.reduceEqDiff,reduceCtorEq, ↓reduceIte]
 have ye:=yd.on xe hb0 fun _ _ h=>h
 have hTf: ∀f,FnT s.next (T.set (T.set (T.set (T.set (T.set tm 3 (.pointer (some ⟨s.next,0,none⟩))) 4 (.pointer (some ⟨s.next+17,0,none⟩))) 5 (.pointer (some ⟨s.next+19,0,none⟩))) 6 (.pointer (some ⟨s.next+38,0,none⟩))) 12 f):=fun f=>⟨by simp[T.get_set],by simp[T.get_set],by simp[T.get_set],by simp[T.get_set]⟩
 refine W.rangeFuncJ ZK Bo_ (T.get_set_same _ _ _) (by kernel_rfl) ye.cx (by omega) fun sf nf xf df lf=> ?_
 have hT:=hTf (.func (.func 128) #[] #[.pointer (some ⟨s.next+40,0,none⟩)])
 generalize T.set (T.set (T.set (T.set (T.set tm 3 (.pointer (some ⟨s.next,0,none⟩))) 4 (.pointer (some ⟨s.next+17,0,none⟩))) 5 (.pointer (some ⟨s.next+19,0,none⟩))) 6 (.pointer (some ⟨s.next+38,0,none⟩))) 12 (.func (.func 128) #[] #[.pointer (some ⟨s.next+40,0,none⟩)])=tm2 at *
 rw[ne']at df lf ⊢
 have nf':sf.next=s.next+44:=by omega
 have yf:=ye.on xf hb0 fun _ _ h=>h
 show W (A2 envS (runF envS _) 128 [.func (.yield (s.next+43)) #[] #[], .pointer (some ⟨s.next+40,0,none⟩)]) (sf.cxN (.cx none (some [BF (s.next+42)]))) _
 have hcc:(sf.cxN (.cx none (some [BF (s.next+42)]))).cx= .cx none (some [BF (s.next+42)]):=rfl
 have df':Obj (sf.cxN (.cx none (some [BF (s.next+42)]))) (s.next+42) (.deferred (some [])):=df.same rfl rfl
 have lf':LP (sf.cxN (.cx none (some [BF (s.next+42)]))) (s.next+43) .ready none tm2 (s.next+42):=lf.same rfl rfl
 have hOg:FnO (sf.cxN (.cx none (some [BF (s.next+42)]))) s.next id:=((hO.ext hid xe fun _ _ _ h=>h).ext hid xf fun _ _ _ h=>h).same rfl rfl
 have bg:Own (sf.cxN (.cx none (some [BF (s.next+42)]))) (s.next+40) 0 v:=(be.ext0 xf).same rfl rfl
 have hvg:PkR (sf.cxN (.cx none (some [BF (s.next+42)]))) v ps:=(PkR.ext0 (hv.same (s':=s.cxN cxN) rfl rfl) yf).same rfl rfl
 have hng:(sf.cxN (.cx none (some [BF (s.next+42)]))).next=s.next+44:=nf'
 have hbg:(sf.cxN (.cx none (some [BF (s.next+42)]))).lim≤(sf.cxN (.cx none (some [BF (s.next+42)]))).next:=yf.bnd hb0
 have yg: ∀s9,Ext Any (fun x=>s.next≤x) (sf.cxN (.cx none (some [BF (s.next+42)]))) s9→Ext Any Non s (s9.cxN s.cx):=fun s9 x9=>by
  have x9':Ext Any (fun x=>s.next≤x) sf (s9.cxN sf.cx):=⟨x9.nxt,x9.lim,rfl,x9.mem,x9.rd,x9.wr⟩
  exact(yf.on x9' hb0 fun x hx hq=>by have:x<s.next:=hx;omega).cx'
 generalize sf.cxN (.cx none (some [BF (s.next+42)]))=sg at *
 refine ZV (C:=s.next) (l:=s.next+43) (d:=s.next+42) (B:=s.next+40) (ps:=ps) (id:=id) hbg hOg lf' hT hid (by omega) bg (by omega) hvg hvl hz hpz (by omega) (fun hl w s7 x7 hL7=> ?_) fun r hl hr w s7 x7 hL7 hV7=> ?_
 ·refine⟨.ready,none,rfl,hL7, ?_⟩
  have z8:=Ext.wr1 (s:=s7) (s.next+43) (.O (.loop .exhausted none 50 BV Bh tm2 [13,14] CN CK (s.next+42)))
  have y7:Ext Any (fun x=>s.next≤x) sg s7:=x7.weak hbg (fun _ _ h=>h) fun x _ hq=>by omega
  have y8:=y7.on z8 hbg fun x hx hq=>by omega
  have hO8:=(hOg.ext hid x7 fun y h1 h2 hq=>by omega).ext hid z8 fun y h1 h2 hq=>by omega
  have d8:=(df'.ext x7 fun hq=>by omega).ext z8 fun hq=>by omega
  generalize (s7.rdN (s.next+43)).wrN (s.next+43) (.O (.loop .exhausted none 50 BV Bh tm2 [13,14] CN CK (s.next+42)))=s8 at *
  have hb8:=y8.bnd hbg
  obtain⟨u4,o4⟩:=hO8.o4
  obtain⟨u6,o6⟩:=hO8.o6
  refine Gf_.w VU (by omega) ?_
  simp only[TV,Ac,W_oS,W_on,Aa,W_mv,Ab,Ag,T.get_set,Ae,Ad,Ak,Al,Af,Au,reduceIte,Ai,Aq,Av,As,Ah,Ap,Ao,Ar,Aj,An,Nat.reduceEqDiff,reduceCtorEq, ↓reduceIte,LN Tk,hT.t4,hT.t5,hT.t6]
  refine W.store1 DI rfl o4 fun s9 n9 x9 w9=> ?_
  try simp only[Ac,W_oS,W_on,Aa,W_mv,Ab,Ag,T.get_set,Ae,Ad,Ak,Al,Af,Au,reduceIte,Ai,Aq,Av,As,Ah,Ap,Ao,Ar,Aj,An,Nat.reduceEqDiff,reduceCtorEq, ↓reduceIte]
  refine W.store B1 (v:= .agg (AP (List.replicate 16 0,0,0)).toArray) rfl (De _) (fun j hj=>by
   obtain⟨u,hu⟩:=hO8.o5 j hj
   exact⟨u,hu.ext x9 fun hq=>by have:=In1.1 hq;omega⟩) fun s10 n10 x10 w10=> ?_
  rw[Cx]at w10
  try simp only[Ac,W_oS,W_on,Aa,W_mv,Ab,Ag,T.get_set,Ae,Ad,Ak,Al,Af,Au,reduceIte,Ai,Aq,Av,As,Ah,Ap,Ao,Ar,Aj,An,Nat.reduceEqDiff,reduceCtorEq, ↓reduceIte]
  refine W.store1 LV rfl ((o6.ext x9 fun hq=>by have:=In1.1 hq;omega).ext x10 fun hq=>by have:=hq.2;omega) fun s11 n11 x11 w11=> ?_
  try simp only[Ac,W_oS,W_on,Aa,W_mv,Ab,Ag,T.get_set,Ae,Ad,Ak,Al,Af,Au,reduceIte,Ai,Aq,Av,As,Ah,Ap,Ao,Ar,Aj,An,Nat.reduceEqDiff,reduceCtorEq, ↓reduceIte]
  have hV:FnV s11 s.next 0 (List.replicate 16 0,0,0) false:=⟨(w9.ext x10 fun hq=>by have:=hq.1;omega).ext x11 fun hq=>by have:=In1.1 hq;omega,w10.ext x11 fun i hi hq=>by
   have h1:=In1.1 hq
   have h2:i<18:=hi
   omega,w11⟩
  have y11:=((y8.on x9 hbg fun x hx hq=>by have:=In1.1 hq;omega).on x10 hbg fun x hx hq=>by have:=hq.1;omega).on x11 hbg fun x hx hq=>by have:=In1.1 hq;omega
  have d11:=((d8.ext x9 fun hq=>by have:=In1.1 hq;omega).ext x10 fun hq=>by have:=hq.2;omega).ext x11 fun hq=>by have:=In1.1 hq;omega
  obtain⟨k5,e5⟩:=Y2
  refine TS hV rfl hT (y11.cx.trans hcc) d11 (y11.bnd hbg) (by omega) ⟨k5,DB_.trans e5⟩ (by omega) fun s12 x12=> ?_
  have:=q (s12.cxN s.cx) (yg (s12.cxN s11.cx) (y11.on (show Ext Any (fun x=>x=s.next+42) s11 (s12.cxN s11.cx)from⟨x12.nxt,x12.lim,rfl,x12.mem,x12.rd,x12.wr⟩) hbg fun x hx hq=>by omega))
  rw[hl]at this
  exact this
 ·refine⟨.done,some .ret,rfl,hL7, ?_⟩
  have z8:=Ext.wr1 (s:=s7) (s.next+43) (.O (.loop .exhausted (some .ret) 50 BV Bh tm2 [13,14] CN CK (s.next+42)))
  have y7:Ext Any (fun x=>s.next≤x) sg s7:=x7.weak hbg (fun _ _ h=>h) fun x _ hq=>by unfold FnG at hq;omega
  have y8:=y7.on z8 hbg fun x hx hq=>by omega
  have hV8:=hV7.ext hr z8 fun y h1 h2 hq=>by omega
  have d8:=(df'.ext x7 fun hq=>by unfold FnG at hq;omega).ext z8 fun hq=>by omega
  generalize (s7.rdN (s.next+43)).wrN (s.next+43) (.O (.loop .exhausted (some .ret) 50 BV Bh tm2 [13,14] CN CK (s.next+42)))=s8 at *
  refine TS hV8 hr hT (y8.cx.trans hcc) d8 (y8.bnd hbg) (by omega) ⟨_,QS _⟩ (by omega) fun s12 x12=> ?_
  have:=q (s12.cxN s.cx) (yg (s12.cxN s8.cx) (y8.on (show Ext Any (fun x=>x=s.next+42) s8 (s12.cxN s8.cx)from⟨x12.nxt,x12.lim,rfl,x12.mem,x12.rd,x12.wr⟩) hbg fun x hx hq=>by omega))
  rw[hl]at this
  exact this
structure RfI (s:St)(C:Nat)(id:List Nat)(r:Option (Int×HdI))(v:Value)(tm:T Value):Prop where
 hid:AI s C 0 (u8l id)
 o5:Ez s (C+17) 0 18
 o8:AI s (C+36) 0 (AP (resP r).2.1)
 r16:(resP r).2.1.1.length=16
 t0:T.get tm 0=some v
 t3:T.get tm 3=some (.pointer (some ⟨C,0,none⟩))
 t5:T.get tm 5=some (.pointer (some ⟨C+17,0,none⟩))
 t7:T.get tm 7=some (.int .i64 (resP r).1)
 t8:T.get tm 8=some (.pointer (some ⟨C+36,0,none⟩))
 t9:T.get tm 9=some (.bool (resP r).2.2)
theorem RfI.tm' {s:St}{C:Nat}{id:List Nat}{r:Option (Int×HdI)}{v:Value}{tm tm':T Value}(h:RfI s C id r v tm)(e: ∀j,j<10→T.get tm' j=T.get tm j):RfI s C id r v tm':=
 ⟨h.hid,h.o5,h.o8,h.r16,(e _ (by decide)).trans h.t0,(e _ (by decide)).trans h.t3,(e _ (by decide)).trans h.t5,(e _ (by decide)).trans h.t7,(e _ (by decide)).trans h.t8,(e _ (by decide)).trans h.t9⟩
theorem RfI.ext {F G:Nat→Prop}{s s':St}{C:Nat}{id:List Nat}{r:Option (Int×HdI)}{v:Value}{tm:T Value}(h:RfI s C id r v tm)(hid:id.length=16)(x:Ext F G s s')(hG: ∀y,C≤y→y<C+55→ ¬G y):RfI s' C id r v tm:=
 ⟨h.hid.ext x fun i hi=>hG _ (by omega) (by rw[Bp]at hi;omega),fun j hj=>by
  obtain⟨u,hu⟩:=h.o5 j hj
  exact⟨u,hu.ext x (hG _ (by omega) (by omega))⟩,h.o8.ext x fun i hi=>hG _ (by omega) (by rw[Cg h.r16]at hi;omega),h.r16,h.t0,h.t3,h.t5,h.t7,h.t8,h.t9⟩
theorem RfI.same {s s':St}{C:Nat}{id:List Nat}{r:Option (Int×HdI)}{v:Value}{tm:T Value}(h:RfI s C id r v tm)(hm:s'.mem=s.mem)(hn:s'.next=s.next):RfI s' C id r v tm:=
 ⟨fun i u e=>(h.hid i u e).same hm hn,fun j hj=>by
  obtain⟨u,hu⟩:=h.o5 j hj
  exact⟨u,hu.same hm hn⟩,fun i u e=>(h.o8 i u e).same hm hn,h.r16,h.t0,h.t3,h.t5,h.t7,h.t8,h.t9⟩
theorem RfI.st {s s':St}{C:Nat}{id:List Nat}{r:Option (Int×HdI)}{v:Value}{tm tm':T Value}(h:RfI s C id r v tm)(hm:s'.mem=s.mem)(hn:s'.next=s.next)(e: ∀j,j<10→T.get tm' j=T.get tm j):RfI s' C id r v tm':=(h.same hm hn).tm' e
def F6 (num:Int)(hs:List HdI)(id:List Nat)(r:Option (Int×HdI)):Option (Int×HdI):=match BI hs id with|some h=>some (num,h)|none=>r
section
variable {C i:Nat}{id:List Nat}{v:Value}{ps:List PkI}{s0:St}{Q:Value×FrameMode→St→Prop}
theorem IO_ (hb0:s0.lim≤s0.next)(hC:s0.next=C)(hid:id.length=16)(hv:PkR s0 v ps)(hi:i<ps.length)(hz:ps[i].hs.length≤1000000)(r0:Option (Int×HdI)):
  ∀(m k n:Nat) (r:Option (Int×HdI)) (tm:T Value) (s:St) (td:List Item),k+m=ps[i].hs.length→20*m+30≤n→skim 64 td=Fq→Ext Any Non s0 s→RfI s C id r v tm→r=F6 ps[i].num (ps[i].hs.take k) id r0→T.get tm 10=some (.int .i64 (i:Nat))→T.get tm 11=some (.int .i64 (k:Nat))→
  (∀(n1:Nat) (tm1:T Value) (s1:St) (td1:List Item),n≤n1+(20*m+10)→skim 64 td1=IZ→Ext Any Non s0 s1→RfI s1 C id (F6 ps[i].num ps[i].hs id r0) v tm1→T.get tm1 10=some (.int .i64 (i:Nat))→W (runF envS n1 ⟨51,J8,B0,tm1,td1, .run, .normal,none⟩) s1 Q)→
  W (runF envS n ⟨51,J8,B0,tm,td, .run, .normal,none⟩) s Q:=by
 intro m
 induction m with
 |zero=>
  intro k n r tm s td hk hn hTd hx hI hr h10 h11 K
  obtain⟨b,o,c,ev,gr,gh,_,_,_⟩:=(hv.ext0 hx).at hi
  refine Om.w hTd (by omega) ?_
  simp only[N5,Ac,W_oS,W_on,Aa,W_mv,Ab,Ag,T.get_set,Ae,Ad,Ak,Al,Af,Au,reduceIte,Ai,Aq,Av,As,Ah,Ap,Ao,Ar,Aj,An,Nat.reduceEqDiff,reduceCtorEq, ↓reduceIte,hI.t0,h10,h11,ev,Bx BL hi,BE Cr (by decide)]
  refine W.load1 Cm (gr 2 _ rfl) ?_
  have y1:=hx.thenRd hb0 (b+(o+i*3+2))
  try simp only[Ac,W_oS,W_on,Aa,W_mv,Ab,Ag,T.get_set,Ae,Ad,Ak,Al,Af,Au,reduceIte,Ai,Aq,Av,As,Ah,Ap,Ao,Ar,Aj,An,Nat.reduceEqDiff,reduceCtorEq, ↓reduceIte]
  rw[gh.len]
  simp only[Ac,W_oS,W_on,Aa,W_mv,Ab,Ag,T.get_set,Ae,Ad,Ak,Al,Af,Au,reduceIte,Ai,Aq,Av,As,Ah,Ap,Ao,Ar,Aj,An,Nat.reduceEqDiff,reduceCtorEq, ↓reduceIte,A8,Bb,A5,A9,Be,Ba,Bc,A6]
  refine W.cond (v:=false) Uq SW (by simp[T.get_set];omega) (by omega) (fun h=>by cases h) fun _=> ?_
  rw[show k=ps[i].hs.length by omega,List.take_length]at hr
  subst hr
  exact K _ _ _ _ (by omega) Hx_ y1 (RfI.st hI rfl rfl fun j hj=>by rw[T.get_set,if_neg (by omega)]) (by simp[T.get_set,h10])
 |succ m ih=>
  intro k n r tm s td hk hn hTd hx hI hr h10 h11 K
  have hb:=hx.bnd hb0
  have hkl:k<ps[i].hs.length:=by omega
  obtain⟨b,o,c,ev,gr,gh,g16,_,_⟩:=(hv.ext0 hx).at hi
  obtain⟨b2,o2,c2,ev2,gr2,_⟩:=gh.at g16 hkl
  have hm:=g16 _ (List.getElem_mem hkl)
  have hls:=QA (id:=id) hkl
  refine Om.w hTd (by omega) ?_
  simp only[N5,Ac,W_oS,W_on,Aa,W_mv,Ab,Ag,T.get_set,Ae,Ad,Ak,Al,Af,Au,reduceIte,Ai,Aq,Av,As,Ah,Ap,Ao,Ar,Aj,An,Nat.reduceEqDiff,reduceCtorEq, ↓reduceIte,hI.t0,h10,h11,ev,Bx BL hi,BE Cr (by decide)]
  refine W.load1 Cm (gr 2 _ rfl) ?_
  have y1:=hx.thenRd hb0 (b+(o+i*3+2))
  try simp only[Ac,W_oS,W_on,Aa,W_mv,Ab,Ag,T.get_set,Ae,Ad,Ak,Al,Af,Au,reduceIte,Ai,Aq,Av,As,Ah,Ap,Ao,Ar,Aj,An,Nat.reduceEqDiff,reduceCtorEq, ↓reduceIte]
  rw[gh.len]
  simp only[Ac,W_oS,W_on,Aa,W_mv,Ab,Ag,T.get_set,Ae,Ad,Ak,Al,Af,Au,reduceIte,Ai,Aq,Av,As,Ah,Ap,Ao,Ar,Aj,An,Nat.reduceEqDiff,reduceCtorEq, ↓reduceIte,A8,Bb,A5,A9,Be,Ba,Bc,A6]
  refine W.cond (v:=true) Uq SW (by simp[T.get_set];omega) (by omega) (fun _=> ?_) fun h=>by cases h
  have hI1:RfI (s.rdN (b+(o+i*3+2))) C id r v (T.set tm 26 (.bool (decide (((k:Nat):Int)<((ps[i].hs.length:Nat):Int))))):=RfI.st hI rfl rfl fun j hj=>by rw[T.get_set,if_neg (by omega)]
  have g10:T.get (T.set tm 26 (.bool (decide (((k:Nat):Int)<((ps[i].hs.length:Nat):Int))))) 10=some (.int .i64 (i:Nat)):=by simp[T.get_set,h10]
  have g11:T.get (T.set tm 26 (.bool (decide (((k:Nat):Int)<((ps[i].hs.length:Nat):Int))))) 11=some (.int .i64 (k:Nat)):=by simp[T.get_set,h11]
  have gr':Row (s.rdN (b+(o+i*3+2))) b (o+i*3) (pkC ps[i]):=fun j u e=>(gr j u e).same rfl rfl
  have gr2':Row (s.rdN (b+(o+i*3+2))) b2 (o2+k*18) (AP ps[i].hs[k]):=fun j u e=>(gr2 j u e).same rfl rfl
  generalize T.set tm 26 (.bool (decide (((k:Nat):Int)<((ps[i].hs.length:Nat):Int))))=tma at *
  generalize s.rdN (b+(o+i*3+2))=sa at *
  have hba:=y1.bnd hb0
  have gid:Row sa b2 (o2+k*18+0) (u8l ps[i].hs[k].1):=fun j u e=>by
   have hj:=(List.getElem?_eq_some_iff.1 e).1
   have:=gr2' j u (by
    unfold AP
    rw[List.getElem?_append_left hj]
    exact e)
   exact this
  refine JO_.w YD (by omega) ?_
  simp only[SA,hI1.t0,hI1.t3,g10,g11,ev,Dd,B8]
  rw[W_dq fun s Q=>Bx (s:=s) BL hi Q]
  dsimp only
  rw[W_dq fun s Q=>BE (s:=s) Cr (by decide) Q]
  refine W.dload Cm ((gr' 2 _ rfl).same rfl rfl) fun rd4 hr4=> ?_
  simp only[B8,ev2]
  rw[W_dq fun s Q=>Bx (s:=s) CM hkl Q]
  dsimp only
  rw[W_dq fun s Q=>BE (s:=s) EA (by decide) Q]
  refine W.dloadA Cu (fun j u e=>(gid j u e).same rfl rfl) (by rw[Bp];exact hm) fun mem8 rd8 em8 hr8=> ?_
  subst em8
  refine W.dloadA Cu (fun j u e=>((hI1.hid j u e).same (s':=dSt sa.mem sa.next) rfl rfl).at') (by rw[Bp];exact hid) fun mem9 rd9 em9 hr9=> ?_
  subst em9
  rw[Aa]
  refine⟨H0 (by simp) (by simp), ?_⟩
  refine W.cast (KS_ _ _ _ _ _ _ _ _ _ _ _ _ _ _ _) ?_
  simp only[Ac,W_oS,W_on,Aa,W_mv,Ab,Ag,T.get_set,Ae,Ad,Ak,Al,Af,Au,reduceIte,Ai,Aq,Av,As,Ah,Ap,Ao,Ar,Aj,An,Nat.reduceEqDiff,reduceCtorEq, ↓reduceIte,Ls FJ hm hid]
  generalize hs':(⟨(dSt sa.mem sa.next).mem,(dSt sa.mem sa.next).next,sa.lim,_,_,sa.cx⟩:St)=sb
  have xb:Ext Any Non sa sb:=by
   rw[←hs']
   exact Ext.draw (F:=Any) (Nat.le_refl _) (fun _ _=>rfl) (by simp) fun _ _ _ _ _=>trivial
  have mb:sb.mem=sa.mem:=by rw[←hs'];rfl
  have nb:sb.next=sa.next:=by rw[←hs'];rfl
  have yb:=y1.on xb hb0 fun _ _ h=>h
  have hIb:RfI sb C id r v tma:=hI1.same mb nb
  have up: ∀(n':Nat) (r':Option (Int×HdI)) (tm':T Value) (s':St) (td':List Item),n≤n'+12→skim 64 td'=Ik→Ext Any Non s0 s'→RfI s' C id r' v tm'→r'=F6 ps[i].num (ps[i].hs.take (k+1)) id r0→T.get tm' 10=some (.int .i64 (i:Nat))→T.get tm' 11=some (.int .i64 (k:Nat))→W (runF envS n' ⟨51,J8,B0,tm',td', .run, .normal,none⟩) s' Q:=by
   intro n' r' tm' s' td' hn' hT' x' hI' hr' e10 e11
   refine Ck_.w hT' (by omega) ?_
   have ek:wrap64 ((k:Nat)+1:Int)=((k+1:Nat):Int):=by
    rw[B5 (by omega) (by omega)];simp
   simp only[RW,Ac,W_oS,W_on,Aa,W_mv,Ab,Ag,T.get_set,Ae,Ad,Ak,Al,Af,Au,reduceIte,Ai,Aq,Av,As,Ah,Ap,Ao,Ar,Aj,An,Nat.reduceEqDiff,reduceCtorEq, ↓reduceIte,A8,Bb,A5,A9,Be,Ba,Bc,A6,e11,ek]
   exact ih (k+1) _ r' _ _ _ (by omega) (by omega) Jm_ x' (hI'.tm' fun j hj=>by rw[T.get_set,if_neg (by omega)]) hr' (by simp[T.get_set,e10]) (by simp[T.get_set]) fun n1 tm1 s1 td1 a1 a2 a3 a4 a5=>K n1 tm1 s1 td1 (by omega) a2 a3 a4 a5
  by_cases cq:ps[i].hs[k].1=id
  ·rw[if_pos cq]at hls
   refine W.cond (v:=true) QQ S3 (by simp[T.get_set];exact cq) (by omega) (fun _=> ?_) fun h=>by cases h
   refine Az_.w Yg (by omega) ?_
   simp only[Ry,Ac,W_oS,W_on,Aa,W_mv,Ab,Ag,T.get_set,Ae,Ad,Ak,Al,Af,Au,reduceIte,Ai,Aq,Av,As,Ah,Ap,Ao,Ar,Aj,An,Nat.reduceEqDiff,reduceCtorEq, ↓reduceIte,hIb.t0,g10,ev,Bx BL hi,BE Kb (by decide)]
   refine W.load1 DI ((gr' 0 _ rfl).same mb nb) ?_
   have yc:=yb.thenRd hb0 (b+(o+i*3+0))
   try simp only[Ac,W_oS,W_on,Aa,W_mv,Ab,Ag,T.get_set,Ae,Ad,Ak,Al,Af,Au,reduceIte,Ai,Aq,Av,As,Ah,Ap,Ao,Ar,Aj,An,Nat.reduceEqDiff,reduceCtorEq, ↓reduceIte]
   refine Gj_.w DP_ (by omega) ?_
   simp only[Ti,Ac,W_oS,W_on,Aa,W_mv,Ab,Ag,T.get_set,Ae,Ad,Ak,Al,Af,Au,reduceIte,Ai,Aq,Av,As,Ah,Ap,Ao,Ar,Aj,An,Nat.reduceEqDiff,reduceCtorEq, ↓reduceIte,hIb.t0,hIb.t8,g10,g11,ev,Bx BL hi,BE Cr (by decide)]
   refine W.load1 Cm (((gr' 2 _ rfl).same mb nb).same rfl rfl) ?_
   have yd:=yc.thenRd hb0 (b+(o+i*3+2))
   simp only[Ac,W_oS,W_on,Aa,W_mv,Ab,Ag,T.get_set,Ae,Ad,Ak,Al,Af,Au,reduceIte,Ai,Aq,Av,As,Ah,Ap,Ao,Ar,Aj,An,Nat.reduceEqDiff,reduceCtorEq, ↓reduceIte,ev2,Bx CM hkl]
   refine W.loadA B1 (fun j u e=>((gr2' j u e).same mb nb).same rfl rfl) (Cg hm) fun se me ne xe=> ?_
   have ye:=yd.on xe hb0 fun _ _ h=>h
   have hIe:RfI se C id r v tma:=hIb.same me ne
   try simp only[Ac,W_oS,W_on,Aa,W_mv,Ab,Ag,T.get_set,Ae,Ad,Ak,Al,Af,Au,reduceIte,Ai,Aq,Av,As,Ah,Ap,Ao,Ar,Aj,An,Nat.reduceEqDiff,reduceCtorEq, ↓reduceIte]
   refine W.store B1 (v:= .agg (AP ps[i].hs[k]).toArray) (Cg hm) (De _) (fun j hj=>(AI.owned hIe.o8) j (by rw[Cg hIe.r16];exact hj)) fun sf nf xf of=> ?_
   rw[Cx]at of
   have yf:=ye.on xf hb0 fun x hx hq=>by have:=hq.1;omega
   try simp only[Ac,W_oS,W_on,Aa,W_mv,Ab,Ag,T.get_set,Ae,Ad,Ak,Al,Af,Au,reduceIte,Ai,Aq,Av,As,Ah,Ap,Ao,Ar,Aj,An,Nat.reduceEqDiff,reduceCtorEq, ↓reduceIte]
   refine AP_.w KZ_ (by omega) ?_
   simp only[Sm,Ac,W_oS,W_on,Aa,W_mv,Ab,Ag,T.get_set,Ae,Ad,Ak,Al,Af,Au,reduceIte,Ai,Aq,Av,As,Ah,Ap,Ao,Ar,Aj,An,Nat.reduceEqDiff,reduceCtorEq, ↓reduceIte]
   refine up _ (some (ps[i].num,ps[i].hs[k])) _ _ _ (by omega) Gw_ yf ⟨hIe.hid.ext xf fun j hj hq=> ?_,fun j hj=> ?_,of,hm,by simp[T.get_set,hIe.t0],by simp[T.get_set,hIe.t3],by simp[T.get_set,hIe.t5],by simp[T.get_set];rfl,by simp[T.get_set,hIe.t8],by simp[T.get_set];rfl⟩ ?_ (by simp[T.get_set,g10]) (by simp[T.get_set,g11])
   ·rw[Bp]at hj
    have:=hq.1
    omega
   ·obtain⟨u,hu⟩:=hIe.o5 j hj
    exact⟨u,hu.ext xf fun hq=>by have:=hq.1;omega⟩
   ·unfold F6
    rw[hls]
  ·rw[if_neg cq]at hls
   refine W.cond (v:=false) QQ S3 (by simp[T.get_set];exact cq) (by omega) (fun h=>by cases h) fun _=> ?_
   exact up _ r _ _ _ (by omega) Xt yb (hIb.tm' fun j hj=>by rw[T.get_set,if_neg (by omega)]) (by
    rw[hr]
    unfold F6
    rw[hls]) (by simp[T.get_set,g10]) (by simp[T.get_set,g11])
theorem BC_ (hb0:s0.lim≤s0.next)(hC:s0.next=C)(hid:id.length=16)(hv:PkR s0 v ps)(hz: ∀p∈ps,p.hs.length≤1000000)(hpz:ps.length≤100000)(hcx:s0.cx=cxN)
  (q: ∀s1,Ext Any Non s0 s1→Q (.tuple #[.int .i64 (resP (Bl ps id)).1, .agg (AP (resP (Bl ps id)).2.1).toArray, .bool (resP (Bl ps id)).2.2], .run) s1):
  ∀(m i n:Nat) (tm:T Value) (s:St) (td:List Item),i+m=ps.length→20000100*m+100≤n→skim 64 td=GK→Ext Any Non s0 s→RfI s C id (Bl (ps.take i) id) v tm→T.get tm 10=some (.int .i64 (i:Nat))→
  W (runF envS n ⟨51,J8,B0,tm,td, .run, .normal,none⟩) s Q:=by
 intro m
 induction m with
 |zero=>
  intro i n tm s td hi hn hTd hx hI h10
  refine SR.w hTd (by omega) ?_
  simp only[L9,Ac,W_oS,W_on,Aa,W_mv,Ab,Ag,T.get_set,Ae,Ad,Ak,Al,Af,Au,reduceIte,Ai,Aq,Av,As,Ah,Ap,Ao,Ar,Aj,An,Nat.reduceEqDiff,reduceCtorEq, ↓reduceIte,hI.t0,h10]
  rw[hv.len]
  simp only[Ac,W_oS,W_on,Aa,W_mv,Ab,Ag,T.get_set,Ae,Ad,Ak,Al,Af,Au,reduceIte,Ai,Aq,Av,As,Ah,Ap,Ao,Ar,Aj,An,Nat.reduceEqDiff,reduceCtorEq, ↓reduceIte,A8,Bb,A5,A9,Be,Ba,Bc,A6]
  refine W.cond (v:=false) RA OF (by simp[T.get_set];omega) (by omega) (fun h=>by cases h) fun _=> ?_
  rw[show i=ps.length by omega,List.take_length]at hI
  have hI1:RfI s C id (Bl ps id) v (T.set tm 16 (.bool (decide (((i:Nat):Int)<((ps.length:Nat):Int))))):=hI.tm' fun j hj=>by rw[T.get_set,if_neg (by omega)]
  generalize T.set tm 16 (.bool (decide (((i:Nat):Int)<((ps.length:Nat):Int))))=tma at *
  generalize Bl ps id=r at *
  have h8:Row (dSt s.mem s.next) (C+36) 0 (AP (resP r).2.1):=fun j u e=>((hI1.o8 j u e).same (s':=dSt s.mem s.next) rfl rfl).at'
  have hl8:=Cg hI1.r16
  refine Bp_.w Ie_ (by omega) ?_
  simp only[SU,hI1.t7,hI1.t8,hI1.t9,Dd,B8]
  refine W.dloadA B1 h8 hl8 fun mem1 rd1 em1 hr1=> ?_
  subst em1
  simp only[B8,Ag,T.get_set,Nat.reduceEqDiff,reduceIte,hI1.t5,Dd]
  refine W.dopG (W.store (s:=oSt s.mem s.next) B1 (v:= .agg (AP (resP r).2.1).toArray) hl8 (De _) (fun j hj=>by
   obtain⟨u,hu⟩:=hI1.o5 j hj
   exact⟨u,hu.same rfl rfl⟩) fun s7 n7 x7 w7=>⟨In (C+17) 0 18,In (C+17) 0 18,x7,fun rd4 wr4 hr4 hw4=> ?_⟩)
  rw[Cx]at w7
  have n7':s7.next=s.next:=n7
  rw[Aa]
  refine⟨Lw ?_, ?_⟩
  ·simp only[List.reverse_cons,List.reverse_nil,List.nil_append,List.cons_append,allP,EI,List.take,Kv,n7']
   have e1: ∀x,x∈rd1→C+36≤x:=fun x h=>by have:=(hr1 x h).1;omega
   have w4: ∀x,x∈wr4→C+17≤x∧x<C+35:=fun x h=>by have h1:=(hw4 x h).2.1;have h2:=(hw4 x h).2.2;omega
   have nn: ∀x,s.next≤x→ ¬x<s.next:=fun x h=>by omega
   have d1: ∀x,x∈wr4→ ¬x∈rd1:=fun x h1 h2=>by have:=w4 x h1;have:=e1 x h2;omega
   simp+contextual [nn,d1]
  ·refine W.cast (Li_ _ _ _ _ _ _ _ _ _) ?_
   simp only[Ac,W_oS,W_on,Aa,W_mv,Ab,Ag,T.get_set,Ae,Ad,Ak,Al,Af,Au,reduceIte,Ai,Aq,Av,As,Ah,Ap,Ao,Ar,Aj,An,Nat.reduceEqDiff,reduceCtorEq, ↓reduceIte]
   generalize hs':(⟨(dSt s7.mem s7.next).mem,(dSt s7.mem s7.next).next,s.lim,_,_,s.cx⟩:St)=s8
   have x8:Ext Any (In (C+17) 0 18) s s8:=by
    rw[←hs']
    refine Ext.drawG (by show s.next≤s7.next;omega) (fun x hx hg=>x7.mem x hx hg) ?_ fun _ _ _ _ _=>trivial
    simp only[List.mem_cons,List.not_mem_nil,or_false]
    rintro m (rfl|rfl|rfl|rfl|rfl) x hx _<;>first|(cases hx;done)|exact(hw4 x hx).2
   have m8:s8.mem=s7.mem:=by rw[←hs'];rfl
   have n8:s8.next=s7.next:=by rw[←hs'];rfl
   have y8:=hx.on x8 hb0 fun x hx hq=>by have:=hq.1;omega
   refine W.endG (rs:=[.tmp 4, .cell 5 35, .tmp 6]) Bf_ (.inl Iv_) (by omega) Uz Gr_ (y8.cx.trans hcx) ?_
   refine W.resTmp (v:= .int .i64 (resP r).1) (by simp[T.get_set]) (W.resCell (a:=⟨C+17,0,none⟩) (by simp[T.get_set,hI1.t5]) (W.loadA B1 (fun j u e=>((w7 j u e).same m8 n8).at') hl8 fun s9 m9 n9 x9=>W.resTmp (v:= .bool (resP r).2.2) (by simp[T.get_set]) (W.resNil ?_)))
   exact q _ (y8.on x9 hb0 fun _ _ h=>h)
 |succ m ih=>
  intro i n tm s td hi hn hTd hx hI h10
  have hil:i<ps.length:=by omega
  have hzi:=hz _ (List.getElem_mem hil)
  refine SR.w hTd (by omega) ?_
  simp only[L9,Ac,W_oS,W_on,Aa,W_mv,Ab,Ag,T.get_set,Ae,Ad,Ak,Al,Af,Au,reduceIte,Ai,Aq,Av,As,Ah,Ap,Ao,Ar,Aj,An,Nat.reduceEqDiff,reduceCtorEq, ↓reduceIte,hI.t0,h10]
  rw[hv.len]
  simp only[Ac,W_oS,W_on,Aa,W_mv,Ab,Ag,T.get_set,Ae,Ad,Ak,Al,Af,Au,reduceIte,Ai,Aq,Av,As,Ah,Ap,Ao,Ar,Aj,An,Nat.reduceEqDiff,reduceCtorEq, ↓reduceIte,A8,Bb,A5,A9,Be,Ba,Bc,A6]
  refine W.cond (v:=true) RA OF (by simp[T.get_set];omega) (by omega) (fun _=> ?_) fun h=>by cases h
  refine Wy.w Hc_ (by omega) ?_
  simp only[Pz,Ac,W_oS,W_on,Aa,W_mv,Ab,Ag,T.get_set,Ae,Ad,Ak,Al,Af,Au,reduceIte,Ai,Aq,Av,As,Ah,Ap,Ao,Ar,Aj,An,Nat.reduceEqDiff,reduceCtorEq, ↓reduceIte]
  refine IO_ hb0 hC hid hv hil hzi (Bl (ps.take i) id) ps[i].hs.length 0 _ _ _ _ _ (by omega) (by omega) JI_ hx (hI.tm' fun j hj=>by rw[T.get_set,if_neg (by omega),T.get_set,if_neg (by omega)]) rfl (by simp[T.get_set,h10]) (by simp[T.get_set]) fun n1 tm1 s1 td1 a1 a2 a3 a4 a5=> ?_
  refine Fa_.w a2 (by omega) ?_
  have ei:wrap64 ((i:Nat)+1:Int)=((i+1:Nat):Int):=by
   rw[B5 (by omega) (by omega)];simp
  simp only[Rl,Ac,W_oS,W_on,Aa,W_mv,Ab,Ag,T.get_set,Ae,Ad,Ak,Al,Af,Au,reduceIte,Ai,Aq,Av,As,Ah,Ap,Ao,Ar,Aj,An,Nat.reduceEqDiff,reduceCtorEq, ↓reduceIte,A8,Bb,A5,A9,Be,Ba,Bc,A6,a5,ei]
  refine ih (i+1) _ _ _ _ (by omega) (by omega) Ec_ a3 ?_ (by simp[T.get_set])
  have:F6 ps[i].num ps[i].hs id (Bl (ps.take i) id)=Bl (ps.take (i+1)) id:=by
   rw[Ow hil]
   rfl
  rw[←this]
  exact a4.tm' fun j hj=>by rw[T.get_set,if_neg (by omega)]
end
theorem JR_ {n:Nat}{id:List Nat}{v:Value}{ps:List PkI}{s:St}{Q:Value→St→Prop}(hb:s.lim≤s.next)(hid:id.length=16)(hv:PkR s v ps)(hz: ∀p∈ps,p.hs.length≤1000000)(hpz:ps.length≤100000)(hn:20000100*ps.length+200≤n)
  (q: ∀s1,Ext Any Non s s1→Q (.tuple #[.int .i64 (resP (Bl ps id)).1, .agg (AP (resP (Bl ps id)).2.1).toArray, .bool (resP (Bl ps id)).2.2]) s1):
  W (A2 envS (runF envS n) 51 [v, .agg (u8l id).toArray]) s Q:=by
 refine Ar_ fun tm h0 h1=> ?_
 have hb0:(s.cxN cxN).lim≤(s.cxN cxN).next:=hb
 refine FD_.w rfl (by omega) ?_
 simp only[Re,Ac,W_oS,W_on,Aa,W_mv,Ab,Ag,T.get_set,Ae,Ad,Ak,Al,Af,Au,reduceIte,Ai,Aq,Av,As,Ah,Ap,Ao,Ar,Aj,An,Nat.reduceEqDiff,reduceCtorEq, ↓reduceIte,h1]
 refine W.box fun sa na xa oa=> ?_
 rw[Cx]at na oa
 have na':sa.next=s.next+17:=by rw[na,Bp,hid];rfl
 have ea:(s.cxN cxN).next=s.next:=rfl
 rw[ea]at oa ⊢
 try simp only[Ac,W_oS,W_on,Aa,W_mv,Ab,Ag,T.get_set,Ae,Ad,Ak,Al,Af,Au,reduceIte,Ai,Aq,Av,As,Ah,Ap,Ao,Ar,Aj,An,Nat.reduceEqDiff,reduceCtorEq, ↓reduceIte]
 refine W.alloc Ew fun sb nb xb ob=> ?_
 have nb':sb.next=s.next+36:=by rw[nb,na'];rfl
 rw[na']at ob ⊢
 try simp only[Ac,W_oS,W_on,Aa,W_mv,Ab,Ag,T.get_set,Ae,Ad,Ak,Al,Af,Au,reduceIte,Ai,Aq,Av,As,Ah,Ap,Ao,Ar,Aj,An,Nat.reduceEqDiff,reduceCtorEq, ↓reduceIte]
 refine XC.w W7 (by omega) ?_
 simp only[OQ,Ac,W_oS,W_on,Aa,W_mv,Ab,Ag,T.get_set,Ae,Ad,Ak,Al,Af,Au,reduceIte,Ai,Aq,Av,As,Ah,Ap,Ao,Ar,Aj,An,Nat.reduceEqDiff,reduceCtorEq, ↓reduceIte,LN Tk]
 refine W.alloc Ew fun sc nc xc oc=> ?_
 have nc':sc.next=s.next+55:=by rw[nc,nb'];rfl
 rw[nb']at oc ⊢
 try simp only[Ac,W_oS,W_on,Aa,W_mv,Ab,Ag,T.get_set,Ae,Ad,Ak,Al,Af,Au,reduceIte,Ai,Aq,Av,As,Ah,Ap,Ao,Ar,Aj,An,Nat.reduceEqDiff,reduceCtorEq, ↓reduceIte]
 refine W.store B1 (v:= .agg (AP (List.replicate 16 0,0,0)).toArray) rfl (De _) (fun j hj=>(AI.owned oc) j (by simpa using hj)) fun sd nd xd od=> ?_
 rw[Cx]at od
 try simp only[Ac,W_oS,W_on,Aa,W_mv,Ab,Ag,T.get_set,Ae,Ad,Ak,Al,Af,Au,reduceIte,Ai,Aq,Av,As,Ah,Ap,Ao,Ar,Aj,An,Nat.reduceEqDiff,reduceCtorEq, ↓reduceIte]
 have ya:=(Ext.refl (F:=Any) (G:=Non) (s.cxN cxN)).on xa hb0 fun _ _ h=>h
 have yd:=((ya.on xb hb0 fun _ _ h=>h).on xc hb0 fun _ _ h=>h).on xd hb0 fun x hx hq=>by
  have:x<s.next:=hx
  have:=hq.1
  omega
 refine EI_.w Be_ (by omega) ?_
 simp only[U8,Ac,W_oS,W_on,Aa,W_mv,Ab,Ag,T.get_set,Ae,Ad,Ak,Al,Af,Au,reduceIte,Ai,Aq,Av,As,Ah,Ap,Ao,Ar,Aj,An,Nat.reduceEqDiff,reduceCtorEq, ↓reduceIte]
 refine BC_ (C:=s.next) (s0:=s.cxN cxN) hb0 rfl hid (hv.same rfl rfl) hz hpz rfl (fun s1 x1=>q _ x1.cx') ps.length 0 _ _ _ _ (by omega) (by omega) YT yd ⟨((AI.ext0 oa xb).ext0 xc).ext xd fun j hj hq=> ?_,fun j hj=> ?_,od,rfl,by simp[T.get_set,h0],by simp[T.get_set],by simp[T.get_set],by simp[T.get_set];rfl,by simp[T.get_set],by simp[T.get_set];rfl⟩ (by simp[T.get_set])
 ·rw[Bp]at hj
  have:=hq.1
  omega
 ·obtain⟨u,hu⟩:=(AI.owned ob) j (by simpa using hj)
  exact⟨u,(hu.ext0 xc).ext xd fun hq=>by have:=hq.1;omega⟩
def putI (acc:List (List Nat))(x:List Nat):List (List Nat):=if x∈acc then acc else acc++[x]
def idsH (acc:List (List Nat))(hs:List HdI):List (List Nat):=hs.foldl (fun a h=>putI a h.1) acc
def idsP (ps:List PkI):List (List Nat):=ps.foldl (fun a p=>idsH a p.hs) []
theorem PI {acc:List (List Nat)}{hs:List HdI}{k:Nat}(hk:k<hs.length):idsH acc (hs.take (k+1))=putI (idsH acc (hs.take k)) hs[k].1:=by
 unfold idsH
 rw[List.take_succ_eq_append_getElem hk,List.foldl_append]
 rfl
theorem Lg {ps:List PkI}{k:Nat}(hk:k<ps.length):idsP (ps.take (k+1))=idsH (idsP (ps.take k)) ps[k].hs:=by
 unfold idsP
 rw[List.take_succ_eq_append_getElem hk,List.foldl_append]
 rfl
theorem GM_ (acc:List (List Nat))(x:List Nat):(putI acc x).length≤acc.length+1:=by
 unfold putI
 by_cases c:x∈acc
 ·rw[if_pos c];omega
 ·rw[if_neg c,List.length_append];simp
theorem JG: ∀(hs:List HdI) (acc:List (List Nat)),(idsH acc hs).length≤acc.length+hs.length
 |[],acc=>Nat.le_refl _
 |h::hs,acc=>by
  have h1:=JG hs (putI acc h.1)
  have h2:=GM_ acc h.1
  show(idsH (putI acc h.1) hs).length≤_
  rw[List.length_cons]
  omega
theorem IB (ps:List PkI): ∀k,k≤ps.length→(idsP (ps.take k)).length≤Bw (ps.take k)
 |0,_=>Nat.zero_le _
 |k+1,hk=>by
  have h1:=IB ps k (by omega)
  have h2:=JG ps[k].hs (idsP (ps.take k))
  rw[Lg (show k<ps.length by omega),He (show k<ps.length by omega)]
  omega
theorem Hq_ (ps:List PkI):(idsP ps).length≤Bw ps:=by
 have:=IB ps ps.length (Nat.le_refl _)
 rwa [List.take_length]at this
theorem Mq:elT envS 69=some (16,16,List.replicate 16 (.int .u8 0)):=by kernel_rfl
theorem Oc:appT envS 69 69=some (16,16,false,List.replicate 16 (.int .u8 0)):=by kernel_rfl
theorem Oy {x:List Nat}(h:x.length=16):Do (fun k=>some (k*16,16)) [(0, .agg (u8l x).toArray)] (rep 1 (List.replicate 16 (.int .u8 0)))=some (u8l x):=by
 match x,h with
 |[x0,x1,x2,x3,x4,x5,x6,x7,x8,x9,x10,x11,x12,x13,x14,x15],_=>rfl
theorem QH: ∀l:List (List Nat),(idCs l).all oneCell=true
 |[]=>rfl
 |x::l=>by
  show(u8l x++idCs l).all oneCell=true
  rw[List.all_append,I7,QH l]
  rfl
theorem Pw (l:List (List Nat))(x:List Nat):idCs l++u8l x=idCs (l++[x]):=by
 rw[QL]
 show _=idCs l++(u8l x++[])
 rw[List.append_nil]
theorem Tl {s:St}{ids:List (List Nat)}{vo:Value}{bo:Nat}{x:List Nat}{Q:Value→St→Prop}(hb:s.lim≤s.next)(h:MkS s 16 ids.length (idCs ids) vo bo)(hx:x.length=16)(hle:ids.length≤100000)
  (q: ∀s2 v2 b2,Ext Any (MkF 16 ids.length bo) s s2→s.next≤b2→MkS s2 16 (ids++[x]).length (idCs (ids++[x])) v2 b2→Q v2 s2):
  W (Cs envS 69 1 [(0, .agg (u8l x).toArray)]) s fun v s1=>W (Bi envS .append [69,69] [vo,v]) s1 Q:=by
 refine W.buildS hb (r:=u8l x) Mq (by decide) (Oy hx) (H8 (by decide)) fun s1 n1 x1 r1=> ?_
 have hb1:=x1.bnd hb
 have hxl:(u8l x).length=16:=by rw[Bp];exact hx
 rw[hxl]at n1
 rw[Hr]
 refine W.appU (s:=s1) hb1 Oc (h.ext0 x1) (Fo (n:=1) (c:=1) (AI.row r1) hxl).g (by decide) (by decide) (by decide) (by omega) hxl (I7 x) fun s2 v2 b2 hb2 mk2 x2=> ?_
 have x12:Ext Any (MkF 16 ids.length bo) s s2:=(x1.weak hb (fun _ _ h=>h.elim) fun _ _ h=>h.elim).trans x2 hb (fun _ _ _=>trivial) fun _ _ h=>h
 refine q s2 v2 b2 x12 (by omega) ?_
 rw[List.length_append,←Pw]
 exact mk2
theorem MkS.ids {s:St}{ids:List (List Nat)}{vo:Value}{bo:Nat}(h:MkS s 16 ids.length (idCs ids) vo bo)(h16: ∀x∈ids,x.length=16):IdR s vo ids:=by
 refine⟨?_,h16⟩
 rcases h with⟨h1,h2,_⟩|⟨h,_⟩
 ·exact .inl ⟨h1,List.eq_nil_of_length_eq_zero h2⟩
 ·exact .inr ⟨_,0,_,h.val,h.own.row⟩
structure IdI (s0 s:St)(M:Nat)(ids:List (List Nat))(vo:Value)(bo:Nat):Prop where
 mo:MkS s 16 ids.length (idCs ids) vo bo
 om:Obj s M (.map (idEs 0 ids) ids.length)
 no:s0.next≤bo
 nm:s0.next≤M
 dj: ¬MkF 16 ids.length bo M
 i16: ∀x∈ids,x.length=16
theorem IdI.ext {F G:Nat→Prop}{s0 s s':St}{M:Nat}{ids:List (List Nat)}{vo:Value}{bo:Nat}(h:IdI s0 s M ids vo bo)(x:Ext F G s s')(hG: ∀y,y<s.next→ ¬G y):IdI s0 s' M ids vo bo:=
 ⟨h.mo.ext x fun y hy=>hG y (h.mo.lt y hy),h.om.ext x (hG _ h.om.1),h.no,h.nm,h.dj,h.i16⟩
theorem IdI.same {s0 s s':St}{M:Nat}{ids:List (List Nat)}{vo:Value}{bo:Nat}(h:IdI s0 s M ids vo bo)(hm:s'.mem=s.mem)(hn:s'.next=s.next):IdI s0 s' M ids vo bo:=
 ⟨h.mo.same hm hn,h.om.same hm hn,h.no,h.nm,h.dj,h.i16⟩
theorem P9 (s:St):mapT envS 134 s= .some (26,135) s:=by kernel_rfl
theorem Zj (s:St):zeroOf envS 135 s= .some (.agg #[]) s:=by kernel_rfl
theorem HU_:ER envS 135=some []:=by kernel_rfl
theorem Y4:tyS envS 135=some (0,true):=by kernel_rfl
theorem JZ_:KU envS 135 []=some []:=by kernel_rfl
section
variable {M i:Nat}{vp vh:Value}{hs:List HdI}{s0:St}{Q:Value×FrameMode→St→Prop}
theorem Kk_ (hb0:s0.lim≤s0.next)(hv:HiR s0 vh hs)(h16: ∀h∈hs,h.1.length=16)(acc:List (List Nat))(hz:acc.length+hs.length≤100000):
  ∀(m k n:Nat) (ids:List (List Nat)) (vo:Value) (bo:Nat) (tm:T Value) (s:St) (td:List Item),k+m=hs.length→20*m+30≤n→skim 64 td=Ft→Ext Any Non s0 s→IdI s0 s M ids vo bo→ids=idsH acc (hs.take k)→
  T.get tm 3=some (.map (some M))→T.get tm 4=some vo→T.get tm 19=some vh→T.get tm 20=some (.int .i64 (hs.length:Nat))→T.get tm 21=some (.int .i64 (k:Nat))→
  (∀(n1:Nat) (vo':Value) (bo':Nat) (tm1:T Value) (s1:St) (td1:List Item),n≤n1+(20*m+10)→skim 64 td1=Jt→Ext Any Non s0 s1→IdI s0 s1 M (idsH acc hs) vo' bo'→(∀j,j=3∨j=12∨j=13∨j=14→T.get tm1 j=T.get tm j)→T.get tm1 4=some vo'→W (runF envS n1 ⟨53,JW,BT,tm1,td1, .run, .normal,none⟩) s1 Q)→
  W (runF envS n ⟨53,JW,BT,tm,td, .run, .normal,none⟩) s Q:=by
 intro m
 induction m with
 |zero=>
  intro k n ids vo bo tm s td hk hn hTd hx hI hr h3 h4 h19 h20 h21 K
  refine UA.w hTd (by omega) ?_
  simp only[NM,Ac,W_oS,W_on,Aa,W_mv,Ab,Ag,T.get_set,Ae,Ad,Ak,Al,Af,Au,reduceIte,Ai,Aq,Av,As,Ah,Ap,Ao,Ar,Aj,An,Nat.reduceEqDiff,reduceCtorEq, ↓reduceIte,A8,Bb,A5,A9,Be,Ba,Bc,A6,h20,h21]
  refine W.cond (v:=false) Tz Un (by simp[T.get_set];omega) (by omega) (fun h=>by cases h) fun _=> ?_
  rw[show k=hs.length by omega,List.take_length]at hr
  subst hr
  exact K _ vo bo _ _ _ (by omega) Ic_ hx hI (fun j hj=>by rw[T.get_set,if_neg (by omega)]) (by simp[T.get_set,h4])
 |succ m ih=>
  intro k n ids vo bo tm s td hk hn hTd hx hI hr h3 h4 h19 h20 h21 K
  have hkl:k<hs.length:=by omega
  have hm:=h16 _ (List.getElem_mem hkl)
  have hls:=PI (acc:=acc) hkl
  rw[←hr]at hls
  have hil:ids.length≤100000:=by
   have:=JG (hs.take k) acc
   rw[←hr,List.length_take]at this
   omega
  obtain⟨b,o,c,ev,gr,_⟩:=(hv.ext0 hx).at h16 hkl
  refine UA.w hTd (by omega) ?_
  simp only[NM,Ac,W_oS,W_on,Aa,W_mv,Ab,Ag,T.get_set,Ae,Ad,Ak,Al,Af,Au,reduceIte,Ai,Aq,Av,As,Ah,Ap,Ao,Ar,Aj,An,Nat.reduceEqDiff,reduceCtorEq, ↓reduceIte,A8,Bb,A5,A9,Be,Ba,Bc,A6,h20,h21]
  refine W.cond (v:=true) Tz Un (by simp[T.get_set];omega) (by omega) (fun _=> ?_) fun h=>by cases h
  refine Wu.w JC_ (by omega) ?_
  simp only[P1,Ac,W_oS,W_on,Aa,W_mv,Ab,Ag,T.get_set,Ae,Ad,Ak,Al,Af,Au,reduceIte,Ai,Aq,Av,As,Ah,Ap,Ao,Ar,Aj,An,Nat.reduceEqDiff,reduceCtorEq, ↓reduceIte,h19,h21,ev,Bx CM hkl]
  refine W.loadA B1 gr (Cg hm) fun sa ma na xa=> ?_
  have ya:=hx.on xa hb0 fun _ _ h=>h
  try simp only[Ac,W_oS,W_on,Aa,W_mv,Ab,Ag,T.get_set,Ae,Ad,Ak,Al,Af,Au,reduceIte,Ai,Aq,Av,As,Ah,Ap,Ao,Ar,Aj,An,Nat.reduceEqDiff,reduceCtorEq, ↓reduceIte]
  refine W.alloc Ew fun sb nb xb ob=> ?_
  have yb:=ya.on xb hb0 fun _ _ h=>h
  try simp only[Ac,W_oS,W_on,Aa,W_mv,Ab,Ag,T.get_set,Ae,Ad,Ak,Al,Af,Au,reduceIte,Ai,Aq,Av,As,Ah,Ap,Ao,Ar,Aj,An,Nat.reduceEqDiff,reduceCtorEq, ↓reduceIte]
  refine W.store B1 (v:= .agg (AP hs[k]).toArray) (Cg hm) (De _) (fun j hj=>(AI.owned ob) j (by simpa using hj)) fun sc nc xc oc=> ?_
  rw[Cx]at oc
  have hyn:s0.next≤sa.next:=ya.nxt
  have yc:=yb.on xc hb0 fun x hx hq=>by have:=hq.1;omega
  have hba:=ya.bnd hb0
  have xac:Ext Any (fun y=>sa.next≤y) sa sc:=(xb.weak hba (fun _ _ h=>h.elim) fun _ _ h=>h.elim).on xc hba fun y hy hq=>by have:=hq.1;omega
  have hIc:IdI s0 sc M ids vo bo:=(hI.same ma na).ext xac fun y hy hq=>by omega
  have oid:AI sc sa.next (0+0) (u8l hs[k].1):=fun j u e=>by
   have hj:=(List.getElem?_eq_some_iff.1 e).1
   have:=oc j u (by
    unfold AP
    rw[List.getElem?_append_left hj]
    exact e)
   exact this
  try simp only[Ac,W_oS,W_on,Aa,W_mv,Ab,Ag,T.get_set,Ae,Ad,Ak,Al,Af,Au,reduceIte,Ai,Aq,Av,As,Ah,Ap,Ao,Ar,Aj,An,Nat.reduceEqDiff,reduceCtorEq, ↓reduceIte]
  generalize hA:sa.next=A at *
  refine Jo_.w Zd (by omega) ?_
  simp only[TZ,Ac,W_oS,W_on,Aa,W_mv,Ab,Ag,T.get_set,Ae,Ad,Ak,Al,Af,Au,reduceIte,Ai,Aq,Av,As,Ah,Ap,Ao,Ar,Aj,An,Nat.reduceEqDiff,reduceCtorEq, ↓reduceIte,h3,BE EA (by decide:0<16)]
  refine W.loadA Cu oid.row (by rw[Bp];exact hm) fun sd md nd xd=> ?_
  have yd:=yc.on xd hb0 fun _ _ h=>h
  have hId:=hIc.same md nd
  try simp only[Ac,W_oS,W_on,Aa,W_mv,Ab,Ag,T.get_set,Ae,Ad,Ak,Al,Af,Au,reduceIte,Ai,Aq,Av,As,Ah,Ap,Ao,Ar,Aj,An,Nat.reduceEqDiff,reduceCtorEq, ↓reduceIte]
  refine W.look P9 Zj FJ hm hId.i16 hId.om ?_
  have ye:=yd.thenRd hb0 M
  have hIe:IdI s0 (sd.rdN M) M ids vo bo:=hId.same rfl rfl
  have oie:AI (sd.rdN M) A (0+0) (u8l hs[k].1):=fun j u e=>((oid j u e).same md nd).same rfl rfl
  generalize sd.rdN M=se at *
  rw[Ei (k:=0) rfl,Ei (k:=1) rfl]
  refine W.alloc HU_ fun sf nf xf of=> ?_
  have yf:=ye.on xf hb0 fun _ _ h=>h
  have hIf:IdI s0 sf M ids vo bo:=hIe.ext xf fun _ _ h=>h
  have oif:=AI.ext0 oie xf
  try simp only[Ac,W_oS,W_on,Aa,W_mv,Ab,Ag,T.get_set,Ae,Ad,Ak,Al,Af,Au,reduceIte,Ai,Aq,Av,As,Ah,Ap,Ao,Ar,Aj,An,Nat.reduceEqDiff,reduceCtorEq, ↓reduceIte]
  refine W.store Y4 (v:= .agg #[]) rfl rfl (fun j hj=>by omega) fun sg ng xg og=> ?_
  have yg:=yf.on xg hb0 fun x hx hq=>by
   have h1:=hq.1
   have h2:=hq.2
   omega
  have hIg:IdI s0 sg M ids vo bo:=hIf.ext xg fun y hy hq=>by
   have h1:=hq.1
   have h2:=hq.2
   omega
  have oig:AI sg A (0+0) (u8l hs[k].1):=oif.ext xg fun j hj hq=>by
   have h1:=hq.1
   have h2:=hq.2
   omega
  try simp only[Ac,W_oS,W_on,Aa,W_mv,Ab,Ag,T.get_set,Ae,Ad,Ak,Al,Af,Au,reduceIte,Ai,Aq,Av,As,Ah,Ap,Ao,Ar,Aj,An,Nat.reduceEqDiff,reduceCtorEq, ↓reduceIte]
  refine Ay_.w V0 (by omega) ?_
  simp only[TQ,Ac,W_oS,W_on,Aa,W_mv,Ab,Ag,T.get_set,Ae,Ad,Ak,Al,Af,Au,reduceIte,Ai,Aq,Av,As,Ah,Ap,Ao,Ar,Aj,An,Nat.reduceEqDiff,reduceCtorEq, ↓reduceIte,D7]
  have up: ∀(n':Nat) (ids':List (List Nat)) (vo':Value) (bo':Nat) (tm':T Value) (s':St) (td':List Item),n≤n'+12→skim 64 td'=Hb→Ext Any Non s0 s'→IdI s0 s' M ids' vo' bo'→ids'=idsH acc (hs.take (k+1))→(∀j,j=3∨j=12∨j=13∨j=14∨j=19∨j=20∨j=21→T.get tm' j=T.get tm j)→T.get tm' 4=some vo'→W (runF envS n' ⟨53,JW,BT,tm',td', .run, .normal,none⟩) s' Q:=by
   intro n' ids' vo' bo' tm' s' td' hn' hT' x' hI' hr' hj e4
   refine KC_.w hT' (by omega) ?_
   have ek:wrap64 ((k:Nat)+1:Int)=((k+1:Nat):Int):=by
    rw[B5 (by omega) (by omega)];simp
   simp only[QU,Ac,W_oS,W_on,Aa,W_mv,Ab,Ag,T.get_set,Ae,Ad,Ak,Al,Af,Au,reduceIte,Ai,Aq,Av,As,Ah,Ap,Ao,Ar,Aj,An,Nat.reduceEqDiff,reduceCtorEq, ↓reduceIte,A8,Bb,A5,A9,Be,Ba,Bc,A6,hj 21 (by simp),h21,ek]
   refine ih (k+1) _ ids' vo' bo' _ _ _ (by omega) (by omega) VF x' hI' hr' (by simp[T.get_set,hj,h3]) (by simp[T.get_set,e4]) (by simp[T.get_set,hj,h19]) (by simp[T.get_set,hj,h20]) (by simp[T.get_set]) fun n1 v1 b1 tm1 s1 td1 a1 a2 a3 a4 a5 a6=>K n1 v1 b1 tm1 s1 td1 (by omega) a2 a3 a4 (fun j hj'=> ?_) a6
   rw[a5 j hj',T.get_set,if_neg (by omega),hj j (by omega)]
  by_cases cq:hs[k].1∈ids
  ·unfold putI at hls
   rw[if_pos cq]at hls
   refine W.cond (v:=false) SM Qf (by simp[T.get_set];exact cq) (by omega) (fun h=>by cases h) fun _=> ?_
   exact up _ ids vo bo _ _ _ (by omega) IN_ yg hIg hls.symm (fun j hj=>by
    rw[T.get_set,if_neg (by omega),T.get_set,if_neg (by omega),T.get_set,if_neg (by omega),T.get_set,if_neg (by omega)]) (by simp[T.get_set,h4])
  ·unfold putI at hls
   rw[if_neg cq]at hls
   refine W.cond (v:=true) SM Qf (by simp[T.get_set];exact cq) (by omega) (fun _=> ?_) fun h=>by cases h
   refine WT.w Xr (by omega) ?_
   simp only[Qi,Ac,W_oS,W_on,Aa,W_mv,Ab,Ag,T.get_set,Ae,Ad,Ak,Al,Af,Au,reduceIte,Ai,Aq,Av,As,Ah,Ap,Ao,Ar,Aj,An,Nat.reduceEqDiff,reduceCtorEq, ↓reduceIte,h3,BE EA (by decide:0<16)]
   refine W.loadA Cu oig.row (by rw[Bp];exact hm) fun sh mh nh xh=> ?_
   have yh:=yg.on xh hb0 fun _ _ h=>h
   have hIh:=hIg.same mh nh
   simp only[Ac,W_oS,W_on,Aa,W_mv,Ab,Ag,T.get_set,Ae,Ad,Ak,Al,Af,Au,reduceIte,Ai,Aq,Av,As,Ah,Ap,Ao,Ar,Aj,An,Nat.reduceEqDiff,reduceCtorEq, ↓reduceIte,LN JZ_]
   refine W.mapUp (yh.bnd hb0) P9 FJ hm hIh.i16 cq hIh.om fun si ni xi oi=> ?_
   have yi:=yh.on xi hb0 fun x hx hq=>by have:=hI.nm;omega
   have moi:MkS si 16 ids.length (idCs ids) vo bo:=hIh.mo.ext xi fun x hx hq=>hI.dj (by rw[←hq];exact hx)
   have oii:AI si A (0+0) (u8l hs[k].1):=AI.ext (fun j u e=>(oig j u e).same mh nh) xi fun j hj hq=>by
    have:=hI.om.1
    have:M<A:=by omega
    omega
   try simp only[Ac,W_oS,W_on,Aa,W_mv,Ab,Ag,T.get_set,Ae,Ad,Ak,Al,Af,Au,reduceIte,Ai,Aq,Av,As,Ah,Ap,Ao,Ar,Aj,An,Nat.reduceEqDiff,reduceCtorEq, ↓reduceIte]
   refine Au_.w AF_ (by omega) ?_
   simp only[Vj,Ac,W_oS,W_on,Aa,W_mv,Ab,Ag,T.get_set,Ae,Ad,Ak,Al,Af,Au,reduceIte,Ai,Aq,Av,As,Ah,Ap,Ao,Ar,Aj,An,Nat.reduceEqDiff,reduceCtorEq, ↓reduceIte,h4,BE EA (by decide:0<16)]
   refine W.loadA Cu oii.row (by rw[Bp];exact hm) fun sj mj nj xj=> ?_
   have yj:=yi.on xj hb0 fun _ _ h=>h
   try simp only[Ac,W_oS,W_on,Aa,W_mv,Ab,Ag,T.get_set,Ae,Ad,Ak,Al,Af,Au,reduceIte,Ai,Aq,Av,As,Ah,Ap,Ao,Ar,Aj,An,Nat.reduceEqDiff,reduceCtorEq, ↓reduceIte]
   have moj:=moi.same mj nj
   refine Tl (yj.bnd hb0) moj hm hil fun sk vk bk xk hbk mk=> ?_
   have yk:=yj.on xk hb0 fun x hx hq=>by
    have h1:=hq.2.1
    have h2:=hI.no
    omega
   have hMj:M<sj.next:=by
    have:=oi.1
    omega
   have omk:Obj sk M (.map (idEs 0 (ids++[hs[k].1])) (ids++[hs[k].1]).length):=(oi.same mj nj).ext xk hI.dj
   try simp only[Ac,W_oS,W_on,Aa,W_mv,Ab,Ag,T.get_set,Ae,Ad,Ak,Al,Af,Au,reduceIte,Ai,Aq,Av,As,Ah,Ap,Ao,Ar,Aj,An,Nat.reduceEqDiff,reduceCtorEq, ↓reduceIte]
   refine up _ (ids++[hs[k].1]) vk bk _ _ _ (by omega) CL_ yk ⟨mk,omk,by have:=yj.nxt;omega,hI.nm,fun hq=>by have:=hq.2.1;omega,fun y hy=> ?_⟩ hls.symm (fun j hj=>by
    rw[T.get_set,if_neg (by omega),T.get_set,if_neg (by omega),T.get_set,if_neg (by omega),T.get_set,if_neg (by omega),T.get_set,if_neg (by omega)]) (by simp[T.get_set])
   rcases List.mem_append.1 hy with hy|hy
   ·exact hI.i16 y hy
   ·rw[List.mem_singleton.1 hy];exact hm
end
section
variable {M:Nat}{vp:Value}{ps:List PkI}{s0:St}{Q:Value×FrameMode→St→Prop}
theorem W3 (hb0:s0.lim≤s0.next)(hv:PkR s0 vp ps)(hz:Bw ps≤100000)(hpz:ps.length≤100000)(hcx:s0.cx=cxN)
  (q: ∀s1 w,Ext Any Non s0 s1→IdR s1 w (idsP ps)→Q (w, .run) s1):
  ∀(m i n:Nat) (vo:Value) (bo:Nat) (tm:T Value) (s:St) (td:List Item),i+m=ps.length→2000100*m+100≤n→skim 64 td=Gn→Ext Any Non s0 s→IdI s0 s M (idsP (ps.take i)) vo bo→
  T.get tm 3=some (.map (some M))→T.get tm 4=some vo→T.get tm 12=some vp→T.get tm 13=some (.int .i64 (ps.length:Nat))→T.get tm 14=some (.int .i64 (i:Nat))→
  W (runF envS n ⟨53,JW,BT,tm,td, .run, .normal,none⟩) s Q:=by
 intro m
 induction m with
 |zero=>
  intro i n vo bo tm s td hi hn hTd hx hI h3 h4 h12 h13 h14
  refine Sx.w hTd (by omega) ?_
  simp only[MH,Ac,W_oS,W_on,Aa,W_mv,Ab,Ag,T.get_set,Ae,Ad,Ak,Al,Af,Au,reduceIte,Ai,Aq,Av,As,Ah,Ap,Ao,Ar,Aj,An,Nat.reduceEqDiff,reduceCtorEq, ↓reduceIte,A8,Bb,A5,A9,Be,Ba,Bc,A6,h13,h14]
  refine W.cond (v:=false) T2 Ue (by simp[T.get_set];omega) (by omega) (fun h=>by cases h) fun _=> ?_
  refine WQ.w Cb_ (by omega) ?_
  simp only[QN,Ac,W_oS,W_on,Aa,W_mv,Ab,Ag,T.get_set,Ae,Ad,Ak,Al,Af,Au,reduceIte,Ai,Aq,Av,As,Ah,Ap,Ao,Ar,Aj,An,Nat.reduceEqDiff,reduceCtorEq, ↓reduceIte,h4]
  refine W.end' (rs:=[2]) (vs:=[vo]) Gu_ (.inl VB) (by omega) QP IP_ (hx.cx.trans hcx) (by simp[T.get_set]) ?_
  rw[show i=ps.length by omega,List.take_length]at hI
  exact q s vo hx (hI.mo.ids hI.i16)
 |succ m ih=>
  intro i n vo bo tm s td hi hn hTd hx hI h3 h4 h12 h13 h14
  have hil:i<ps.length:=by omega
  obtain⟨b,o,c,ev,gr,gh,g16,_,_⟩:=(hv.ext0 hx).at hil
  have hone:=gh.one
  have htl:=He hil
  have ht2:=NR (ps:=ps) (i+1)
  have hil2:=IB ps i (by omega)
  refine Sx.w hTd (by omega) ?_
  simp only[MH,Ac,W_oS,W_on,Aa,W_mv,Ab,Ag,T.get_set,Ae,Ad,Ak,Al,Af,Au,reduceIte,Ai,Aq,Av,As,Ah,Ap,Ao,Ar,Aj,An,Nat.reduceEqDiff,reduceCtorEq, ↓reduceIte,A8,Bb,A5,A9,Be,Ba,Bc,A6,h13,h14]
  refine W.cond (v:=true) T2 Ue (by simp[T.get_set];omega) (by omega) (fun _=> ?_) fun h=>by cases h
  refine FQ_.w GP_ (by omega) ?_
  simp only[OY,Ac,W_oS,W_on,Aa,W_mv,Ab,Ag,T.get_set,Ae,Ad,Ak,Al,Af,Au,reduceIte,Ai,Aq,Av,As,Ah,Ap,Ao,Ar,Aj,An,Nat.reduceEqDiff,reduceCtorEq, ↓reduceIte,h12,h14,ev,Bx BL hil]
  refine W.loadA KS gr rfl fun sa ma na xa=> ?_
  have ya:=hx.on xa hb0 fun _ _ h=>h
  try simp only[Ac,W_oS,W_on,Aa,W_mv,Ab,Ag,T.get_set,Ae,Ad,Ak,Al,Af,Au,reduceIte,Ai,Aq,Av,As,Ah,Ap,Ao,Ar,Aj,An,Nat.reduceEqDiff,reduceCtorEq, ↓reduceIte]
  refine W.alloc Uw fun sb nb xb ob=> ?_
  have yb:=ya.on xb hb0 fun _ _ h=>h
  try simp only[Ac,W_oS,W_on,Aa,W_mv,Ab,Ag,T.get_set,Ae,Ad,Ak,Al,Af,Au,reduceIte,Ai,Aq,Av,As,Ah,Ap,Ao,Ar,Aj,An,Nat.reduceEqDiff,reduceCtorEq, ↓reduceIte]
  refine W.store KS (v:= .agg (pkC ps[i]).toArray) rfl (LJ hone) (fun j hj=>(AI.owned ob) j (by simpa using hj)) fun sc nc xc oc=> ?_
  rw[Cx]at oc
  have hyn:s0.next≤sa.next:=ya.nxt
  have yc:=yb.on xc hb0 fun x hx hq=>by have:=hq.1;omega
  have hba:=ya.bnd hb0
  have xac:Ext Any (fun y=>sa.next≤y) sa sc:=(xb.weak hba (fun _ _ h=>h.elim) fun _ _ h=>h.elim).on xc hba fun y hy hq=>by have:=hq.1;omega
  have hIc:IdI s0 sc M (idsP (ps.take i)) vo bo:=(hI.same ma na).ext xac fun y hy hq=>by omega
  try simp only[Ac,W_oS,W_on,Aa,W_mv,Ab,Ag,T.get_set,Ae,Ad,Ak,Al,Af,Au,reduceIte,Ai,Aq,Av,As,Ah,Ap,Ao,Ar,Aj,An,Nat.reduceEqDiff,reduceCtorEq, ↓reduceIte]
  refine Fm_.w Ww (by omega) ?_
  simp only[R6,Ac,W_oS,W_on,Aa,W_mv,Ab,Ag,T.get_set,Ae,Ad,Ak,Al,Af,Au,reduceIte,Ai,Aq,Av,As,Ah,Ap,Ao,Ar,Aj,An,Nat.reduceEqDiff,reduceCtorEq, ↓reduceIte,BE Cr (by decide)]
  refine W.load1 Cm (oc 2 _ rfl).at' ?_
  have yd:=yc.thenRd hb0 (sa.next+(0+2))
  try simp only[Ac,W_oS,W_on,Aa,W_mv,Ab,Ag,T.get_set,Ae,Ad,Ak,Al,Af,Au,reduceIte,Ai,Aq,Av,As,Ah,Ap,Ao,Ar,Aj,An,Nat.reduceEqDiff,reduceCtorEq, ↓reduceIte]
  rw[gh.len]
  try simp only[Ac,W_oS,W_on,Aa,W_mv,Ab,Ag,T.get_set,Ae,Ad,Ak,Al,Af,Au,reduceIte,Ai,Aq,Av,As,Ah,Ap,Ao,Ar,Aj,An,Nat.reduceEqDiff,reduceCtorEq, ↓reduceIte]
  refine Kk_ (M:=M) (vh:=ps[i].v) (hs:=ps[i].hs) hb0 ((hv.at hil).choose_spec.choose_spec.choose_spec.2.2.1) g16 (idsP (ps.take i)) (by omega) ps[i].hs.length 0 _ _ vo bo _ _ _ (by omega) (by omega) Cv_ yd (hIc.same rfl rfl) rfl (by simp[T.get_set,h3]) (by simp[T.get_set,h4]) (by simp[T.get_set]) (by simp[T.get_set]) (by simp[T.get_set]) fun n1 v1 b1 tm1 s1 td1 a1 a2 a3 a4 a5 a6=> ?_
  have g3:=a5 3 (by simp)
  have g12:=a5 12 (by simp)
  have g13:=a5 13 (by simp)
  have g14:=a5 14 (by simp)
  simp[T.get_set,h3]at g3
  simp[T.get_set,h12,ev]at g12
  simp[T.get_set,h13]at g13
  simp[T.get_set,h14]at g14
  refine Cr_.w a2 (by omega) ?_
  have ei:wrap64 ((i:Nat)+1:Int)=((i+1:Nat):Int):=by
   rw[B5 (by omega) (by omega)];simp
  simp only[UK,Ac,W_oS,W_on,Aa,W_mv,Ab,Ag,T.get_set,Ae,Ad,Ak,Al,Af,Au,reduceIte,Ai,Aq,Av,As,Ah,Ap,Ao,Ar,Aj,An,Nat.reduceEqDiff,reduceCtorEq, ↓reduceIte,A8,Bb,A5,A9,Be,Ba,Bc,A6,g14,ei]
  rw[←Lg hil]at a4
  exact ih (i+1) _ v1 b1 _ _ _ (by omega) (by omega) Yw a3 a4 (by simp[T.get_set,g3]) (by simp[T.get_set,a6]) (by simp[T.get_set,g12,ev]) (by simp[T.get_set,g13]) (by simp[T.get_set])
end
theorem Yz {n:Nat}{vp:Value}{ps:List PkI}{s:St}{Q:Value→St→Prop}(hb:s.lim≤s.next)(hv:PkR s vp ps)(hz:Bw ps≤100000)(hpz:ps.length≤100000)(hn:2000100*ps.length+200≤n)
  (q: ∀s1 w,Ext Any Non s s1→IdR s1 w (idsP ps)→Q w s1):W (A2 envS (runF envS n) 53 [vp]) s Q:=by
 refine Cd_ fun tm h0=> ?_
 have hb0:(s.cxN cxN).lim≤(s.cxN cxN).next:=hb
 refine YS.w rfl (by omega) ?_
 simp only[Rj,Ac,W_oS,W_on,Aa,W_mv,Ab,Ag,T.get_set,Ae,Ad,Ak,Al,Af,Au,reduceIte,Ai,Aq,Av,As,Ah,Ap,Ao,Ar,Aj,An,Nat.reduceEqDiff,reduceCtorEq, ↓reduceIte]
 refine Wp.w Jv_ (by omega) ?_
 simp only[Vx,Ac,W_oS,W_on,Aa,W_mv,Ab,Ag,T.get_set,Ae,Ad,Ak,Al,Af,Au,reduceIte,Ai,Aq,Av,As,Ah,Ap,Ao,Ar,Aj,An,Nat.reduceEqDiff,reduceCtorEq, ↓reduceIte]
 refine W.bind (W.newO fun sa na xa oa=>W.pure ?_)
 have ea:(s.cxN cxN).next=s.next:=rfl
 rw[ea]at oa na ⊢
 try simp only[Ac,W_oS,W_on,Aa,W_mv,Ab,Ag,T.get_set,Ae,Ad,Ak,Al,Af,Au,reduceIte,Ai,Aq,Av,As,Ah,Ap,Ao,Ar,Aj,An,Nat.reduceEqDiff,reduceCtorEq, ↓reduceIte]
 have ya:=(Ext.refl (F:=Any) (G:=Non) (s.cxN cxN)).on xa hb0 fun _ _ h=>h
 refine YN.w CT_ (by omega) ?_
 simp only[Pj,Ac,W_oS,W_on,Aa,W_mv,Ab,Ag,T.get_set,Ae,Ad,Ak,Al,Af,Au,reduceIte,Ai,Aq,Av,As,Ah,Ap,Ao,Ar,Aj,An,Nat.reduceEqDiff,reduceCtorEq, ↓reduceIte]
 refine VI.w Ez_ (by omega) ?_
 simp only[Qg,Ac,W_oS,W_on,Aa,W_mv,Ab,Ag,T.get_set,Ae,Ad,Ak,Al,Af,Au,reduceIte,Ai,Aq,Av,As,Ah,Ap,Ao,Ar,Aj,An,Nat.reduceEqDiff,reduceCtorEq, ↓reduceIte,h0]
 rw[hv.len]
 try simp only[Ac,W_oS,W_on,Aa,W_mv,Ab,Ag,T.get_set,Ae,Ad,Ak,Al,Af,Au,reduceIte,Ai,Aq,Av,As,Ah,Ap,Ao,Ar,Aj,An,Nat.reduceEqDiff,reduceCtorEq, ↓reduceIte]
 exact W3 (s0:=s.cxN cxN) (M:=s.next) hb0 (hv.same rfl rfl) hz hpz rfl (fun s1 w x1 h=>q _ w x1.cx' ⟨by
  rcases h.row with h|⟨b,o,c,h0,h3⟩
  ·exact .inl h
  ·exact .inr ⟨b,o,c,h0,fun i v e=>(h3 i v e).same rfl rfl⟩,h.h16⟩) ps.length 0 _ (.slice none 0 0) s.next _ _ _ (by omega) (by omega) Zo ya ⟨.inl ⟨rfl,rfl,rfl⟩,oa,Nat.le_refl _,Nat.le_refl _,fun h=>absurd h.1 (Nat.lt_irrefl 0),fun x hx=>by cases hx⟩ (by simp[T.get_set]) (by simp[T.get_set]) (by simp[T.get_set]) (by simp[T.get_set]) (by simp[T.get_set])
section
variable {i k:Nat}{vp:Value}{ps:List PkI}{s0:St}{Q:Value×FrameMode→St→Prop}{ids:List (List Nat)}{vo:Value}{bo:Nat}
theorem Lk_ (hb0:s0.lim≤s0.next)(hv:PkR s0 vp ps)(hi:i<ps.length)(hk:k<ps[i].hs.length)(h16: ∀x∈ids,x.length=16)(hz:ids.length≤1000000):
  ∀(m j n:Nat) (g:Bool) (tm:T Value) (s:St) (td:List Item),j+m=ids.length→20*m+30≤n→skim 64 td=Fk→Ext Any Non s0 s→MkS s 16 ids.length (idCs ids) vo bo→(g=true→ps[i].hs[k].1∈ids)→(g=false→ps[i].hs[k].1∉ids.take j)→
  T.get tm 0=some vp→T.get tm 3=some vo→T.get tm 4=some (.int .i64 (i:Nat))→T.get tm 5=some (.int .i64 (k:Nat))→T.get tm 6=some (.bool g)→T.get tm 7=some (.int .i64 (j:Nat))→
  (∀(n1:Nat) (tm1:T Value) (s1:St) (td1:List Item),n≤n1+(20*m+10)→skim 64 td1=If→Ext Any Non s0 s1→MkS s1 16 ids.length (idCs ids) vo bo→(∀x,x≠6→x≠7→x<8→T.get tm1 x=T.get tm x)→T.get tm1 6=some (.bool (decide (ps[i].hs[k].1∈ids)))→W (runF envS n1 ⟨49,Gz,BM,tm1,td1, .run, .normal,none⟩) s1 Q)→
  W (runF envS n ⟨49,Gz,BM,tm,td, .run, .normal,none⟩) s Q:=by
 intro m
 induction m with
 |zero=>
  intro j n g tm s td hj hn hTd hx hm hg1 hg2 h0 h3 h4 h5 h6 h7 K
  have e1:decide (((j:Nat):Int)<((ids.length:Nat):Int))=false:=decide_eq_false (by omega)
  refine PK.w hTd (by omega) ?_
  simp only[MJ,Ac,W_oS,W_on,Aa,W_mv,Ab,Ag,T.get_set,Ae,Ad,Ak,Al,Af,Au,reduceIte,Ai,Aq,Av,As,Ah,Ap,Ao,Ar,Aj,An,Nat.reduceEqDiff,reduceCtorEq, ↓reduceIte,h3,h7]
  rw[hm.len DP]
  simp only[Ac,W_oS,W_on,Aa,W_mv,Ab,Ag,T.get_set,Ae,Ad,Ak,Al,Af,Au,reduceIte,Ai,Aq,Av,As,Ah,Ap,Ao,Ar,Aj,An,Nat.reduceEqDiff,reduceCtorEq, ↓reduceIte,A8,Bb,A5,A9,Be,Ba,Bc,A6,e1]
  refine W.cond (v:=false) Mv Lt (by simp[T.get_set]) (by omega) (fun h=>by cases h) fun _=> ?_
  refine K _ _ _ _ (by omega) OT hx hm (fun x q1 q2 q3=>by rw[T.get_set,if_neg (by omega)]) ?_
  have:g=decide (ps[i].hs[k].1∈ids):=by
   cases g with
   |true=>exact(decide_eq_true (hg1 rfl)).symm
   |false=>
    have:=hg2 rfl
    rw[show j=ids.length by omega,List.take_length]at this
    exact(decide_eq_false this).symm
  simp[T.get_set,h6,this]
 |succ m ih=>
  intro j n g tm s td hj hn hTd hx hm hg1 hg2 h0 h3 h4 h5 h6 h7 K
  have hjl:j<ids.length:=by omega
  have hb:=hx.bnd hb0
  have e1:decide (((j:Nat):Int)<((ids.length:Nat):Int))=true:=decide_eq_true (by omega)
  obtain⟨b,o,c,ev,gr,gh,g16,_,_⟩:=(hv.ext0 hx).at hi
  obtain⟨b2,o2,c2,ev2,gr2,_⟩:=gh.at g16 hk
  obtain⟨b3,o3,c3,ev3,gr3⟩:=(hm.ids h16).at hjl
  have hk16:=g16 _ (List.getElem_mem hk)
  have hj16:=h16 _ (List.getElem_mem hjl)
  refine PK.w hTd (by omega) ?_
  simp only[MJ,Ac,W_oS,W_on,Aa,W_mv,Ab,Ag,T.get_set,Ae,Ad,Ak,Al,Af,Au,reduceIte,Ai,Aq,Av,As,Ah,Ap,Ao,Ar,Aj,An,Nat.reduceEqDiff,reduceCtorEq, ↓reduceIte,h3,h7]
  rw[hm.len DP]
  simp only[Ac,W_oS,W_on,Aa,W_mv,Ab,Ag,T.get_set,Ae,Ad,Ak,Al,Af,Au,reduceIte,Ai,Aq,Av,As,Ah,Ap,Ao,Ar,Aj,An,Nat.reduceEqDiff,reduceCtorEq, ↓reduceIte,A8,Bb,A5,A9,Be,Ba,Bc,A6,e1,h6,D7]
  cases g with
  |true=>
   refine W.cond (v:=false) Mv Lt (by simp[T.get_set]) (by omega) (fun h=>by cases h) fun _=> ?_
   exact K _ _ _ _ (by omega) OT hx hm (fun x q1 q2 q3=>by rw[T.get_set,if_neg (by omega)]) (by simp[T.get_set,h6,hg1 rfl])
  |false=>
   refine W.cond (v:=true) Mv Lt (by simp[T.get_set]) (by omega) (fun _=> ?_) fun h=>by cases h
   have gid:Row s b2 (o2+k*18+0) (u8l ps[i].hs[k].1):=fun j u e=>by
    have hj:=(List.getElem?_eq_some_iff.1 e).1
    have:=gr2 j u (by
     unfold AP
     rw[List.getElem?_append_left hj]
     exact e)
    exact this
   refine HB_.w WG (by omega) ?_
   simp only[TG,T.get_set,Nat.reduceEqDiff,reduceIte,h0,h3,h4,h5,h7,ev,ev3,Dd,B8]
   rw[W_dq fun s Q=>Bx (s:=s) DP hjl Q]
   dsimp only
   refine W.dloadA Cu (fun j u e=>(gr3 j u e).same rfl rfl) (by rw[Bp];exact hj16) fun mem3 rd3 em3 hr3=> ?_
   subst em3
   simp only[B8]
   rw[W_dq fun s Q=>Bx (s:=s) BL hi Q]
   dsimp only
   rw[W_dq fun s Q=>BE (s:=s) Cr (by decide) Q]
   refine W.dload Cm ((gr 2 _ rfl).same rfl rfl) fun rd8 hr8=> ?_
   simp only[B8,ev2]
   rw[W_dq fun s Q=>Bx (s:=s) CM hk Q]
   dsimp only
   rw[W_dq fun s Q=>BE (s:=s) EA (by decide) Q]
   refine W.dloadA Cu (fun j u e=>(gid j u e).same rfl rfl) (by rw[Bp];exact hk16) fun mem12 rd12 em12 hr12=> ?_
   subst em12
   rw[W_dq fun s Q=>Ls (s:=s) FJ hj16 hk16 Q,Aa]
   refine⟨H0 (by simp) (by simp), ?_⟩
   refine W.cast (Ad_ _ _ _ _ _ _ _ _ _ _ _ _ _ _ _ _ _ _ _) ?_
   simp only[Ac,W_oS,W_on,Aa,W_mv,Ab,Ag,T.get_set,Ae,Ad,Ak,Al,Af,Au,reduceIte,Ai,Aq,Av,As,Ah,Ap,Ao,Ar,Aj,An,Nat.reduceEqDiff,reduceCtorEq, ↓reduceIte]
   generalize hs':(⟨(dSt s.mem s.next).mem,(dSt s.mem s.next).next,s.lim,_,_,s.cx⟩:St)=sb
   have xb:Ext Any Non s sb:=by
    rw[←hs']
    exact Ext.draw (F:=Any) (Nat.le_refl _) (fun _ _=>rfl) (by simp) fun _ _ _ _ _=>trivial
   refine Lf_.w HT_ (by omega) ?_
   have ek:wrap64 ((j:Nat)+1:Int)=((j+1:Nat):Int):=by
    rw[B5 (by omega) (by omega)];simp
   simp only[T5,Ac,W_oS,W_on,Aa,W_mv,Ab,Ag,T.get_set,Ae,Ad,Ak,Al,Af,Au,reduceIte,Ai,Aq,Av,As,Ah,Ap,Ao,Ar,Aj,An,Nat.reduceEqDiff,reduceCtorEq, ↓reduceIte,A8,Bb,A5,A9,Be,Ba,Bc,A6,h7,ek]
   refine ih (j+1) _ (decide (ids[j]=ps[i].hs[k].1)) _ _ _ (by omega) (by omega) YG (hx.on xb hb0 fun _ _ h=>h) (hm.ext0 xb) (fun hq=> ?_) (fun hq hq2=> ?_) (by simp[T.get_set,h0,ev]) (by simp[T.get_set,h3,ev3]) (by simp[T.get_set,h4]) (by simp[T.get_set,h5]) (by simp[T.get_set]) (by simp[T.get_set]) fun n1 tm1 s1 td1 a1 a2 a3 a4 a5 a6=>K n1 tm1 s1 td1 (by omega) a2 a3 a4 (fun x q1 q2 q3=> ?_) a6
   ·rw[←of_decide_eq_true hq]
    exact List.getElem_mem hjl
   ·rw[List.take_succ_eq_append_getElem hjl]at hq2
    rcases List.mem_append.1 hq2 with hq2|hq2
    ·exact hg2 rfl hq2
    ·have:=of_decide_eq_false hq
     exact this (List.mem_singleton.1 hq2).symm
   ·rw[a5 x q1 q2 q3,T.get_set,if_neg (by omega),T.get_set,if_neg (by omega),T.get_set,if_neg (by omega)]
end
section
variable {i:Nat}{vp:Value}{ps:List PkI}{s0:St}{Q:Value×FrameMode→St→Prop}
theorem DQ_ (hb0:s0.lim≤s0.next)(hv:PkR s0 vp ps)(hi:i<ps.length)(acc:List (List Nat))(hz:acc.length+ps[i].hs.length≤100000):
  ∀(m k n:Nat) (ids:List (List Nat)) (vo:Value) (bo:Nat) (tm:T Value) (s:St) (td:List Item),k+m=ps[i].hs.length→2000100*m+30≤n→skim 64 td=Fa→Ext Any Non s0 s→MkS s 16 ids.length (idCs ids) vo bo→s0.next≤bo→(∀x∈ids,x.length=16)→ids=idsH acc (ps[i].hs.take k)→
  T.get tm 0=some vp→T.get tm 3=some vo→T.get tm 4=some (.int .i64 (i:Nat))→T.get tm 5=some (.int .i64 (k:Nat))→
  (∀(n1:Nat) (vo':Value) (bo':Nat) (tm1:T Value) (s1:St) (td1:List Item),n≤n1+(2000100*m+10)→skim 64 td1=Kc→Ext Any Non s0 s1→MkS s1 16 (idsH acc ps[i].hs).length (idCs (idsH acc ps[i].hs)) vo' bo'→s0.next≤bo'→(∀x∈idsH acc ps[i].hs,x.length=16)→T.get tm1 0=some vp→T.get tm1 3=some vo'→T.get tm1 4=some (.int .i64 (i:Nat))→W (runF envS n1 ⟨49,Gz,BM,tm1,td1, .run, .normal,none⟩) s1 Q)→
  W (runF envS n ⟨49,Gz,BM,tm,td, .run, .normal,none⟩) s Q:=by
 intro m
 induction m with
 |zero=>
  intro k n ids vo bo tm s td hk hn hTd hx hm hbo h16 hr h0 h3 h4 h5 K
  obtain⟨b,o,c,ev,gr,gh,g16,_,_⟩:=(hv.ext0 hx).at hi
  refine Q4.w hTd (by omega) ?_
  simp only[Ll,Ac,W_oS,W_on,Aa,W_mv,Ab,Ag,T.get_set,Ae,Ad,Ak,Al,Af,Au,reduceIte,Ai,Aq,Av,As,Ah,Ap,Ao,Ar,Aj,An,Nat.reduceEqDiff,reduceCtorEq, ↓reduceIte,h0,h4,h5,ev,Bx BL hi,BE Cr (by decide)]
  refine W.load1 Cm (gr 2 _ rfl) ?_
  have y1:=hx.thenRd hb0 (b+(o+i*3+2))
  try simp only[Ac,W_oS,W_on,Aa,W_mv,Ab,Ag,T.get_set,Ae,Ad,Ak,Al,Af,Au,reduceIte,Ai,Aq,Av,As,Ah,Ap,Ao,Ar,Aj,An,Nat.reduceEqDiff,reduceCtorEq, ↓reduceIte]
  rw[gh.len]
  simp only[Ac,W_oS,W_on,Aa,W_mv,Ab,Ag,T.get_set,Ae,Ad,Ak,Al,Af,Au,reduceIte,Ai,Aq,Av,As,Ah,Ap,Ao,Ar,Aj,An,Nat.reduceEqDiff,reduceCtorEq, ↓reduceIte,A8,Bb,A5,A9,Be,Ba,Bc,A6]
  refine W.cond (v:=false) PQ QX (by simp[T.get_set];omega) (by omega) (fun h=>by cases h) fun _=> ?_
  rw[show k=ps[i].hs.length by omega,List.take_length]at hr
  subst hr
  exact K _ vo bo _ _ _ (by omega) Dc_ y1 (hm.same rfl rfl) hbo h16 (by simp[T.get_set,h0,ev]) (by simp[T.get_set,h3]) (by simp[T.get_set,h4])
 |succ m ih=>
  intro k n ids vo bo tm s td hk hn hTd hx hm hbo h16 hr h0 h3 h4 h5 K
  have hkl:k<ps[i].hs.length:=by omega
  have hls:=PI (acc:=acc) hkl
  rw[←hr]at hls
  have hil:ids.length≤100000:=by
   have:=JG (ps[i].hs.take k) acc
   rw[←hr,List.length_take]at this
   omega
  obtain⟨b,o,c,ev,gr,gh,g16,_,_⟩:=(hv.ext0 hx).at hi
  obtain⟨b2,o2,c2,ev2,gr2,_⟩:=gh.at g16 hkl
  have hk16:=g16 _ (List.getElem_mem hkl)
  refine Q4.w hTd (by omega) ?_
  simp only[Ll,Ac,W_oS,W_on,Aa,W_mv,Ab,Ag,T.get_set,Ae,Ad,Ak,Al,Af,Au,reduceIte,Ai,Aq,Av,As,Ah,Ap,Ao,Ar,Aj,An,Nat.reduceEqDiff,reduceCtorEq, ↓reduceIte,h0,h4,h5,ev,Bx BL hi,BE Cr (by decide)]
  refine W.load1 Cm (gr 2 _ rfl) ?_
  have y1:=hx.thenRd hb0 (b+(o+i*3+2))
  try simp only[Ac,W_oS,W_on,Aa,W_mv,Ab,Ag,T.get_set,Ae,Ad,Ak,Al,Af,Au,reduceIte,Ai,Aq,Av,As,Ah,Ap,Ao,Ar,Aj,An,Nat.reduceEqDiff,reduceCtorEq, ↓reduceIte]
  rw[gh.len]
  simp only[Ac,W_oS,W_on,Aa,W_mv,Ab,Ag,T.get_set,Ae,Ad,Ak,Al,Af,Au,reduceIte,Ai,Aq,Av,As,Ah,Ap,Ao,Ar,Aj,An,Nat.reduceEqDiff,reduceCtorEq, ↓reduceIte,A8,Bb,A5,A9,Be,Ba,Bc,A6]
  refine W.cond (v:=true) PQ QX (by simp[T.get_set];omega) (by omega) (fun _=> ?_) fun h=>by cases h
  refine Ew_.w KT_ (by omega) ?_
  simp only[SG,Ac,W_oS,W_on,Aa,W_mv,Ab,Ag,T.get_set,Ae,Ad,Ak,Al,Af,Au,reduceIte,Ai,Aq,Av,As,Ah,Ap,Ao,Ar,Aj,An,Nat.reduceEqDiff,reduceCtorEq, ↓reduceIte]
  refine Ii_.w Gc_ (by omega) ?_
  simp only[Rn,Ac,W_oS,W_on,Aa,W_mv,Ab,Ag,T.get_set,Ae,Ad,Ak,Al,Af,Au,reduceIte,Ai,Aq,Av,As,Ah,Ap,Ao,Ar,Aj,An,Nat.reduceEqDiff,reduceCtorEq, ↓reduceIte]
  refine Lk_ (ids:=ids) (vo:=vo) (bo:=bo) hb0 hv hi hkl h16 (by omega) ids.length 0 _ false _ _ _ (by omega) (by omega) ET_ y1 (hm.same rfl rfl) (fun h=>by cases h) (fun _ h=>by cases h) (by simp[T.get_set,h0,ev]) (by simp[T.get_set,h3]) (by simp[T.get_set,h4]) (by simp[T.get_set,h5]) (by simp[T.get_set]) (by simp[T.get_set]) fun n1 tm1 s1 td1 a1 a2 a3 a4 a5 a6=> ?_
  have g0:=a5 0 (by simp) (by simp) (by simp)
  have g3:=a5 3 (by simp) (by simp) (by simp)
  have g4:=a5 4 (by simp) (by simp) (by simp)
  have g5:=a5 5 (by simp) (by simp) (by simp)
  simp[T.get_set,h0,ev]at g0
  simp[T.get_set,h3]at g3
  simp[T.get_set,h4]at g4
  simp[T.get_set,h5]at g5
  refine Ki_.w a2 (by omega) ?_
  simp only[S1,Ac,W_oS,W_on,Aa,W_mv,Ab,Ag,T.get_set,Ae,Ad,Ak,Al,Af,Au,reduceIte,Ai,Aq,Av,As,Ah,Ap,Ao,Ar,Aj,An,Nat.reduceEqDiff,reduceCtorEq, ↓reduceIte,a6,D7]
  have up: ∀(n':Nat) (ids':List (List Nat)) (vo':Value) (bo':Nat) (tm':T Value) (s':St) (td':List Item),n≤n'+20*ids.length+30→skim 64 td'=Hn→Ext Any Non s0 s'→MkS s' 16 ids'.length (idCs ids') vo' bo'→s0.next≤bo'→(∀x∈ids',x.length=16)→ids'=idsH acc (ps[i].hs.take (k+1))→T.get tm' 0=some vp→T.get tm' 3=some vo'→T.get tm' 4=some (.int .i64 (i:Nat))→T.get tm' 5=some (.int .i64 (k:Nat))→W (runF envS n' ⟨49,Gz,BM,tm',td', .run, .normal,none⟩) s' Q:=by
   intro n' ids' vo' bo' tm' s' td' hn' hT' x' hm' hbo' h16' hr' e0 e3 e4 e5
   refine Wq.w hT' (by omega) ?_
   have ek:wrap64 ((k:Nat)+1:Int)=((k+1:Nat):Int):=by
    rw[B5 (by omega) (by omega)];simp
   simp only[Tj,Ac,W_oS,W_on,Aa,W_mv,Ab,Ag,T.get_set,Ae,Ad,Ak,Al,Af,Au,reduceIte,Ai,Aq,Av,As,Ah,Ap,Ao,Ar,Aj,An,Nat.reduceEqDiff,reduceCtorEq, ↓reduceIte,A8,Bb,A5,A9,Be,Ba,Bc,A6,e5,ek]
   exact ih (k+1) _ ids' vo' bo' _ _ _ (by omega) (by omega) DI_ x' hm' hbo' h16' hr' (by simp[T.get_set,e0]) (by simp[T.get_set,e3]) (by simp[T.get_set,e4]) (by simp[T.get_set]) fun n1 v1 b1 tm1 s1 td1 a1 a2 a3 a4 a5 a6 a7 a8 a9=>K n1 v1 b1 tm1 s1 td1 (by omega) a2 a3 a4 a5 a6 a7 a8 a9
  by_cases cq:ps[i].hs[k].1∈ids
  ·unfold putI at hls
   rw[if_pos cq]at hls
   refine W.cond (v:=false) RI QO (by simp[T.get_set];exact cq) (by omega) (fun h=>by cases h) fun _=> ?_
   exact up _ ids vo bo _ _ _ (by omega) Ky_ a3 a4 hbo h16 hls.symm (by simp[T.get_set,g0,ev]) (by simp[T.get_set,g3]) (by simp[T.get_set,g4]) (by simp[T.get_set,g5])
  ·unfold putI at hls
   rw[if_neg cq]at hls
   refine W.cond (v:=true) RI QO (by simp[T.get_set];exact cq) (by omega) (fun _=> ?_) fun h=>by cases h
   have gr':Row s1 b (o+i*3) (pkC ps[i]):=by
    obtain⟨b',o',c',ev',gr',_⟩:=(hv.ext0 a3).at hi
    have:(Value.slice (some ⟨b',o',none⟩) ps.length c')= .slice (some ⟨b,o,none⟩) ps.length c:=ev'.symm.trans ev
    cases this
    exact gr'
   have gr2':Row s1 b2 (o2+k*18) (AP ps[i].hs[k]):=by
    obtain⟨b',o',c',ev',gr',_⟩:=((hv.ext0 a3).at hi).choose_spec.choose_spec.choose_spec.2.2.1.at g16 hkl
    have:(Value.slice (some ⟨b',o',none⟩) ps[i].hs.length c')= .slice (some ⟨b2,o2,none⟩) ps[i].hs.length c2:=ev'.symm.trans ev2
    cases this
    exact gr'
   have gid:Row s1 b2 (o2+k*18+0) (u8l ps[i].hs[k].1):=fun j u e=>by
    have hj:=(List.getElem?_eq_some_iff.1 e).1
    have:=gr2' j u (by
     unfold AP
     rw[List.getElem?_append_left hj]
     exact e)
    exact this
   refine AY_.w Zc (by omega) ?_
   simp only[Oj,Ac,W_oS,W_on,Aa,W_mv,Ab,Ag,T.get_set,Ae,Ad,Ak,Al,Af,Au,reduceIte,Ai,Aq,Av,As,Ah,Ap,Ao,Ar,Aj,An,Nat.reduceEqDiff,reduceCtorEq, ↓reduceIte,g0,g3,g4,g5,ev,Bx BL hi,BE Cr (by decide)]
   refine W.load1 Cm (gr' 2 _ rfl) ?_
   have y2:=a3.thenRd hb0 (b+(o+i*3+2))
   simp only[Ac,W_oS,W_on,Aa,W_mv,Ab,Ag,T.get_set,Ae,Ad,Ak,Al,Af,Au,reduceIte,Ai,Aq,Av,As,Ah,Ap,Ao,Ar,Aj,An,Nat.reduceEqDiff,reduceCtorEq, ↓reduceIte,ev2,Bx CM hkl,BE EA (by decide:0<16)]
   refine W.loadA Cu (fun j u e=>(gid j u e).same rfl rfl) (by rw[Bp];exact hk16) fun sj mj nj xj=> ?_
   have yj:=y2.on xj hb0 fun _ _ h=>h
   have moj:MkS sj 16 ids.length (idCs ids) vo bo:=(a4.same (s':=s1.rdN (b+(o+i*3+2))) rfl rfl).same mj nj
   try simp only[Ac,W_oS,W_on,Aa,W_mv,Ab,Ag,T.get_set,Ae,Ad,Ak,Al,Af,Au,reduceIte,Ai,Aq,Av,As,Ah,Ap,Ao,Ar,Aj,An,Nat.reduceEqDiff,reduceCtorEq, ↓reduceIte]
   refine Tl (yj.bnd hb0) moj hk16 hil fun sk vk bk xk hbk mk=> ?_
   have yk:=yj.on xk hb0 fun x hx hq=>by
    have h1:=hq.2.1
    omega
   try simp only[Ac,W_oS,W_on,Aa,W_mv,Ab,Ag,T.get_set,Ae,Ad,Ak,Al,Af,Au,reduceIte,Ai,Aq,Av,As,Ah,Ap,Ao,Ar,Aj,An,Nat.reduceEqDiff,reduceCtorEq, ↓reduceIte]
   refine up _ (ids++[ps[i].hs[k].1]) vk bk _ _ _ (by omega) VG yk mk (by have:=yj.nxt;omega) (fun y hy=> ?_) hls.symm (by simp[T.get_set,g0,ev]) (by simp[T.get_set]) (by simp[T.get_set,g4]) (by simp[T.get_set,g5])
   rcases List.mem_append.1 hy with hy|hy
   ·exact h16 y hy
   ·rw[List.mem_singleton.1 hy];exact hk16
theorem HE_ (hb0:s0.lim≤s0.next)(hv:PkR s0 vp ps)(hz:Bw ps≤1000)(hpz:ps.length≤100000)(hcx:s0.cx=cxN)
  (q: ∀s1 w,Ext Any Non s0 s1→IdR s1 w (idsP ps)→Q (w, .run) s1):
  ∀(m i n:Nat) (vo:Value) (bo:Nat) (tm:T Value) (s:St) (td:List Item),i+m=ps.length→2100000000*m+100≤n→skim 64 td=Gx→Ext Any Non s0 s→MkS s 16 (idsP (ps.take i)).length (idCs (idsP (ps.take i))) vo bo→s0.next≤bo→(∀x∈idsP (ps.take i),x.length=16)→
  T.get tm 0=some vp→T.get tm 3=some vo→T.get tm 4=some (.int .i64 (i:Nat))→
  W (runF envS n ⟨49,Gz,BM,tm,td, .run, .normal,none⟩) s Q:=by
 intro m
 induction m with
 |zero=>
  intro i n vo bo tm s td hi hn hTd hx hm hbo h16 h0 h3 h4
  refine Rk.w hTd (by omega) ?_
  simp only[NX,Ac,W_oS,W_on,Aa,W_mv,Ab,Ag,T.get_set,Ae,Ad,Ak,Al,Af,Au,reduceIte,Ai,Aq,Av,As,Ah,Ap,Ao,Ar,Aj,An,Nat.reduceEqDiff,reduceCtorEq, ↓reduceIte,h0,h4]
  rw[hv.len]
  simp only[Ac,W_oS,W_on,Aa,W_mv,Ab,Ag,T.get_set,Ae,Ad,Ak,Al,Af,Au,reduceIte,Ai,Aq,Av,As,Ah,Ap,Ao,Ar,Aj,An,Nat.reduceEqDiff,reduceCtorEq, ↓reduceIte,A8,Bb,A5,A9,Be,Ba,Bc,A6]
  refine W.cond (v:=false) OU PH (by simp[T.get_set];omega) (by omega) (fun h=>by cases h) fun _=> ?_
  refine Ct_.w Xh (by omega) ?_
  simp only[Qd,Ac,W_oS,W_on,Aa,W_mv,Ab,Ag,T.get_set,Ae,Ad,Ak,Al,Af,Au,reduceIte,Ai,Aq,Av,As,Ah,Ap,Ao,Ar,Aj,An,Nat.reduceEqDiff,reduceCtorEq, ↓reduceIte,h3]
  refine W.end' (rs:=[2]) (vs:=[vo]) AO_ (.inl Gg_) (by omega) UT FZ_ (hx.cx.trans hcx) (by simp[T.get_set]) ?_
  rw[show i=ps.length by omega,List.take_length]at hm h16
  exact q s vo hx (hm.ids h16)
 |succ m ih=>
  intro i n vo bo tm s td hi hn hTd hx hm hbo h16 h0 h3 h4
  have hil:i<ps.length:=by omega
  have htl:=He hil
  have ht2:=NR (ps:=ps) (i+1)
  have hil2:=IB ps i (by omega)
  refine Rk.w hTd (by omega) ?_
  simp only[NX,Ac,W_oS,W_on,Aa,W_mv,Ab,Ag,T.get_set,Ae,Ad,Ak,Al,Af,Au,reduceIte,Ai,Aq,Av,As,Ah,Ap,Ao,Ar,Aj,An,Nat.reduceEqDiff,reduceCtorEq, ↓reduceIte,h0,h4]
  rw[hv.len]
  simp only[Ac,W_oS,W_on,Aa,W_mv,Ab,Ag,T.get_set,Ae,Ad,Ak,Al,Af,Au,reduceIte,Ai,Aq,Av,As,Ah,Ap,Ao,Ar,Aj,An,Nat.reduceEqDiff,reduceCtorEq, ↓reduceIte,A8,Bb,A5,A9,Be,Ba,Bc,A6]
  refine W.cond (v:=true) OU PH (by simp[T.get_set];omega) (by omega) (fun _=> ?_) fun h=>by cases h
  refine GE_.w KU_ (by omega) ?_
  simp only[Rm,Ac,W_oS,W_on,Aa,W_mv,Ab,Ag,T.get_set,Ae,Ad,Ak,Al,Af,Au,reduceIte,Ai,Aq,Av,As,Ah,Ap,Ao,Ar,Aj,An,Nat.reduceEqDiff,reduceCtorEq, ↓reduceIte]
  refine DQ_ hb0 hv hil (idsP (ps.take i)) (by omega) ps[i].hs.length 0 _ _ vo bo _ _ _ (by omega) (by omega) Eu_ hx hm hbo h16 rfl (by simp[T.get_set,h0]) (by simp[T.get_set,h3]) (by simp[T.get_set,h4]) (by simp[T.get_set]) fun n1 v1 b1 tm1 s1 td1 a1 a2 a3 a4 a5 a6 a7 a8 a9=> ?_
  refine HW_.w a2 (by omega) ?_
  have ei:wrap64 ((i:Nat)+1:Int)=((i+1:Nat):Int):=by
   rw[B5 (by omega) (by omega)];simp
  simp only[Sr,Ac,W_oS,W_on,Aa,W_mv,Ab,Ag,T.get_set,Ae,Ad,Ak,Al,Af,Au,reduceIte,Ai,Aq,Av,As,Ah,Ap,Ao,Ar,Aj,An,Nat.reduceEqDiff,reduceCtorEq, ↓reduceIte,A8,Bb,A5,A9,Be,Ba,Bc,A6,a9,ei]
  rw[←Lg hil]at a4 a6
  exact ih (i+1) _ v1 b1 _ _ _ (by omega) (by omega) BS_ a3 a4 a5 a6 (by simp[T.get_set,a7]) (by simp[T.get_set,a8]) (by simp[T.get_set])
end
theorem IdR.cx {s:St}{w:Value}{ids:List (List Nat)}{c:Ctx}(h:IdR s w ids):IdR (s.cxN c) w ids:=h.same rfl rfl
theorem XA {n:Nat}{vp:Value}{ps:List PkI}{s:St}{Q:Value→St→Prop}(hb:s.lim≤s.next)(hv:PkR s vp ps)(hz:Bw ps≤1000)(hpz:ps.length≤100000)(hn:2100000000*ps.length+200≤n)
  (q: ∀s1 w,Ext Any Non s s1→IdR s1 w (idsP ps)→Q w s1):W (A2 envS (runF envS n) 49 [vp]) s Q:=by
 refine AZ_ fun tm h0=> ?_
 have hb0:(s.cxN cxN).lim≤(s.cxN cxN).next:=hb
 refine Cg_.w rfl (by omega) ?_
 simp only[Sk,Ac,W_oS,W_on,Aa,W_mv,Ab,Ag,T.get_set,Ae,Ad,Ak,Al,Af,Au,reduceIte,Ai,Aq,Av,As,Ah,Ap,Ao,Ar,Aj,An,Nat.reduceEqDiff,reduceCtorEq, ↓reduceIte]
 refine CW_.w VL (by omega) ?_
 simp only[TY,Ac,W_oS,W_on,Aa,W_mv,Ab,Ag,T.get_set,Ae,Ad,Ak,Al,Af,Au,reduceIte,Ai,Aq,Av,As,Ah,Ap,Ao,Ar,Aj,An,Nat.reduceEqDiff,reduceCtorEq, ↓reduceIte]
 refine AB_.w Hp_ (by omega) ?_
 simp only[Ru,Ac,W_oS,W_on,Aa,W_mv,Ab,Ag,T.get_set,Ae,Ad,Ak,Al,Af,Au,reduceIte,Ai,Aq,Av,As,Ah,Ap,Ao,Ar,Aj,An,Nat.reduceEqDiff,reduceCtorEq, ↓reduceIte]
 exact HE_ (s0:=s.cxN cxN) hb0 (hv.same rfl rfl) hz hpz rfl (fun s1 w x1 h=>q _ w x1.cx' h.cx) ps.length 0 _ (.slice none 0 0) s.next _ _ _ (by omega) (by omega) LO_ (Ext.refl _) (.inl ⟨rfl,rfl,rfl⟩) (Nat.le_refl _) (fun x hx=>by cases hx) (by simp[T.get_set,h0]) (by simp[T.get_set]) (by simp[T.get_set])
theorem HiR.src {s:St}{v:Value}{hs:List HdI}(h:HiR s v hs)(h16: ∀h∈hs,h.1.length=16): ∃F,Src s 18 v hs.length (BN hs) F:=by
 rcases h with⟨rfl,rfl⟩|⟨b,o,c,rfl,hv⟩
 ·exact⟨_,IW⟩
 ·exact⟨_,Fo hv (Gp h16)⟩
theorem PkR.src {s:St}{v:Value}{ps:List PkI}(h:PkR s v ps): ∃F,Src s 3 v ps.length (pkCs ps) F:=by
 rcases h.row with⟨rfl,rfl⟩|⟨b,o,c,rfl,hv⟩
 ·exact⟨_,IW⟩
 ·exact⟨_,Fo hv (EU ps)⟩
theorem PkR.lt {s:St}{v:Value}{ps:List PkI}(h:PkR s v ps): ∀x,PkF v ps x→x<s.next:=by
 intro x hx
 rcases hx with hx|⟨p,hp,hx⟩
 ·rcases h.row with⟨rfl,_⟩|⟨b,o,c,rfl,h3⟩
  ·exact hx.elim
  ·have h1:b+o≤x:=hx.1
   have h2:x<b+o+ps.length*3:=hx.2
   have hl:x-(b+o)<(pkCs ps).length:=by rw[EU];omega
   have:=(h3 (x-(b+o)) _ (List.getElem?_eq_getElem hl)).1
   omega
 ·exact(h.hs p hp).lt (h.h16 p hp) x hx
theorem XF {ps:List PkI}(h: ∀p∈ps,oneCell p.v=true):(pkCs ps).all oneCell=true:=by
 induction ps with
 |nil=>rfl
 |cons p l ih=>
  show(pkC p++pkCs l).all oneCell=true
  rw[List.all_append,LJ (h p (by simp)),ih fun x hx=>h x (by simp[hx])]
  rfl
theorem AD_ {F G:Nat→Prop}{s s1:St}{b i:Nat}{os:List PkI}{p:PkI}(hi:i<os.length)(hr:AI s b 0 (pkCs os))(x:Ext F G s s1)(hG: ∀y,G y→y=b+(i*3+2))(hn:p.num=os[i].num)(hs:p.size=os[i].size)(ho:Own s1 b (i*3+2) p.v):AI s1 b 0 (pkCs (os.set i p)):=by
 intro q u e
 have hq:=(List.getElem?_eq_some_iff.1 e).1
 rw[EU,List.length_set]at hq
 have hj:q/3<os.length:=by omega
 have hr3:q%3<3:=Nat.mod_lt _ (by decide)
 have eq:q=q/3*3+q%3:=by omega
 rw[eq]at e ⊢
 rw[F3 (by rw[List.length_set];exact hj) hr3]at e
 generalize q/3=j at *
 generalize q%3=r at *
 rw[Nat.zero_add]
 by_cases c:j=i
 ·subst c
  rw[List.getElem_set_self]at e
  match r,hr3,e with
  |0,_,e=>
   have:(pkCs os)[j*3+0]?=some u:=by
    rw[F3 hi (by decide),←e]
    show some _=some _
    rw[hn]
   have:=hr _ _ this
   rw[Nat.zero_add]at this
   exact this.ext x fun h=>by have:=hG _ h;omega
  |1,_,e=>
   have:(pkCs os)[j*3+1]?=some u:=by
    rw[F3 hi (by decide),←e]
    show some _=some _
    rw[hs]
   have:=hr _ _ this
   rw[Nat.zero_add]at this
   exact this.ext x fun h=>by have:=hG _ h;omega
  |2,_,e=>
   cases e
   exact ho
 ·rw[List.getElem_set_ne (by omega)]at e
  have:(pkCs os)[j*3+r]?=some u:=by rw[F3 hj hr3];exact e
  have:=hr _ _ this
  rw[Nat.zero_add]at this
  exact this.ext x fun h=>by have:=hG _ h;omega
theorem Yi {os:List PkI}{i:Nat}{p:PkI}(hi:i<os.length)(h:p.key=os[i].key):(os.set i p).map PkI.key=os.map PkI.key:=by
 rw[List.map_set,h]
 apply List.ext_getElem
 ·simp
 ·intro j h1 h2
  rw[List.getElem_set]
  by_cases c:i=j
  ·subst c;simp
  ·simp[c]
section
variable {b:Nat}{vo:Value}{ps:List PkI}{s0:St}{Q:Value×FrameMode→St→Prop}
structure CpI (s0 s:St)(b:Nat)(os:List PkI):Prop where
 row:AI s b 0 (pkCs os)
 hs: ∀p∈os,HiR s p.v p.hs∧(∀h∈p.hs,h.1.length=16)∧ ∀x,HiF p.v x→x<b∨b+os.length*3≤x
theorem Es_ (hb0:s0.lim≤s0.next)(hz: ∀p∈ps,p.hs.length≤400000)(hpz:ps.length≤1000000)(hcx:s0.cx=cxN){c:Nat}(hvo:vo= .slice (some ⟨b,0,none⟩) ps.length c)(hbn:s0.next≤b)
  (q: ∀s1 os,Ext Any Non s0 s1→PkR s1 vo os→os.map PkI.key=ps.map PkI.key→Q (vo, .run) s1):
  ∀(m i n:Nat) (os:List PkI) (tm:T Value) (s:St) (td:List Item),i+m=ps.length→20*m+30≤n→skim 64 td=FF→Ext Any Non s0 s→CpI s0 s b os→os.map PkI.key=ps.map PkI.key→(0<ps.length→b+ps.length*3≤s.next)→
  T.get tm 3=some vo→T.get tm 4=some (.int .i64 (i:Nat))→
  W (runF envS n ⟨36,EV_,DN,tm,td, .run, .normal,none⟩) s Q:=by
 subst hvo
 intro m
 induction m with
 |zero=>
  intro i n os tm s td hi hn hTd hx hI hk hbs h3 h4
  have hlen:os.length=ps.length:=by
   have:=congrArg List.length hk
   simpa using this
  refine SY.w hTd (by omega) ?_
  simp only[Mb,Ac,W_oS,W_on,Aa,W_mv,Ab,Ag,T.get_set,Ae,Ad,Ak,Al,Af,Au,reduceIte,Ai,Aq,Av,As,Ah,Ap,Ao,Ar,Aj,An,Nat.reduceEqDiff,reduceCtorEq, ↓reduceIte,A8,Bb,A5,A9,Be,Ba,Bc,A6,h3,h4,Ck BL]
  refine W.cond (v:=false) SI RC (by simp[T.get_set];omega) (by omega) (fun h=>by cases h) fun _=> ?_
  refine Bx_.w Le_ (by omega) ?_
  simp only[RX,Ac,W_oS,W_on,Aa,W_mv,Ab,Ag,T.get_set,Ae,Ad,Ak,Al,Af,Au,reduceIte,Ai,Aq,Av,As,Ah,Ap,Ao,Ar,Aj,An,Nat.reduceEqDiff,reduceCtorEq, ↓reduceIte,h3]
  refine W.end' (rs:=[2]) (vs:=[.slice (some ⟨b,0,none⟩) ps.length c]) Fk_ (.inl HI_) (by omega) PJ GT_ (hx.cx.trans hcx) (by simp[T.get_set]) ?_
  exact q s os hx ⟨.inr ⟨b,0,c,by rw[hlen],hI.row.row⟩,fun p hp=>(hI.hs p hp).1,fun p hp=>(hI.hs p hp).2.1⟩ hk
 |succ m ih=>
  intro i n os tm s td hi hn hTd hx hI hk hbs h3 h4
  have hlen:os.length=ps.length:=by
   have:=congrArg List.length hk
   simpa using this
  have hil:i<ps.length:=by omega
  have hbs:=hbs (by omega)
  have hio:i<os.length:=by omega
  have hm:=List.getElem_mem hio
  obtain⟨gh,g16,gl⟩:=hI.hs _ hm
  have hzi:os[i].hs.length≤400000:=by
   have e:os[i].key=ps[i].key:=by
    have:=List.getElem_of_eq hk (i:=i) (by simpa using hio)
    simpa using this
   have e2:os[i].hs=ps[i].hs:=congrArg (fun k=>k.2.2) e
   rw[e2]
   exact hz _ (List.getElem_mem hil)
  have g2:Own s b (0+i*3+2) os[i].v:=by
   have:=hI.row (i*3+2) os[i].v (by rw[F3 hio (by decide)];rfl)
   rwa [show 0+i*3+2=0+(i*3+2) by omega]
  refine SY.w hTd (by omega) ?_
  simp only[Mb,Ac,W_oS,W_on,Aa,W_mv,Ab,Ag,T.get_set,Ae,Ad,Ak,Al,Af,Au,reduceIte,Ai,Aq,Av,As,Ah,Ap,Ao,Ar,Aj,An,Nat.reduceEqDiff,reduceCtorEq, ↓reduceIte,A8,Bb,A5,A9,Be,Ba,Bc,A6,h3,h4,Ck BL]
  refine W.cond (v:=true) SI RC (by simp[T.get_set];omega) (by omega) (fun _=> ?_) fun h=>by cases h
  refine EW_.w AJ_ (by omega) ?_
  simp only[UN,Ac,W_oS,W_on,Aa,W_mv,Ab,Ag,T.get_set,Ae,Ad,Ak,Al,Af,Au,reduceIte,Ai,Aq,Av,As,Ah,Ap,Ao,Ar,Aj,An,Nat.reduceEqDiff,reduceCtorEq, ↓reduceIte,h3,h4]
  refine W.buildS (hx.bnd hb0) (r:=[]) AV_ (by decide) rfl (H8 (by decide)) fun sa na xa ra=> ?_
  have na':sa.next=s.next+1:=na
  have ya:=hx.on xa hb0 fun _ _ h=>h
  simp only[Ac,W_oS,W_on,Aa,W_mv,Ab,Ag,T.get_set,Ae,Ad,Ak,Al,Af,Au,reduceIte,Ai,Aq,Av,As,Ah,Ap,Ao,Ar,Aj,An,Nat.reduceEqDiff,reduceCtorEq, ↓reduceIte,Bx BL hil,BE Cr (by decide)]
  refine W.load1 Cm (g2.ext0 xa).at' ?_
  have yb:=ya.thenRd hb0 (b+(0+i*3+2))
  have xab:Ext Any Non s (sa.rdN (b+(0+i*3+2))):=(xa.any (hx.bnd hb0)).thenRd (hx.bnd hb0) _
  have nab:(sa.rdN (b+(0+i*3+2))).next=s.next+1:=na'
  generalize sa.rdN (b+(0+i*3+2))=sb at *
  obtain⟨F,hsrc⟩:=(gh.ext0 xab).src g16
  try simp only[Ac,W_oS,W_on,Aa,W_mv,Ab,Ag,T.get_set,Ae,Ad,Ak,Al,Af,Au,reduceIte,Ai,Aq,Av,As,Ah,Ap,Ao,Ar,Aj,An,Nat.reduceEqDiff,reduceCtorEq, ↓reduceIte]
  rw[Hr]
  refine W.appE (s:=sb) (yb.bnd hb0) YK (len:=0) (old:=[]) (b:=s.next) (.inl ⟨rfl,rfl,rfl⟩) hsrc.g (by decide) (by decide) (by omega) (Gp g16) (Tb _) fun sc vc bc hbc ec xc=> ?_
  have xc':Ext Any Non sb sc:=xc.weak (yb.bnd hb0) (fun _ _ _=>trivial) fun y _ h=>absurd h.1 (by omega)
  have yc:=yb.on xc' hb0 fun _ _ h=>h
  have hbc':s.next≤bc:=by omega
  rw[List.nil_append,Nat.zero_add]at ec
  have hc:=EmS.hi ec rfl
  obtain⟨c2,evc,rvc⟩:=ec.row
  have xsc:=xab.on xc' (hx.bnd hb0) fun _ _ h=>h
  try simp only[Ac,W_oS,W_on,Aa,W_mv,Ab,Ag,T.get_set,Ae,Ad,Ak,Al,Af,Au,reduceIte,Ai,Aq,Av,As,Ah,Ap,Ao,Ar,Aj,An,Nat.reduceEqDiff,reduceCtorEq, ↓reduceIte,Bx BL hil,BE Cr (by decide)]
  refine W.store1 Cm hc.one ((g2.ext0 xsc)) fun sd nd xd od=> ?_
  have yd:=yc.on xd hb0 fun x hx hq=>by have:=hq.1;omega
  try simp only[Ac,W_oS,W_on,Aa,W_mv,Ab,Ag,T.get_set,Ae,Ad,Ak,Al,Af,Au,reduceIte,Ai,Aq,Av,As,Ah,Ap,Ao,Ar,Aj,An,Nat.reduceEqDiff,reduceCtorEq, ↓reduceIte]
  refine Av_.w Xb (by omega) ?_
  have ei:wrap64 ((i:Nat)+1:Int)=((i+1:Nat):Int):=by
   rw[B5 (by omega) (by omega)];simp
  simp only[U0,Ac,W_oS,W_on,Aa,W_mv,Ab,Ag,T.get_set,Ae,Ad,Ak,Al,Af,Au,reduceIte,Ai,Aq,Av,As,Ah,Ap,Ao,Ar,Aj,An,Nat.reduceEqDiff,reduceCtorEq, ↓reduceIte,A8,Bb,A5,A9,Be,Ba,Bc,A6,h4,ei]
  have hkey:(⟨os[i].num,os[i].size,vc,os[i].hs⟩:PkI).key=os[i].key:=rfl
  have hvc: ∀x,HiF vc x→s.next≤x:=fun x hx=>by
   rw[evc]at hx
   have h1:bc+0≤x:=hx.1
   omega
  have hone: ∀y,In b (0+i*3+2) 1 y→y=b+(i*3+2):=fun y hy=>by have h1:=hy.1;have h2:=hy.2;omega
  refine ih (i+1) _ (os.set i ⟨os[i].num,os[i].size,vc,os[i].hs⟩) _ _ _ (by omega) (by omega) WR yd ⟨?_,fun p hp=> ?_⟩ (by rw[Yi hio hkey];exact hk) (fun _=>by have:=xsc.nxt;omega) (by simp[T.get_set,h3]) (by simp[T.get_set])
  ·refine AD_ hio (AI.ext0 hI.row xsc) xd hone rfl rfl ?_
   rwa [show 0+i*3+2=i*3+2 by omega]at od
  ·rw[List.length_set]
   rcases List.mem_or_eq_of_mem_set hp with hp|rfl
   ·obtain⟨k1,k2,k3⟩:=hI.hs p hp
    refine⟨(k1.ext0 xsc).ext k2 xd fun x hx hq=> ?_,k2,k3⟩
    have h1:=k3 x hx
    have h2:=hone x hq
    omega
   ·refine⟨(hc.same rfl rfl).ext g16 xd fun x hx hq=> ?_,g16,fun x hx=> .inr ?_⟩
    ·have h1:=hvc x hx
     have h2:=hone x hq
     omega
    ·have:=hvc x hx
     omega
end
theorem HO_ {n:Nat}{vp:Value}{ps:List PkI}{s:St}{Q:Value→St→Prop}(hb:s.lim≤s.next)(hv:PkR s vp ps)(hz: ∀p∈ps,p.hs.length≤400000)(hpz:ps.length≤100000)(hn:20*ps.length+100≤n)
  (q: ∀s1 w os,Ext Any Non s s1→PkR s1 w os→os.map PkI.key=ps.map PkI.key→Q w s1):W (A2 envS (runF envS n) 36 [vp]) s Q:=by
 refine Jr_ fun tm h0=> ?_
 have hb0:(s.cxN cxN).lim≤(s.cxN cxN).next:=hb
 refine FU_.w rfl (by omega) ?_
 simp only[Tu,Ac,W_oS,W_on,Aa,W_mv,Ab,Ag,T.get_set,Ae,Ad,Ak,Al,Af,Au,reduceIte,Ai,Aq,Av,As,Ah,Ap,Ao,Ar,Aj,An,Nat.reduceEqDiff,reduceCtorEq, ↓reduceIte]
 refine YP.w HD_ (by omega) ?_
 simp only[Va,Ac,W_oS,W_on,Aa,W_mv,Ab,Ag,T.get_set,Ae,Ad,Ak,Al,Af,Au,reduceIte,Ai,Aq,Av,As,Ah,Ap,Ao,Ar,Aj,An,Nat.reduceEqDiff,reduceCtorEq, ↓reduceIte,h0]
 refine W.buildS hb0 (r:=[]) Go_ (by decide) rfl (H8 (by decide)) fun sa na xa ra=> ?_
 have na':sa.next=s.next+1:=na
 have xa':=xa.any hb0
 obtain⟨F,hsrc⟩:=((hv.same (s':=s.cxN cxN) rfl rfl).ext0 xa).src
 try simp only[Ac,W_oS,W_on,Aa,W_mv,Ab,Ag,T.get_set,Ae,Ad,Ak,Al,Af,Au,reduceIte,Ai,Aq,Av,As,Ah,Ap,Ao,Ar,Aj,An,Nat.reduceEqDiff,reduceCtorEq, ↓reduceIte]
 rw[Hr]
 refine W.appE (s:=sa) (xa.bnd hb0) Zt (len:=0) (old:=[]) (b:=s.next) (.inl ⟨rfl,rfl,rfl⟩) hsrc.g (by decide) (by decide) (by omega) (EU ps) (XF fun p hp=>(hv.hs p hp).one) fun sc vc bc hbc ec xc=> ?_
 have xc':Ext Any Non sa sc:=xc.weak (xa.bnd hb0) (fun _ _ _=>trivial) fun y _ h=>absurd h.1 (by omega)
 have yc:=xa'.on xc' hb0 fun _ _ h=>h
 rw[List.nil_append,Nat.zero_add]at ec
 obtain⟨c2,evc,rvc⟩:=ec.row
 have own:AI sc bc 0 (pkCs ps):=by
  rcases ec with⟨_,h0,h1⟩|⟨h,_⟩
  ·rw[h1];exact fun i u e=>by simp at e
  ·exact h.own
 have hbc':s.next≤bc:=by rcases hbc with h|h<;>omega
 have hlc:0<ps.length→bc+ps.length*3≤sc.next:=fun h0=>by
  rcases ec with⟨_,h1,_⟩|⟨h,_⟩
  ·omega
  ·have:=h.lt
   omega
 try simp only[Ac,W_oS,W_on,Aa,W_mv,Ab,Ag,T.get_set,Ae,Ad,Ak,Al,Af,Au,reduceIte,Ai,Aq,Av,As,Ah,Ap,Ao,Ar,Aj,An,Nat.reduceEqDiff,reduceCtorEq, ↓reduceIte]
 refine YJ.w Lc_ (by omega) ?_
 simp only[O8,Ac,W_oS,W_on,Aa,W_mv,Ab,Ag,T.get_set,Ae,Ad,Ak,Al,Af,Au,reduceIte,Ai,Aq,Av,As,Ah,Ap,Ao,Ar,Aj,An,Nat.reduceEqDiff,reduceCtorEq, ↓reduceIte]
 refine Es_ (s0:=s.cxN cxN) (b:=bc) (ps:=ps) hb0 hz (by omega) rfl evc hbc' (fun s1 os x1 h1 h2=>q _ vc os x1.cx' (h1.same rfl rfl) h2) ps.length 0 _ ps _ _ _ (by omega) (by omega) LN_ yc ⟨own,fun p hp=>⟨((hv.hs p hp).same (s':=s.cxN cxN) rfl rfl).ext0 yc,hv.h16 p hp,fun x hx=> .inl ?_⟩⟩ rfl hlc (by simp[T.get_set]) (by simp[T.get_set])
 have:=(hv.hs p hp).lt (hv.h16 p hp) x hx
 omega
end Go.Proofs.Ytofanlcjeohcjaa.Am
