import Derived.Test.YtofanlcjeohcjaaIFn24
import Derived.Test.YtofanlcjeohcjaaIFn22
import Derived.Test.YtofanlcjeohcjaaIFn19
import Derived.Test.YtofanlcjeohcjaaIFn23
import Derived.Test.YtofanlcjeohcjaaIFn08
import Derived.Test.YtofanlcjeohcjaaRows
namespace Go.Proofs.Ytofanlcjeohcjaa.Am
open Go.RowKit
section
variable {E:Env}{s:St}{t:Nat}
theorem ZU {a b:Bool}{xo yo:Operand}(h:E.P.underlying t=some .bool):Cl.get (aBin E .neq t xo yo) (.bool a) (.bool b) s= .some (.bool (!(a==b))) s:=by
 show Bm E .neq t xo yo (.bool a) (.bool b) s=_
 unfold Bm
 show M.on (semP E.P (do pure (.bool (!(←Op.equalIn (9999+1) t (.bool a) (.bool b)))))) pV s=_
 have e:semP E.P (Op.equalIn (9999+1) t (.bool a) (.bool b))=some (a==b):=by
  unfold Op.equalIn
  rw[By,Dr h]
  rfl
 rw[By,e]
 rfl
theorem HL_ {a b:Bool}{xo yo:Operand}(h:E.P.underlying t=some .bool)(Q:Value→St→Prop):W (Cl.get (aBin E .neq t xo yo) (.bool a) (.bool b)) s Q=Q (.bool (!(a==b))) s:=BK (ZU h)
end
theorem GW_:envS.P.underlying 4=some .bool:=by kernel_rfl
theorem IdR.src {s:St}{v:Value}{ids:List (List Nat)}(h:IdR s v ids): ∃F,Src s 16 v ids.length (idCs ids) F:=by
 rcases h.row with⟨rfl,rfl⟩|⟨b,o,c,rfl,hv⟩
 ·exact⟨_,IW⟩
 ·exact⟨_,Fo hv (LB h.h16)⟩
theorem IdR.one {s:St}{v:Value}{ids:List (List Nat)}(h:IdR s v ids):oneCell v=true:=by
 rcases h.row with⟨rfl,rfl⟩|⟨b,o,c,rfl,hv⟩<;>rfl
theorem La {l:List Nat}(h: ∀x∈l,False):l=[]:=by
 cases l with
 |nil=>rfl
 |cons y _=>exact(h y (by simp)).elim
theorem Ax_ {C n:Nat}{w:Value}{ids:List (List Nat)}{id:List Nat}{tm:T Value}{s:St}{td:List Item}{Q:Value×FrameMode→St→Prop}(hb:s.lim≤s.next)(hid:id.length=16)(hC:AI s C 0 (u8l id))(hw:IdR s w ids)(hle:ids.length≤10000)(h3:T.get tm 3=some (.pointer (some ⟨C,0,none⟩)))(h6:T.get tm 6=some w)(hT:skim 64 td=F5)(hn:20≤n)
  (q: ∀(va:Value) (s1:St) (tm1:T Value) (td1:List Item),skim 64 td1=H9→Ext Any Non s s1→IdR s1 va (ids++[id])→(∀j,j≠7→T.get tm1 j=T.get tm j)→T.get tm1 7=some va→W (runF envS (n-1) ⟨11,Iy,B6,tm1,td1, .run, .normal,none⟩) s1 Q):
  W (runF envS n ⟨11,Iy,B6,tm,td, .run, .normal,none⟩) s Q:=by
 have hIl:(u8l id).length=16:=by rw[Bp];exact hid
 refine Zf.w hT (by omega) ?_
 simp only[QY,h3,h6,Dd,Mc,Ae,Ad,Ak,Al,Af,B8]
 refine W.dop (W.buildS (s:=oSt s.mem s.next) (Nat.le_refl _) (r:=[]) Mq (by decide) rfl (H8 (by decide)) fun s0 n0 x0 o0=>⟨Non,x0,fun rd0 hr0=> ?_⟩)
 obtain rfl:=La (fun x hx=>(hr0 x hx).2)
 have n0':s0.next=s.next+1:=n0
 simp only[B8]
 have hw0:IdR (oSt s0.mem s0.next) w ids:=((hw.same (s':=oSt s.mem s.next) rfl rfl).ext0 x0).same rfl rfl
 obtain⟨F,hsrc⟩:=hw0.src
 refine W.dopG ?_
 rw[Hr]
 refine W.appE (s:=oSt s0.mem s0.next) (Nat.le_refl _) Oc (len:=0) (old:=[]) (b:=s.next) (.inl ⟨rfl,rfl,rfl⟩) hsrc.g (by decide) (by decide) (by omega) (LB hw.h16) (QH _) fun s2 v2 b2 hb2 e2 x2=>⟨_,_,x2,fun rd2 wr2 hr2 hw2=> ?_⟩
 obtain rfl:=La (fun x hx=>absurd (hw2 x hx).2.1 (by omega))
 rw[List.nil_append,Nat.zero_add]at e2
 have n2':s0.next≤s2.next:=x2.nxt
 have hC2:AI (dSt s2.mem s2.next) C 0 (u8l id):=fun j u e=>((((hC j u e).same (s':=oSt s.mem s.next) rfl rfl).ext0 x0).same (s':=oSt s0.mem s0.next) rfl rfl |>.ext x2 fun h=>absurd h.1 (by omega)).same rfl rfl
 have hCn:C+16≤s.next:=by
  have:=(hC 15 _ (List.getElem?_eq_getElem (show 15<(u8l id).length by omega))).1
  omega
 refine W.dloadA Cu hC2.row hIl fun mem3 rd3 em3 hr3=> ?_
 subst em3
 refine W.dop (W.buildS (s:=oSt s2.mem s2.next) (Nat.le_refl _) (r:=u8l id) Mq (by decide) (Oy hid) (H8 (by decide)) fun s4 n4 x4 o4=>⟨Non,x4,fun rd4 hr4=> ?_⟩)
 obtain rfl:=La (fun x hx=>(hr4 x hx).2)
 have n4':s4.next=s2.next+17:=by rw[n4,hIl];rfl
 have e4:EmS (oSt s4.mem s4.next) 16 ids.length (idCs ids) v2 b2:=by
  rcases e2 with h|⟨h,h0⟩
  ·exact .inl h
  ·exact .inr ⟨((h.same (s':=oSt s2.mem s2.next) rfl rfl).ext x4 fun _ _ h=>h).same rfl rfl,h0⟩
 have o4':AI (oSt s4.mem s4.next) s2.next 0 (u8l id):=fun j u e=>(o4 j u e).same rfl rfl
 dsimp only
 refine W.dopG ?_
 rw[Hr]
 refine W.appE (s:=oSt s4.mem s4.next) (Nat.le_refl _) Oc e4 (Fo (n:=1) (c:=1) o4'.row (by rw[hIl])).g (by decide) (by decide) (by omega) (by rw[hIl]) (I7 _) fun s5 v5 b5 hb5 e5 x5=>⟨_,_,x5,fun rd5 wr5 hr5 hw5=> ?_⟩
 rw[Aa]
 have n5':s4.next≤s5.next:=x5.nxt
 have hb2':s.next≤b2:=by
  rcases hb2 with h|h
  ·omega
  ·have h':s0.next≤b2:=h
   omega
 refine⟨Lw ?_, ?_⟩
 ·simp only[List.reverse_cons,List.reverse_nil,List.nil_append,List.cons_append,allP,EI,List.take,Kv]
  have e1: ∀x,x∈rd3→x<s.next:=fun x h=>by have:=(hr3 x h).2;omega
  have lts: ∀x,s.next≤x→ ¬x<s.next:=fun x h=>by omega
  have g3: ∀x,x∈rd3→s.next≤x→False:=fun x h1 h2=>by have:=e1 x h1;omega
  simp+contextual [lts]
  exact⟨⟨fun x h1 h2=>(g3 x h1 h2).elim,fun x h1 h2=>(g3 x h1 h2).elim⟩, .inl rfl, .inl rfl, .inl rfl⟩
 ·refine W.cast (W4 _ _ _ _ _ _ _ _ _ _ _) ?_
  simp only[Ac,W_oS,W_on,Aa,W_mv,Ab,Ag,T.get_set,Ae,Ad,Ak,Al,Af,Au,reduceIte,Ai,Aq,Av,As,Ah,Ap,Ao,Ar,Aj,An,Nat.reduceEqDiff,reduceCtorEq, ↓reduceIte]
  generalize hs':(⟨(dSt s5.mem s5.next).mem,(dSt s5.mem s5.next).next,s.lim,_,_,s.cx⟩:St)=s7
  have x7:Ext Any Non s s7:=by
   rw[←hs']
   refine Ext.drawG (by show s.next≤s5.next;omega) (fun x hx hg=> ?_) ?_ fun _ _ _ _ _=>trivial
   ·exact(x5.mem x (by show x<s4.next;omega) fun h=>by have:=h.2.1;omega).trans ((x4.mem x (by show x<s2.next;omega) fun h=>h).trans ((x2.mem x (by show x<s0.next;omega) fun h=>absurd h.1 (by omega)).trans (x0.mem x hx fun h=>h)))
   ·simp only[List.mem_cons,List.not_mem_nil,or_false]
    rintro m (rfl|rfl|rfl|rfl|rfl|rfl|rfl) x hx hxl<;>first|(cases hx;done)|(have h1:=(hw5 x hx).2.2.1;omega)
  have m7:s7.mem=s5.mem:=by rw[←hs'];rfl
  have n7:s7.next=s5.next:=by rw[←hs'];rfl
  obtain⟨c5,ev5,r5⟩:=e5.row
  refine q v5 s7 _ _ EX_ x7 ⟨.inr ⟨b5,0,c5, ?_, ?_⟩,fun x hx=> ?_⟩ (fun j hj=>by rw[T.get_set,if_neg hj]) (by rw[T.get_set,if_pos rfl])
  ·rw[ev5,List.length_append];rfl
  ·rw[←Pw]
   exact fun i u e=>(r5 i u e).same m7 n7
  ·rcases List.mem_append.1 hx with hx|hx
   ·exact hw.h16 x hx
   ·rw[List.mem_singleton.1 hx];exact hid
theorem R4:envS.orc.get 35=some (FV (.bool true)):=by kernel_rfl
theorem Kv_ {ps os:List PkI}(h:os.map PkI.key=ps.map PkI.key)(id:List Nat):Bl os id=Bl ps id:=by
 induction os generalizing ps with
 |nil=>
  cases ps with
  |nil=>rfl
  |cons p ps=>cases h
 |cons o os ih=>
  cases ps with
  |nil=>cases h
  |cons p ps=>
   simp only[List.map_cons,List.cons.injEq]at h
   have h1:o.num=p.num:=congrArg (fun k=>k.1) h.1
   have h2:o.hs=p.hs:=congrArg (fun k=>k.2.2) h.1
   show(match Bl os id with|some r=>some r|none=>(BI o.hs id).map fun h=>(o.num,h))=(match Bl ps id with|some r=>some r|none=>(BI p.hs id).map fun h=>(p.num,h))
   rw[ih h.2,h1,h2]
theorem Jp_ {ps os:List PkI}(h:os.map PkI.key=ps.map PkI.key):idsP os=idsP ps:=by
 unfold idsP
 have: ∀(acc:List (List Nat)) (os ps:List PkI),os.map PkI.key=ps.map PkI.key→os.foldl (fun a p=>idsH a p.hs) acc=ps.foldl (fun a p=>idsH a p.hs) acc:=by
  intro acc os
  induction os generalizing acc with
  |nil=>
   intro ps h
   cases ps with
   |nil=>rfl
   |cons p ps=>cases h
  |cons o os ih=>
   intro ps h
   cases ps with
   |nil=>cases h
   |cons p ps=>
    simp only[List.map_cons,List.cons.injEq]at h
    have h2:o.hs=p.hs:=congrArg (fun k=>k.2.2) h.1
    simp only[List.foldl_cons,h2]
    exact ih _ _ h.2
 exact this [] os ps h
theorem Ws {ps:List PkI}(h16: ∀p∈ps,∀h∈p.hs,h.1.length=16)(id:List Nat):(resP (Bl ps id)).2.1.1.length=16:=by
 have: ∀(ps:List PkI),(∀p∈ps,∀h∈p.hs,h.1.length=16)→ ∀r,Bl ps id=some r→r.2.1.length=16:=by
  intro ps
  induction ps with
  |nil=>intro _ r h;cases h
  |cons p ps ih=>
   intro h16 r hr
   have hr':(match Bl ps id with|some r=>some r|none=>(BI p.hs id).map fun h=>(p.num,h))=some r:=hr
   cases hl:Bl ps id with
   |some r2=>
    rw[hl]at hr'
    cases hr'
    exact ih (fun p hp=>h16 p (by simp[hp])) _ hl
   |none=>
    rw[hl]at hr'
    cases hq:BI p.hs id with
    |none=>rw[hq]at hr';cases hr'
    |some h=>
     rw[hq]at hr'
     cases hr'
     exact h16 p (by simp) h (MX hq).1
 cases hl:Bl ps id with
 |none=>rfl
 |some r=>exact this ps h16 r hl
section
variable {vl vi va w:Value}{ps os:List PkI}{ids:List (List Nat)}{Q:Value×FrameMode→St→Prop}{s0:St}
theorem Gv_ (hb0:s0.lim≤s0.next)(hl:PkR s0 vl ps)(hi:PkR s0 vi os)(hk:os.map PkI.key=ps.map PkI.key)(ha:IdR s0 va ids)(hz: ∀p∈ps,p.hs.length≤1000)(hpz:ps.length≤60)(hidz:ids.length≤10000)
  (q: ∀(n1:Nat) (tm1:T Value) (s1:St) (td1:List Item),20000000000≤n1→skim 64 td1=Ig→Ext Any Non s0 s1→T.get tm1 0=some vl→T.get tm1 5=some vi→T.get tm1 6=some w→W (runF envS n1 ⟨11,Iy,B6,tm1,td1, .run, .normal,none⟩) s1 Q):
  ∀(m i n:Nat) (tm:T Value) (s:St) (td:List Item),i+m=ids.length→20*m+20000000100≤n→skim 64 td=GA→Ext Any Non s0 s→T.get tm 0=some vl→T.get tm 5=some vi→T.get tm 6=some w→T.get tm 7=some va→T.get tm 8=some (.int .i64 (i:Nat))→
  W (runF envS n ⟨11,Iy,B6,tm,td, .run, .normal,none⟩) s Q:=by
 have hlen:os.length=ps.length:=by
  have:=congrArg List.length hk
  simpa using this
 have hzo: ∀p∈os,p.hs.length≤1000000:=fun p hp=>by
  have h1:p.key∈ps.map PkI.key:=by rw[←hk];exact List.mem_map_of_mem hp
  obtain⟨p',h2,h3⟩:=List.mem_map.1 h1
  have h4:p'.hs=p.hs:=congrArg (fun k=>k.2.2) h3
  have:=hz p' h2
  rw[h4]at this
  omega
 intro m
 induction m with
 |zero=>
  intro i n tm s td hm hn hT hx h0 h5 h6 h7 h8
  refine OH.w hT (by omega) ?_
  simp only[Lh,Ac,W_oS,W_on,Aa,W_mv,Ab,Ag,T.get_set,Ae,Ad,Ak,Al,Af,Au,reduceIte,Ai,Aq,Av,As,Ah,Ap,Ao,Ar,Aj,An,Nat.reduceEqDiff,reduceCtorEq, ↓reduceIte,A8,Bb,A5,A9,Be,Ba,Bc,A6,h7,h8]
  rw[ha.len]
  simp only[Ac,W_oS,W_on,Aa,W_mv,Ab,Ag,T.get_set,Ae,Ad,Ak,Al,Af,Au,reduceIte,Ai,Aq,Av,As,Ah,Ap,Ao,Ar,Aj,An,Nat.reduceEqDiff,reduceCtorEq, ↓reduceIte,A8,Bb,A5,A9,Be,Ba,Bc,A6]
  refine W.cond (v:=false) Uy Qw (by simp[T.get_set];omega) (by omega) (fun h=>by cases h) fun _=> ?_
  exact q _ _ s _ (by omega) X8 hx (by simp[T.get_set,h0]) (by simp[T.get_set,h5]) (by simp[T.get_set,h6])
 |succ m ih=>
  intro i n tm s td hm hn hT hx h0 h5 h6 h7 h8
  have hil:i<ids.length:=by omega
  have hi16:=ha.h16 _ (List.getElem_mem hil)
  obtain⟨ba,oa,ca,eva,gra⟩:=(ha.ext0 hx).at hil
  have hIl:(u8l ids[i]).length=16:=by rw[Bp];exact hi16
  refine OH.w hT (by omega) ?_
  simp only[Lh,Ac,W_oS,W_on,Aa,W_mv,Ab,Ag,T.get_set,Ae,Ad,Ak,Al,Af,Au,reduceIte,Ai,Aq,Av,As,Ah,Ap,Ao,Ar,Aj,An,Nat.reduceEqDiff,reduceCtorEq, ↓reduceIte,A8,Bb,A5,A9,Be,Ba,Bc,A6,h7,h8]
  rw[ha.len]
  simp only[Ac,W_oS,W_on,Aa,W_mv,Ab,Ag,T.get_set,Ae,Ad,Ak,Al,Af,Au,reduceIte,Ai,Aq,Av,As,Ah,Ap,Ao,Ar,Aj,An,Nat.reduceEqDiff,reduceCtorEq, ↓reduceIte,A8,Bb,A5,A9,Be,Ba,Bc,A6]
  refine W.cond (v:=true) Uy Qw (by simp[T.get_set];omega) (by omega) (fun _=> ?_) fun h=>by cases h
  refine Jb_.w Wd (by omega) ?_
  simp only[S6,Ac,W_oS,W_on,Aa,W_mv,Ab,Ag,T.get_set,Ae,Ad,Ak,Al,Af,Au,reduceIte,Ai,Aq,Av,As,Ah,Ap,Ao,Ar,Aj,An,Nat.reduceEqDiff,reduceCtorEq, ↓reduceIte,h5,h7,h8,eva,Bx DP hil]
  refine W.loadA Cu gra hIl fun s1 m1 n1 x1=> ?_
  have y1:=hx.on x1 hb0 fun _ _ h=>h
  have hi1:=hi.ext0 y1
  try simp only[Ac,W_oS,W_on,Aa,W_mv,Ab,Ag,T.get_set,Ae,Ad,Ak,Al,Af,Au,reduceIte,Ai,Aq,Av,As,Ah,Ap,Ao,Ar,Aj,An,Nat.reduceEqDiff,reduceCtorEq, ↓reduceIte]
  refine ZM (y1.bnd hb0) hi16 hi1 hi1.lt hzo (by omega) (by omega) fun s2 x2=> ?_
  have y2:=y1.on x2 hb0 fun _ _ h=>h
  rw[Kv_ hk]
  have hr16:=Ws hl.h16 ids[i]
  generalize hr:resP (Bl ps ids[i])=r at *
  have hHl:(AP r.2.1).length=18:=Cg hr16
  rw[Ei (k:=0) rfl,Ei (k:=1) rfl,Ei (k:=2) rfl]
  refine W.alloc Ew fun s3 n3 x3 o3=> ?_
  have y3:=y2.on x3 hb0 fun _ _ h=>h
  try simp only[Ac,W_oS,W_on,Aa,W_mv,Ab,Ag,T.get_set,Ae,Ad,Ak,Al,Af,Au,reduceIte,Ai,Aq,Av,As,Ah,Ap,Ao,Ar,Aj,An,Nat.reduceEqDiff,reduceCtorEq, ↓reduceIte]
  refine W.store B1 (v:= .agg (AP r.2.1).toArray) hHl (De _) (fun j hj=>(AI.owned o3) j (by simpa using hj)) fun s4 n4 x4 o4=> ?_
  rw[Cx]at o4
  have hsn:s0.next≤s2.next:=y2.nxt
  have y4:=y3.on x4 hb0 fun x hx hq=>by have:=hq.1;omega
  try simp only[Ac,W_oS,W_on,Aa,W_mv,Ab,Ag,T.get_set,Ae,Ad,Ak,Al,Af,Au,reduceIte,Ai,Aq,Av,As,Ah,Ap,Ao,Ar,Aj,An,Nat.reduceEqDiff,reduceCtorEq, ↓reduceIte]
  generalize hA:s2.next=A at *
  refine YB.w V7 (by omega) ?_
  simp only[SB,Ac,W_oS,W_on,Aa,W_mv,Ab,Ag,T.get_set,Ae,Ad,Ak,Al,Af,Au,reduceIte,Ai,Aq,Av,As,Ah,Ap,Ao,Ar,Aj,An,Nat.reduceEqDiff,reduceCtorEq, ↓reduceIte,h0,h7,h8,eva,Bx DP hil]
  refine W.loadA Cu (by
   obtain⟨b',o',c',ev',gr'⟩:=(ha.ext0 y4).at hil
   have:(Value.slice (some ⟨b',o',none⟩) ids.length c')= .slice (some ⟨ba,oa,none⟩) ids.length ca:=ev'.symm.trans eva
   cases this
   exact gr') hIl fun s5 m5 n5 x5=> ?_
  have y5:=y4.on x5 hb0 fun _ _ h=>h
  have o5:AI s5 A 0 (AP r.2.1):=fun j u e=>(o4 j u e).same m5 n5
  try simp only[Ac,W_oS,W_on,Aa,W_mv,Ab,Ag,T.get_set,Ae,Ad,Ak,Al,Af,Au,reduceIte,Ai,Aq,Av,As,Ah,Ap,Ao,Ar,Aj,An,Nat.reduceEqDiff,reduceCtorEq, ↓reduceIte]
  refine JR_ (y5.bnd hb0) hi16 (hl.ext0 y5) (fun p hp=>by have:=hz p hp;omega) (by omega) (by omega) fun s6 x6=> ?_
  have y6:=y5.on x6 hb0 fun _ _ h=>h
  rw[hr]
  rw[Ei (k:=0) rfl,Ei (k:=1) rfl,Ei (k:=2) rfl]
  refine W.alloc Ew fun s7 n7 x7 o7=> ?_
  have y7:=y6.on x7 hb0 fun _ _ h=>h
  try simp only[Ac,W_oS,W_on,Aa,W_mv,Ab,Ag,T.get_set,Ae,Ad,Ak,Al,Af,Au,reduceIte,Ai,Aq,Av,As,Ah,Ap,Ao,Ar,Aj,An,Nat.reduceEqDiff,reduceCtorEq, ↓reduceIte]
  refine W.store B1 (v:= .agg (AP r.2.1).toArray) hHl (De _) (fun j hj=>(AI.owned o7) j (by simpa using hj)) fun s8 n8 x8 o8=> ?_
  rw[Cx]at o8
  have hsn6:s0.next≤s6.next:=y6.nxt
  have y8:=y7.on x8 hb0 fun x hx hq=>by have:=hq.1;omega
  have hA17:A+18≤s6.next:=by
   have:=((AI.ext0 o5 x6) 17 _ (List.getElem?_eq_getElem (show 17<(AP r.2.1).length by omega))).1
   omega
  have p8:AI s8 A 0 (AP r.2.1):=((AI.ext0 o5 x6).ext0 x7).ext x8 fun j hj hq=>by have:=hq.1;omega
  try simp only[Ac,W_oS,W_on,Aa,W_mv,Ab,Ag,T.get_set,Ae,Ad,Ak,Al,Af,Au,reduceIte,Ai,Aq,Av,As,Ah,Ap,Ao,Ar,Aj,An,Nat.reduceEqDiff,reduceCtorEq, ↓reduceIte]
  refine Fw_.w YI (by omega) ?_
  have eb:(!(r.2.2==r.2.2))=false:=by simp
  simp only[Ox,Ac,W_oS,W_on,Aa,W_mv,Ab,Ag,T.get_set,Ae,Ad,Ak,Al,Af,Au,reduceIte,Ai,Aq,Av,As,Ah,Ap,Ao,Ar,Aj,An,Nat.reduceEqDiff,reduceCtorEq, ↓reduceIte,A8,Bb,A5,A9,Be,Ba,Bc,A6,decide_true,Bool.not_true,Bool.false_eq_true]
  refine W.loadA B1 p8.row hHl fun s9 m9 n9 x9=> ?_
  have y9:=y8.on x9 hb0 fun _ _ h=>h
  try simp only[Ac,W_oS,W_on,Aa,W_mv,Ab,Ag,T.get_set,Ae,Ad,Ak,Al,Af,Au,reduceIte,Ai,Aq,Av,As,Ah,Ap,Ao,Ar,Aj,An,Nat.reduceEqDiff,reduceCtorEq, ↓reduceIte]
  refine W.loadA B1 (fun j u e=>((o8 j u e).same m9 n9).at') hHl fun s10 m10 n10 x10=> ?_
  have y10:=y9.on x10 hb0 fun _ _ h=>h
  simp only[Ac,W_oS,W_on,Aa,W_mv,Ab,Ag,T.get_set,Ae,Ad,Ak,Al,Af,Au,reduceIte,Ai,Aq,Av,As,Ah,Ap,Ao,Ar,Aj,An,Nat.reduceEqDiff,reduceCtorEq, ↓reduceIte,Qm hr16 Qa,HL_ GW_,eb,Bool.false_eq_true]
  refine W.cond (v:=false) JP_ JB_ (by simp[T.get_set]) (by omega) (fun h=>by cases h) fun _=> ?_
  refine Ju_.w Cj_ (by omega) ?_
  have ei:wrap64 ((i:Nat)+1:Int)=((i+1:Nat):Int):=by
   rw[B5 (by omega) (by omega)];simp
  simp only[UV,Ac,W_oS,W_on,Aa,W_mv,Ab,Ag,T.get_set,Ae,Ad,Ak,Al,Af,Au,reduceIte,Ai,Aq,Av,As,Ah,Ap,Ao,Ar,Aj,An,Nat.reduceEqDiff,reduceCtorEq, ↓reduceIte,A8,Bb,A5,A9,Be,Ba,Bc,A6,h8,ei]
  exact ih (i+1) _ _ _ _ (by omega) (by omega) WU y10 (by simp[T.get_set,h0]) (by simp[T.get_set,h5]) (by simp[T.get_set,h6]) (by simp[T.get_set,h7,eva]) (by simp[T.get_set])
end
theorem EO_ {vl:Value}{ps:List PkI}{id:List Nat}{s:St}{n:Nat}(hb:s.lim≤s.next)(hid:id.length=16)(hl:PkR s vl ps)(hz: ∀p∈ps,p.hs.length≤1048576)(hn:200000000000≤n):W (A2 envS (runF envS n) 11 [vl, .agg (u8l id).toArray]) s fun v _=>v= .bool true:=by
 refine CM_ fun tm h0 h1=> ?_
 have hb0:(s.cxN cxN).lim≤(s.cxN cxN).next:=hb
 refine VA.w rfl (by omega) ?_
 simp only[TE,Ac,W_oS,W_on,Aa,W_mv,Ab,Ag,T.get_set,Ae,Ad,Ak,Al,Af,Au,reduceIte,Ai,Aq,Av,As,Ah,Ap,Ao,Ar,Aj,An,Nat.reduceEqDiff,reduceCtorEq, ↓reduceIte,h1]
 refine W.box fun sa na xa oa=> ?_
 rw[Cx]at na oa
 have ea:(s.cxN cxN).next=s.next:=rfl
 rw[ea]at oa ⊢
 have ya:=(Ext.refl (F:=Any) (G:=Non) (s.cxN cxN)).on xa hb0 fun _ _ h=>h
 try simp only[Ac,W_oS,W_on,Aa,W_mv,Ab,Ag,T.get_set,Ae,Ad,Ak,Al,Af,Au,reduceIte,Ai,Aq,Av,As,Ah,Ap,Ao,Ar,Aj,An,Nat.reduceEqDiff,reduceCtorEq, ↓reduceIte]
 refine YO.w CK_ (by omega) ?_
 simp only[Sa,Ac,W_oS,W_on,Aa,W_mv,Ab,Ag,T.get_set,Ae,Ad,Ak,Al,Af,Au,reduceIte,Ai,Aq,Av,As,Ah,Ap,Ao,Ar,Aj,An,Nat.reduceEqDiff,reduceCtorEq, ↓reduceIte,h0]
 have hl0:PkR (s.cxN cxN) vl ps:=hl.same rfl rfl
 refine Zm (k:=60) (m:=300) (ya.bnd hb0) (hl0.ext0 ya) hz (by omega) (by omega) fun s1 x1=> ?_
 have y1:=ya.on x1 hb0 fun _ _ h=>h
 have o1:=AI.ext0 oa x1
 cases hbig:bigP ps 60 300 with
 |true=>
  try simp only[Ac,W_oS,W_on,Aa,W_mv,Ab,Ag,T.get_set,Ae,Ad,Ak,Al,Af,Au,reduceIte,Ai,Aq,Av,As,Ah,Ap,Ao,Ar,Aj,An,Nat.reduceEqDiff,reduceCtorEq, ↓reduceIte]
  refine W.cond (v:=true) Sc Vq (by simp[T.get_set]) (by omega) (fun _=> ?_) fun h=>by cases h
  refine KX_.w Zu (by omega) ?_
  simp only[RL,Ac,W_oS,W_on,Aa,W_mv,Ab,Ag,T.get_set,Ae,Ad,Ak,Al,Af,Au,reduceIte,Ai,Aq,Av,As,Ah,Ap,Ao,Ar,Aj,An,Nat.reduceEqDiff,reduceCtorEq, ↓reduceIte]
  refine W.orc R4 (W.pure ?_)
  try simp only[Ac,W_oS,W_on,Aa,W_mv,Ab,Ag,T.get_set,Ae,Ad,Ak,Al,Af,Au,reduceIte,Ai,Aq,Av,As,Ah,Ap,Ao,Ar,Aj,An,Nat.reduceEqDiff,reduceCtorEq, ↓reduceIte]
  exact W.end' (rs:=[4]) (vs:=[.bool true]) IR_ (.inl WV) (by omega) M6 Te y1.cx (by simp[T.get_set]) rfl
 |false=>
  have hps:ps.length≤60:=by
   unfold bigP at hbig
   rw[Bool.or_eq_false_iff]at hbig
   have:=of_decide_eq_false hbig.1
   omega
  have htot:Bw ps≤300:=by
   unfold bigP at hbig
   rw[Bool.or_eq_false_iff]at hbig
   have:=of_decide_eq_false hbig.2
   rw[List.take_of_length_le (by omega)]at this
   omega
  have hz3: ∀p∈ps,p.hs.length≤300:=fun p hp=>by
   obtain⟨i,hi⟩:=List.getElem?_of_mem hp
   obtain⟨h1,h2⟩:=List.getElem?_eq_some_iff.1 hi
   have:=Qz h1
   rw[h2]at this
   omega
  try simp only[Ac,W_oS,W_on,Aa,W_mv,Ab,Ag,T.get_set,Ae,Ad,Ak,Al,Af,Au,reduceIte,Ai,Aq,Av,As,Ah,Ap,Ao,Ar,Aj,An,Nat.reduceEqDiff,reduceCtorEq, ↓reduceIte]
  refine W.cond (v:=false) Sc Vq (by simp[T.get_set]) (by omega) (fun h=>by cases h) fun _=> ?_
  refine Il_.w IW_ (by omega) ?_
  simp only[OJ,Ac,W_oS,W_on,Aa,W_mv,Ab,Ag,T.get_set,Ae,Ad,Ak,Al,Af,Au,reduceIte,Ai,Aq,Av,As,Ah,Ap,Ao,Ar,Aj,An,Nat.reduceEqDiff,reduceCtorEq, ↓reduceIte,h0]
  refine HO_ (y1.bnd hb0) (hl0.ext0 y1) (fun p hp=>by have:=hz3 p hp;omega) (by omega) (by omega) fun s2 vi os x2 hvi hk=> ?_
  have y2:=y1.on x2 hb0 fun _ _ h=>h
  try simp only[Ac,W_oS,W_on,Aa,W_mv,Ab,Ag,T.get_set,Ae,Ad,Ak,Al,Af,Au,reduceIte,Ai,Aq,Av,As,Ah,Ap,Ao,Ar,Aj,An,Nat.reduceEqDiff,reduceCtorEq, ↓reduceIte]
  refine WN.w ZS (by omega) ?_
  simp only[UZ,Ac,W_oS,W_on,Aa,W_mv,Ab,Ag,T.get_set,Ae,Ad,Ak,Al,Af,Au,reduceIte,Ai,Aq,Av,As,Ah,Ap,Ao,Ar,Aj,An,Nat.reduceEqDiff,reduceCtorEq, ↓reduceIte,h0]
  refine XA (y2.bnd hb0) (hl0.ext0 y2) (by omega) (by omega) (by omega) fun s3 vw x3 hvw=> ?_
  have y3:=y2.on x3 hb0 fun _ _ h=>h
  have o3:=((AI.ext0 o1 x2).ext0 x3)
  have hidz:=Hq_ ps
  try simp only[Ac,W_oS,W_on,Aa,W_mv,Ab,Ag,T.get_set,Ae,Ad,Ak,Al,Af,Au,reduceIte,Ai,Aq,Av,As,Ah,Ap,Ao,Ar,Aj,An,Nat.reduceEqDiff,reduceCtorEq, ↓reduceIte]
  refine Ax_ (C:=s.next) (w:=vw) (ids:=idsP ps) (id:=id) (y3.bnd hb0) hid o3 hvw (by omega) (by simp[T.get_set]) (by simp[T.get_set]) ZC (by omega) fun va s4 tm4 td4 hT4 x4 hva hj4 h47=> ?_
  have y4:=y3.on x4 hb0 fun _ _ h=>h
  have g0:=hj4 0 (by decide)
  have g5:=hj4 5 (by decide)
  have g6:=hj4 6 (by decide)
  simp[T.get_set,h0]at g0
  simp[T.get_set]at g5
  simp[T.get_set]at g6
  refine Yu.w hT4 (by omega) ?_
  simp only[Pu,Ac,W_oS,W_on,Aa,W_mv,Ab,Ag,T.get_set,Ae,Ad,Ak,Al,Af,Au,reduceIte,Ai,Aq,Av,As,Ah,Ap,Ao,Ar,Aj,An,Nat.reduceEqDiff,reduceCtorEq, ↓reduceIte]
  have hvi4:PkR s4 vi os:=(hvi.ext0 x3).ext0 x4
  have hvw4:IdR s4 vw (idsP ps):=hvw.ext0 x4
  refine Gv_ (s0:=s4) (vl:=vl) (vi:=vi) (w:=vw) (va:=va) (ids:=idsP ps++[id]) (y4.bnd hb0) (hl0.ext0 y4) hvi4 hk hva (fun p hp=>by have:=hz3 p hp;omega) hps (by rw[List.length_append];simp;omega) (fun n5 tm5 s5 td5 hn5 hT5 x5 k0 k5 k6=> ?_) (idsP ps++[id]).length 0 _ _ _ _ (by omega) (by rw[List.length_append];simp;omega) Z3 (Ext.refl _) (by simp[T.get_set,g0]) (by simp[T.get_set,g5]) (by simp[T.get_set,g6]) (by simp[T.get_set,h47]) (by simp[T.get_set])
  have y5:=y4.on x5 hb0 fun _ _ h=>h
  have hlen:os.length=ps.length:=by
   have:=congrArg List.length hk
   simpa using this
  have htk:Bw os=Bw ps:=by
   unfold Bw
   have: ∀l:List PkI,l.map (fun p=>p.hs.length)=(l.map PkI.key).map fun k=>k.2.2.length:=fun l=>by rw[List.map_map];rfl
   rw[this os,this ps,hk]
  refine Wz.w hT5 (by omega) ?_
  simp only[Ua,Ac,W_oS,W_on,Aa,W_mv,Ab,Ag,T.get_set,Ae,Ad,Ak,Al,Af,Au,reduceIte,Ai,Aq,Av,As,Ah,Ap,Ao,Ar,Aj,An,Nat.reduceEqDiff,reduceCtorEq, ↓reduceIte,k5,k6]
  have hvi5:=hvi4.ext0 x5
  refine Yz (y5.bnd hb0) hvi5 (by omega) (by omega) (by omega) fun s6 vo x6 hvo=> ?_
  have y6:=y5.on x6 hb0 fun _ _ h=>h
  rw[Jp_ hk]at hvo
  try simp only[Ac,W_oS,W_on,Aa,W_mv,Ab,Ag,T.get_set,Ae,Ad,Ak,Al,Af,Au,reduceIte,Ai,Aq,Av,As,Ah,Ap,Ao,Ar,Aj,An,Nat.reduceEqDiff,reduceCtorEq, ↓reduceIte]
  refine HM_ (y6.bnd hb0) hvo ((hvw4.ext0 x5).ext0 x6) (by omega) (by omega) fun s7 x7=> ?_
  have y7:=y6.on x7 hb0 fun _ _ h=>h
  simp only[Ac,W_oS,W_on,Aa,W_mv,Ab,Ag,T.get_set,Ae,Ad,Ak,Al,Af,Au,reduceIte,Ai,Aq,Av,As,Ah,Ap,Ao,Ar,Aj,An,Nat.reduceEqDiff,reduceCtorEq, ↓reduceIte,k0,k5]
  refine VM (N:=300) (y7.bnd hb0) ((hvi5.ext0 x6).ext0 x7) (hl0.ext0 y7) hk (fun p hp=> ?_) (by decide) (by omega) (by omega) fun s8 x8=> ?_
  ·obtain⟨i,hi⟩:=List.getElem?_of_mem hp
   obtain⟨h1,h2⟩:=List.getElem?_eq_some_iff.1 hi
   have:=Qz h1
   rw[h2]at this
   omega
  have y8:=y7.on x8 hb0 fun _ _ h=>h
  try simp only[Ac,W_oS,W_on,Aa,W_mv,Ab,Ag,T.get_set,Ae,Ad,Ak,Al,Af,Au,reduceIte,Ai,Aq,Av,As,Ah,Ap,Ao,Ar,Aj,An,Nat.reduceEqDiff,reduceCtorEq, ↓reduceIte]
  refine W.orc R4 (W.pure ?_)
  try simp only[Ac,W_oS,W_on,Aa,W_mv,Ab,Ag,T.get_set,Ae,Ad,Ak,Al,Af,Au,reduceIte,Ai,Aq,Av,As,Ah,Ap,Ao,Ar,Aj,An,Nat.reduceEqDiff,reduceCtorEq, ↓reduceIte]
  exact W.end' (rs:=[4]) (vs:=[.bool true]) Kr_ (.inl JG_) (by omega) M6 Te y8.cx (by simp[T.get_set]) rfl
structure KeyOk (fs:List FdI)(k:KeyP):Prop where
 of: ∃f∈fs,k=(f.num,(f.l.length:Int),(JE_ f.l).1.map toI)
 hi:k.1≤999999
section
variable {vf:Value}{fs:List FdI}{Q:Value×FrameMode→St→Prop}{s0:St}
end
section
variable {vf vx vs w:Value}{fs:List FdI}{xs:List PkI}{sc:List Int}{Q:Value×FrameMode→St→Prop}{s0:St}
end
theorem MkS.fd {s:St}{rs:List FdI}{vr:Value}{br:Nat}(mk:MkS s 2 rs.length (fdCs rs) vr br)(hB: ∀f∈rs,Bs s f.v f.l)(hby: ∀f∈rs,Byt f.l):FdR s vr rs:=by
 refine⟨?_,hB,hby⟩
 rcases mk with⟨rfl,h0,_⟩|⟨hm,_⟩
 ·exact .inl ⟨rfl,List.eq_nil_of_length_eq_zero h0⟩
 ·exact .inr ⟨br,0,_,hm.val,hm.own.row⟩
section
variable {vf vx:Value}{fs:List FdI}{xs:List PkI}{Q:Value×FrameMode→St→Prop}{s0:St}
end
section
variable {parts:List (Value×List Nat)}{b o c:Nat}
end
section
variable {parts:List (Value×List Nat)}{b o c:Nat}
end
section
variable {parts:List (Value×List Nat)}{b o c:Nat}
end
open Go.RowKit Go.ChangeShapes Go.WideShapes
theorem Cq_:envS.P=Try.prog:=by kernel_rfl
theorem LF_:Try.prog.underlying 5=some (.int .u8):=by kernel_rfl
theorem IV:Try.prog.underlying 3=some (.int .i64):=by kernel_rfl
theorem Ht_:Try.prog.cellsOf 5=1:=by kernel_rfl
theorem JF_ {H:Type}(d:DataW H):1≤Rows.uptoBulk d:=by
 unfold Rows.uptoBulk
 split<;>omega
theorem Ur {H:Type}: ∀l:List (DataW H),l.length≤Rows.uptoBulkAll l
 |[]=>Nat.zero_le _
 |d::l=>by
  unfold Rows.uptoBulkAll
  have:=JF_ d
  have:=Ur l
  rw[List.length_cons]
  omega
mutual
theorem V1 {H:Type}{N:Nat}: ∀d:DataW H,Rows.uptoBulk d≤N→lensOk N d
 | .lit (.string l),h=>by
  unfold Rows.uptoBulk at h
  unfold lensOk
  omega
 | .lit (.bool _),_=>by unfold lensOk;trivial
 | .lit (.int _ _),_=>by unfold lensOk;trivial
 | .lit (.float _ _),_=>by unfold lensOk;trivial
 | .lit .nil,_=>by unfold lensOk;trivial
 | .nil,_=>by unfold lensOk;trivial
 | .ptr _,_=>by unfold lensOk;trivial
 | .slice es sp,h=>by
  unfold Rows.uptoBulk at h
  have:=Ur es
  unfold lensOk
  exact⟨by omega,Iq es (by omega)⟩
 | .agg ps,h=>by
  unfold Rows.uptoBulk at h
  unfold lensOk
  exact Iq ps (by omega)
 | .iface _ _,_=>by unfold lensOk;trivial
 | .map _,_=>by unfold lensOk;trivial
 | .held _,_=>by unfold lensOk;trivial
theorem Iq {H:Type}{N:Nat}: ∀l:List (DataW H),Rows.uptoBulkAll l≤N→Ey N l
 |[],_=>by unfold Ey;trivial
 |d::l,h=>by
  unfold Rows.uptoBulkAll at h
  unfold Ey
  exact⟨V1 d (by omega),Iq l (by omega)⟩
end
theorem lens_small {H:Type}{ds:List (DataW H)}(h:Rows.uptoSmall H ds=true): ∀d∈ds,lensOk 1048576 d:=
 HQ (Iq ds (of_decide_eq_true h))
def JN (P:Program)(t:TypeId)(l:List (TypeId×Nat)):Bool:=match P.underlying t with
 |some (.struct fs)=>decide (fs.toList.map (fun x=>(x.type,x.offset))=l)
 |_=>false
theorem Bd.struct {P:Program}{N F:Nat}{s:St}{t:TypeId}{us:List Value}{l:List (TypeId×Nat)}(hb:JN P t l=true)(h:Bd P N s (F+1) t us):us.length=P.cellsOf t∧ ∀x∈l,Bd P N s F x.1 ((us.drop x.2).take (P.cellsOf x.1)):=by
 unfold JN at hb
 unfold Bd at h
 cases hu:P.underlying t with
 |none=>rw[hu]at hb;cases hb
 |some u=>
  rw[hu]at hb h
  cases u<;>try (cases hb;done)
  have e:=of_decide_eq_true hb
  refine⟨h.1,fun x hx=> ?_⟩
  rw[←e]at hx
  obtain⟨y,hy,rfl⟩:=List.mem_map.1 hx
  exact h.2 y hy
theorem Bd.int' {P:Program}{N F:Nat}{s:St}{t:TypeId}{k:IntKind}{us:List Value}(hu:P.underlying t=some (.int k))(h:Bd P N s (F+1) t us): ∃n,us=[.int k n]∧(Lit.int k n).wf=true:=by
 unfold Bd at h
 rw[hu]at h
 exact h
theorem Tx:Try.prog.cellsOf 3=1:=by kernel_rfl
attribute [local irreducible] Bd
theorem Gt.one {P:Program}{N F:Nat}{s:St}{t:TypeId}{u:Value}(hb:aggT P t=false)(h:Gt P N s F t u):Bd P N s F t [u]:=by
 obtain⟨us,h1,⟨h2,_⟩|⟨_,rfl⟩⟩:=h
 ·rw[hb]at h2;cases h2
 ·exact h1
end Go.Proofs.Ytofanlcjeohcjaa.Am
