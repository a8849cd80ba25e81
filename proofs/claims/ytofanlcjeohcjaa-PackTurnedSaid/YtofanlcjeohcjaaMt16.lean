import Derived.Test.YtofanlcjeohcjaaMt15
import Derived.Test.YtofanlcjeohcjaaMt07
import Derived.Test.YtofanlcjeohcjaaMt14
import Derived.KernelRfl
noncomputable section
namespace Go.Proofs.Ytofanlcjeohcjaa.Am
open Go.RowKit
abbrev DigF (D:Nat)(v:Value):Nat→Prop:=fun x=>In D 0 74 x∨BsF v x
theorem Dig.setN {F:Nat→Prop}{s s2:St}{D:Nat}{d:DS}(h:Dig s D d){m:Nat}(x:Ext F (In D 73 1) s s2)(o:Own s2 D 73 (.int .i64 (m:Nat))):Dig s2 D ⟨d.st,d.w,m⟩:=
 ⟨h.made.ext x fun q=>by have:=q.1;omega,h.st.ext x fun i hi q=>by have h3:i<8:=hi;have:=q.1;omega,h.w.ext x fun i hi q=>by rw[A1,h.len]at hi;have:=q.1;omega,o,h.len,h.byt,h.ok⟩
theorem Dig.setSt {F:Nat→Prop}{s s2:St}{D:Nat}{d:DS}(h:Dig s D d){r:Sha.St8}(hr:r.Ok)(x:Ext F (In D 1 8) s s2)(o:Af s2 D 1 (st8V r).toList):Dig s2 D ⟨r,d.w,d.n⟩:=
 ⟨h.made.ext x fun q=>by have:=q.1;omega,o,h.w.ext x fun i hi q=>by have:=q.2;omega,h.n.ext x fun q=>by have:=q.2;omega,h.len,h.byt,hr⟩
theorem Row.same' {s s':St}{b o:Nat}{l:List Value}(h:Row s b o l)(hm:s'.mem=s.mem)(hn:s'.next=s.next):Row s' b o l:=fun i v e=>(h i v e).same hm hn
theorem Sb_ {D : Nat} {v0 : Value} {Q : Value × FrameMode → St → Prop} {s0 : St} (hb0 : s0.lim ≤ s0.next) (hcx : s0.cx = .cx none (some [])) (hdis : ∀ x, BsF v0 x → ¬ In D 0 74 x) : ∀ (f n : Nat) (tm : T Value) (s : St) (td : List Item) (d : DS) (b : List Nat) (v : Value), b.length ≤ f → 20 * f + 60 ≤ n → skim 64 td = FC → Ext (DigF D v0) (In D 0 74) s0 s → Dig s D d → d.n + b.length ≤ 1000000000 → (b ≠ [] → Bn s v b) → Bs s v b → Byt b → (∀ x, BsF v x → BsF v0 x) →
   T.get tm 0 = some (.pointer (some ⟨D, 0, none⟩)) → T.get tm 1 = some v → (∀ s1, Ext (DigF D v0) (In D 0 74) s0 s1 → Dig s1 D (DS.write f d b) → Q (.tuple #[], .run) s1) →
   W (runF envS n ⟨111, TA_, Ds, tm, td, .run, .normal, none⟩) s Q := by
 intro f
 induction f with
 | zero =>
   intro n tm s td d b v hf hn hT hx hd hmax hbn hbs hbyt hv h0 h1 q
   have hb : b = [] := List.eq_nil_of_length_eq_zero (by omega)
   subst hb
   refine Ro.w hT (by omega) ?_
   simp -implicitDefEqProofs only [L9, Ad, W_oS, Aa, W_mv, Ac, Al, Ak, Aj, Dj, h1, hbs.len A2]
   refine W.cond (v := false) OU O8 (by simp [T.get_set]) (by omega) (fun h => by cases h) fun _ => ?_
   refine W.end' (rs := []) (vs := []) Wc (.inr (by kernel_rfl)) (by omega) NW U3 (hx.cx.trans hcx) rfl ?_
   exact q s hx hd
 | succ f ih =>
   intro n tm s td d b v hf hn hT hx hd hmax hbn hbs hbyt hv h0 h1 q
   by_cases hbe : b.length = 0
   · have hb : b = [] := List.eq_nil_of_length_eq_zero hbe
     subst hb
     refine Ro.w hT (by omega) ?_
     simp -implicitDefEqProofs only [L9, Ad, W_oS, Aa, W_mv, Ac, Al, Ak, Aj, Dj, h1, hbs.len A2]
     refine W.cond (v := false) OU O8 (by simp [T.get_set]) (by omega) (fun h => by cases h) fun _ => ?_
     refine W.end' (rs := []) (vs := []) Wc (.inr (by kernel_rfl)) (by omega) NW U3 (hx.cx.trans hcx) rfl ?_
     exact q s hx hd
   · have hbne : b ≠ [] := fun e => hbe (by rw [e]; rfl)
     obtain ⟨hk1, hk2⟩ := d.k_le b
     have hm : d.n % 64 < 64 := Nat.mod_lt _ (by decide)
     have hk0 : 0 < d.k b := by
       unfold DS.k
       exact Nat.lt_min.2 ⟨by omega, by omega⟩
     refine Ro.w hT (by omega) ?_
     simp -implicitDefEqProofs only [L9, Ad, W_oS, Aa, W_mv, Ac, Al, Ak, Aj, Dj, h1, hbs.len A2]
     refine W.cond (v := true) OU O8 (by simp [T.get_set]; omega) (by omega) (fun _ => ?_) fun h => by cases h
     refine GF_.w Ip_ (by omega) ?_
     simp -implicitDefEqProofs only [AU_, Ad, W_oS, Aa, W_mv, Ac, T.get_set, reduceIte, Bl, reduceCtorEq, ↓reduceIte, h0, B1 MC (by decide : 0 < 1)]
     refine W.load1 Jo hd.n.at' ?_
     have hxa : Ext (DigF D v0) (In D 0 74) s0 (s.rdN (D + (0 + 73))) := hx.trans (Ext.rdN (F := DigF D v0) s _ fun _ => .inl ⟨by omega, by omega⟩) hb0 (fun _ _ h => h) fun _ _ h => h
     have hda : Dig (s.rdN (D + (0 + 73))) D d := hd.same rfl rfl
     have hba : Bn (s.rdN (D + (0 + 73))) v b := (hbn hbne).same rfl rfl
     generalize s.rdN (D + (0 + 73)) = sa at hxa hda hba ⊢
     simp -implicitDefEqProofs only [W7]
     refine UY_.w FS_ (by omega) ?_
     simp -implicitDefEqProofs only [BR_, Ad, W_oS, W_on, Aa, W_mv, Ac, T.get_set, Al, Ak, Aj, reduceIte, Bl, Nat.reduceEqDiff, reduceCtorEq, ↓reduceIte, h0, h1, B1 U7 (by decide : 0 < 64), GM (lo := some (.int .i64 ((d.n % 64 : Nat) : Int))) (hi := none) (l := d.n % 64) (h := 64) Ve (BD (by decide)) rfl rfl (by omega) (Nat.le_refl _)]
     rw [if_neg (by omega)]
     obtain ⟨p, c, rfl⟩ := hba.bs.sl
     refine W.copy EP rfl (hba.bs.srcK hk1) (by rw [A1, List.length_take]; show Nat.min (d.k b) b.length = d.k b * 1; rw [Nat.mul_one]; exact Nat.min_eq_left hk1) (BT _) (fun i hi => ?_) fun sb nb xb rb => ?_
     · have hi' : i < d.k b * 1 := hi
       have := hda.w (d.n % 64 + i) (u8 (d.w[d.n % 64 + i]'(by rw [hda.len]; omega))) (by rw [List.getElem?_map, List.getElem?_eq_getElem (by rw [hda.len]; omega)]; rfl)
       exact ⟨_, by rw [show 0 + 9 + d.n % 64 * 1 + i = 9 + (d.n % 64 + i) by omega]; exact this⟩
     have hdisb : ∀ x, BsF (.slice p b.length c) x → ¬ In D 0 74 x := fun x hx' => hdis x (hv x hx')
     have hxb : Ext (DigF D v0) (In D 0 74) s0 sb := hxa.trans xb hb0 (fun x _ h => by
       rcases h with h | h
       · exact .inr (hv x h)
       · exact .inl ⟨by have := h.1; omega, by have := h.2; have h3 : d.k b ≤ 64 := by omega
                                               have h4 : x < D + (0 + 9 + d.n % 64 * 1) + d.k b * 1 := h.2
                                               omega⟩) fun x _ h => ⟨by have := h.1; omega, by have h4 : x < D + (0 + 9 + d.n % 64 * 1) + d.k b * 1 := h.2
                                                                                               omega⟩
     have hdb : Dig sb D ⟨d.st, d.w' b, d.n⟩ := hda.lay xb rb hbyt
     have hbb : Bn sb (.slice p b.length c) b := hba.ext xb fun x hx' h => hdisb x hx' ⟨by have := h.1; omega, by have h4 : x < D + (0 + 9 + d.n % 64 * 1) + d.k b * 1 := h.2
                                                                                                                  omega⟩
     clear xb rb hda hba hxa nb
     have hkmin : Nat.min (64 - d.n % 64) b.length = d.k b := rfl
     simp -implicitDefEqProofs only [hkmin]
     refine NH_.w KX_ (by omega) ?_
     simp -implicitDefEqProofs only [Ur, Ad, W_on, Aa, W_mv, Ac, T.get_set, Aj, reduceIte, Nat.reduceEqDiff, ↓reduceIte, h1]
     refine W.cut hbb A2 (i := d.k b) (j := b.length) rfl rfl hk1 (Nat.le_refl _) fun v1 hv1 hF1 => ?_
     rw [List.take_length] at hv1
     refine Pg_.w TN_ (by omega) ?_
     simp -implicitDefEqProofs only [Zg, Ad, W_oS, Aa, W_mv, T.get_set, reduceIte, Bl, Nat.reduceEqDiff, reduceCtorEq, ↓reduceIte, h0, B1 MC (by decide : 0 < 1)]
     refine W.load1 Jo hdb.n.at' ?_
     have en : wrap64 ((d.n : Nat) + (d.k b : Nat) : Int) = ((d.n + d.k b : Nat) : Int) := by
       rw [Bj (by omega) (by omega)]; simp
     simp -implicitDefEqProofs only [BN, en]
     have hxb1 : Ext (DigF D v0) (In D 0 74) s0 (sb.rdN (D + (0 + 73))) := hxb.trans (Ext.rdN (F := DigF D v0) sb _ fun _ => .inl ⟨by omega, by omega⟩) hb0 (fun _ _ h => h) fun _ _ h => h
     have hdb1 : Dig (sb.rdN (D + (0 + 73))) D ⟨d.st, d.w' b, d.n⟩ := hdb.same rfl rfl
     have hv2 : Bn (sb.rdN (D + (0 + 73))) v1 (b.drop (d.k b)) := hv1.same rfl rfl
     generalize sb.rdN (D + (0 + 73)) = sc at hxb1 hdb1 hv2 ⊢
     refine W.store1 Jo rfl hdb1.n fun se ne xe oe => ?_
     have hxe : Ext (DigF D v0) (In D 0 74) s0 se := hxb1.trans xe hb0 (fun x _ h => .inl ⟨by have := h.1; omega, by have := h.2; omega⟩) fun x _ h => ⟨by have := h.1; omega, by have := h.2; omega⟩
     have hde : Dig se D ⟨d.st, d.w' b, d.n + d.k b⟩ := hdb1.setN xe oe
     have hve : Bn se v1 (b.drop (d.k b)) := hv2.ext xe fun x hx' h => hdisb x (hF1 x hx') ⟨by have := h.1; omega, by have := h.2; omega⟩
     clear xe oe hdb1 hv2 hxb1 hdb hxb
     refine WH_.w HP_ (by omega) ?_
     have ea : wrap64 ((d.n % 64 : Nat) + (d.k b : Nat) : Int) = ((d.n % 64 + d.k b : Nat) : Int) := by
       rw [Bj (by omega) (by omega)]; simp
     simp -implicitDefEqProofs only [SL, Ad, W_oS, Aa, W_mv, Ac, T.get_set, reduceIte, Nat.reduceEqDiff, ↓reduceIte, BN, EO, ea]
     have hlen1 : (b.drop (d.k b)).length ≤ f := by rw [List.length_drop]; omega
     have hmax1 : d.n + d.k b + (b.drop (d.k b)).length ≤ 1000000000 := by rw [List.length_drop]; omega
     have hby1 : Byt (b.drop (d.k b)) := fun x hx' => hbyt x (List.mem_of_mem_drop hx')
     by_cases hfull : d.n % 64 + d.k b = 64
     · refine W.cond (v := true) Ze Cx_ (by simp [T.get_set]; omega) (by omega) (fun _ => ?_) fun h => by cases h
       refine Rf_.w CL_ (by omega) ?_
       have hde' : Dig (dSt se.mem se.next) D ⟨d.st, d.w' b, d.n + d.k b⟩ := hde.same rfl rfl
       simp -implicitDefEqProofs only [Am_, T.get_set, Nat.reduceEqDiff, ↓reduceIte, h0, Cm, DX, Bd]
       rw [W_dq fun s Q => Bl (s := s) ⟨D, 0, none⟩ Q, W_dq fun s Q => B1 (s := s) Sl (by decide : 0 < 8) Q]
       refine W.dloadA I9 hde'.st.row (Dq _) fun mem1 rd1 hm1 hr1 => ?_
       rw [hm1]
       simp -implicitDefEqProofs only [Bd]
       rw [W_dq fun s Q => Bl (s := s) ⟨D, 0, none⟩ Q, W_dq fun s Q => B1 (s := s) U7 (by decide : 0 < 64) Q, W_dq fun s Q => GM (s := s) (lo := none) (hi := none) (l := 0) (h := 64) Ve (BD (by decide)) rfl rfl (Nat.zero_le _) (Nat.le_refl _) Q]
       simp -implicitDefEqProofs only [Al, Ak, Aj, DX]
       refine W.dop ?_
       rw [AS]
       refine W.orc (m := Ed) (by kernel_rfl) ?_
       refine W.next hde.ok (hde'.w.row.same' rfl rfl) hde'.len hde'.byt fun s1 m1 n1 x1 => ⟨In D 9 64, x1, fun rd2 hr2 => ?_⟩
       have m1' : s1.mem = se.mem := m1
       have n1' : s1.next = se.next := n1
       rw [m1', n1']
       simp -implicitDefEqProofs only [Bd]
       rw [W_dq fun s Q => Bl (s := s) ⟨D, 0, none⟩ Q, W_dq fun s Q => B1 (s := s) Sl (by decide : 0 < 8) Q]
       rw [Aa]
       refine ⟨E1 (by simp) (by simp), ?_⟩
       refine W.cast (Em_ _ _ _ _ _ _ _ _ _ _ _ _ _ _ _ _ _) ?_
       simp -implicitDefEqProofs only [Ad, W_oS, Aa]
       generalize hs' : (⟨(dSt se.mem se.next).mem, (dSt se.mem se.next).next, se.lim, _, _, se.cx⟩ : St) = s'
       have hx' : Ext (DigF D v0) (In D 0 74) s0 s' := by
         rw [← hs']
         refine hxe.trans (Ext.draw (F := fun x => In D 0 74 x) (Nat.le_refl _) (fun _ _ => rfl) (by simp) (by
           simp -implicitDefEqProofs only [List.mem_cons, List.not_mem_nil, or_false]
           rintro m (rfl | rfl | rfl | rfl | rfl | rfl | rfl | rfl | rfl | rfl | rfl | rfl) x hx _ <;> first | (have h3 := hr1 _ hx; exact ⟨by have := h3.1; omega, by have := h3.2; omega⟩) | (have h3 := (hr2 _ hx).2; exact ⟨by have := h3.1; omega, by have := h3.2; omega⟩) | (cases hx))) hb0 (fun _ _ h => .inl h) fun _ _ h => h.elim
       have hdf : Dig s' D ⟨d.st, d.w' b, d.n + d.k b⟩ := by rw [← hs']; exact hde.same rfl rfl
       have hvf : Bn s' v1 (b.drop (d.k b)) := by rw [← hs']; exact hve.same rfl rfl
       clear hs' hr1 hr2 hm1 m1 n1 m1' n1' x1
       have hr : (Sha.next d.st fun j => (d.w' b).getD j 0).Ok := Sha.plus_ok _ _
       have hst : d.step b = ⟨Sha.next d.st fun j => (d.w' b).getD j 0, d.w' b, d.n + d.k b⟩ := by unfold DS.step; rw [if_pos hfull]
       generalize (Sha.next d.st fun j => (d.w' b).getD j 0) = r at hr hst ⊢
       refine W.store I9 rfl rfl (fun i hi => ⟨_, by rw [show 0 + 1 + i = 1 + i by omega]; exact hdf.st i _ (List.getElem?_eq_getElem hi)⟩) fun sf nf xf rf => ?_
       have hxf : Ext (DigF D v0) (In D 0 74) s0 sf := hx'.trans xf hb0 (fun x _ h => .inl ⟨by have := h.1; omega, by have := h.2; omega⟩) fun x _ h => ⟨by have := h.1; omega, by have := h.2; omega⟩
       have hdg : Dig sf D ⟨r, d.w' b, d.n + d.k b⟩ := hdf.setSt hr xf rf
       have hvg : Bn sf v1 (b.drop (d.k b)) := hvf.ext xf fun x hx' h => hdisb x (hF1 x hx') ⟨by have := h.1; omega, by have := h.2; omega⟩
       refine ih _ _ _ _ ⟨r, d.w' b, d.n + d.k b⟩ (b.drop (d.k b)) v1 hlen1 (by omega) SI_ hxf hdg hmax1 (fun _ => hvg) hvg.bs hby1 (fun x hx' => hv x (hF1 x hx')) (by simp [T.get_set, h0]) (by simp [T.get_set]) fun s1 x1 d1 => q s1 x1 ?_
       unfold DS.write
       rw [if_neg hbe, hst]
       exact d1
     · refine W.cond (v := false) Ze Cx_ (by simp [T.get_set]; omega) (by omega) (fun h => by cases h) fun _ => ?_
       refine ih _ _ _ _ ⟨d.st, d.w' b, d.n + d.k b⟩ (b.drop (d.k b)) v1 hlen1 (by omega) VW_ hxe hde hmax1 (fun _ => hve) hve.bs hby1 (fun x hx' => hv x (hF1 x hx')) (by simp [T.get_set, h0]) (by simp [T.get_set]) fun s1 x1 d1 => q s1 x1 ?_
       have : d.step b = ⟨d.st, d.w' b, d.n + d.k b⟩ := by unfold DS.step; rw [if_neg hfull]
       unfold DS.write
       rw [if_neg hbe, this]
       exact d1
theorem XR {D n:Nat}{v:Value}{Q:Value→St→Prop}{s:St}{d:DS}{b:List Nat}(hbd:s.lim≤s.next)(hdis: ∀x,BsF v x→ ¬In D 0 74 x)(hd:Dig s D d)(hmax:d.n+b.length≤1000000000)(hbn:b≠[]→Bn s v b)(hbs:Bs s v b)(hbyt:Byt b)(hn:20*b.length+100≤n)
  (q: ∀s1,Ext (DigF D v) (In D 0 74) s s1→Dig s1 D (DS.write b.length d b)→Q (.tuple #[]) s1):W (Au envS (runF envS n) 111 [.pointer (some ⟨D,0,none⟩),v]) s Q:=by
 refine EX_ fun tm h0 h1=> ?_
 have hd':Dig (s.cxN cxN) D d:=hd.same rfl rfl
 refine Si_.w rfl (by omega) ?_
 simp -implicitDefEqProofs only[UR,Ad,W_oS,W_on,Aa,W_mv,Ac,reduceIte,AV,Bc,A0,A6,AU,Bl,reduceCtorEq, ↓reduceIte,h0,UE Ti,B1 Zk (by decide:0<1)]
 refine W.load1 Tl hd'.made.at' ?_
 simp -implicitDefEqProofs only[DE]
 refine W.cond (v:=false) Kg_ MY_ (by simp[T.get_set]) (by omega) (fun h=>by cases h) fun _=> ?_
 refine Sb_ (s0:=s.cxN cxN) (v0:=v) hbd rfl hdis b.length _ _ _ _ d b v (Nat.le_refl _) (by omega) Fi_ (Ext.rdN (F:=DigF D v) _ _ fun _=> .inl ⟨by omega,by omega⟩) (hd'.same rfl rfl) hmax (fun h=>(hbn h).same rfl rfl) (hbs.same rfl rfl) hbyt (fun x h=>h) (by simp[T.get_set,h0]) (by simp[T.get_set,h1]) fun s1 x1 d1=>q _ x1.cx' (d1.same rfl rfl)
theorem Kx_:DP envS 163=some (List.replicate 8 (.int .u32 0)):=by kernel_rfl
theorem ET_ (r:Sha.St8):DD envS 167 [(0, .bool true),(1, .agg (st8V r))]=some (.bool true::((st8V r).toList++(u8l (List.replicate 64 0)++[.int .i64 ((0:Nat):Int)]))):=by kernel_rfl
theorem Ey_:DD envS 163 [(0, .int .u32 1779033703),(1, .int .u32 3144134277),(2, .int .u32 1013904242),(3, .int .u32 2773480762),(4, .int .u32 1359893119),(5, .int .u32 2600822924),(6, .int .u32 528734635),(7, .int .u32 1541459225)]=some (st8V D5).toList:=by kernel_rfl
theorem Jw_ {n:Nat}{s:St}{Q:Value→St→Prop}(hbd:s.lim≤s.next)(hn:10≤n)(q: ∀s1,Ext Non Non s s1→Q (.agg (st8V D5)) s1):W (Au envS (runF envS n) 133 []) s Q:=by
 refine LK_ fun tm=> ?_
 refine RF_.w rfl (by omega) ?_
 simp -implicitDefEqProofs only[VQ,Ad,Aa,Ac]
 refine W.alloc Kx_ fun sa na xa oa=> ?_
 refine He_.w Wk_ (by omega) ?_
 simp -implicitDefEqProofs only[Xx,Ad,W_oS,Aa,T.get_set,Bg,A7,Aj,reduceIte, ↓reduceIte,D8 Ey_]
 refine W.store I9 rfl rfl (fun i hi=>⟨.int .u32 0,by rw[Nat.zero_add];have:=oa i (.int .u32 0) (by rw[List.getElem?_replicate];rw[if_pos hi]);rw[Nat.zero_add]at this;exact this⟩) fun sb nb xb ob=> ?_
 refine W.endC (r:=0) (t:=163) DI_ (.inl IJ_) (by omega) YV MP_ (xb.cx.trans xa.cx) (by simp[T.get_set];rfl) ?_
 refine W.loadA I9 ob.row rfl fun sc mc nc xc=> ?_
 have x:Ext Non Non s (sc.cxN s.cx):=((xa.trans xb hbd (fun x h g=>by have g1:s.next+0≤x:=g.1;have h1:x<s.lim:=h;omega) fun x h g=>by have g1:s.next+0≤x:=g.1;have h1:x<s.next:=h;omega).trans xc hbd (fun x h g=>by have g1:s.next+0≤x:=g.1;have h1:x<s.lim:=h;omega) fun x h g=>g.elim).cx'
 exact q _ x
def DS.new:DS:=⟨D5,List.replicate 64 0,0⟩
theorem UH_ {n:Nat}{s:St}{Q:Value→St→Prop}(hbd:s.lim≤s.next)(hn:30≤n)(q: ∀s1 D,s.next≤D→D+74≤s1.next→Ext Non Non s s1→Dig s1 D DS.new→Q (.pointer (some ⟨D,0,none⟩)) s1):W (Au envS (runF envS n) 110 []) s Q:=by
 refine Wq_ fun tm=> ?_
 refine MQ_.w rfl (by omega) ?_
 simp -implicitDefEqProofs only[Ao_,Aa,W_mv,Ac]
 refine Wg_.w Ft_ (by omega) ?_
 simp -implicitDefEqProofs only[UQ,Ad,W_oS,W_on,Aa,W_mv,Ac,Ak,Bg,A7,Aj,AS]
 refine Jw_ (s:=s.cxN cxN) hbd (by omega) fun sa xa=> ?_
 simp -implicitDefEqProofs only[D8 (ET_ D5)]
 refine W.box fun sb nb xb ob=> ?_
 refine W.end' (rs:=[0]) (vs:=[.pointer (some ⟨sa.next,0,none⟩)]) Ik_ (.inl FF_) (by omega) Z4 Ww_ (xb.cx.trans xa.cx) (by simp[T.get_set]) ?_
 have hx:Ext Non Non s (sb.cxN s.cx):=(xa.trans xb hbd (fun x h g=>g) fun x h g=>g).cx'
 have ob':Af (sb.cxN s.cx) sa.next 0 (.bool true::((st8V D5).toList++(u8l (List.replicate 64 0)++[.int .i64 ((0:Nat):Int)]))):=fun i v e=>(ob i v e).same rfl rfl
 refine q _ sa.next xa.nxt ?_ hx ⟨?_, ?_, ?_, ?_,rfl, ?_,JZ_⟩
 ·have h:(sb.cxN s.cx).next=sa.next+74+1:=nb
  omega
 ·exact ob' 0 _ rfl
 ·intro i v e
  have e:(st8V D5).toList[i]?=some v:=e
  have hi:=(List.getElem?_eq_some_iff.1 e).1
  have:=ob' (1+i) v (by rw[Nat.add_comm,List.getElem?_cons_succ,List.getElem?_append_left hi];exact e)
  rw[Nat.zero_add]at this
  exact this
 ·intro i v e
  have e:(u8l (List.replicate 64 0))[i]?=some v:=e
  have hi:=(List.getElem?_eq_some_iff.1 e).1
  have:=ob' (9+i) v (by rw[show 9+i=(8+i)+1 by omega,List.getElem?_cons_succ,List.getElem?_append_right (by rw[Dq];omega),Dq,show 8+i-8=i by omega,List.getElem?_append_left hi];exact e)
  rw[Nat.zero_add]at this
  exact this
 ·exact ob' 73 _ rfl
 ·intro x hx
  have hx:x∈List.replicate 64 0:=hx
  rw[List.mem_replicate]at hx
  omega
theorem U4:hasT envS 3=true:=by kernel_rfl
def tl8 (N:Nat):Nat→List Nat
 |0=>[]
 |k+1=>(N>>>(8*k))%256::tl8 N k
theorem ZU (N:Nat): ∀k,(tl8 N k).length=k
 |0=>rfl
 |k+1=>by unfold tl8;rw[List.length_cons,ZU N k]
theorem Xl (N:Nat): ∀k,Byt (tl8 N k)
 |0=>fun x hx=>by cases hx
 |k+1=>fun x hx=>by
  unfold tl8 at hx
  rcases List.mem_cons.1 hx with rfl|hx
  ·exact Nat.mod_lt _ (by decide)
  ·exact Xl N k x hx
abbrev PadF (D B:Nat):Nat→Prop:=fun x=>In D 0 74 x∨In B 0 80 x
theorem Sd_ {D B:Nat}{a2 a3 a4:Value}{d:DS}{Q:Value×FrameMode→St→Prop}{s0:St}(hmax:8*d.n≤9223372036854775807)(hb0:s0.lim≤s0.next)(hdis:D+74≤B∨B+80≤D)(hB:B+80≤s0.next): ∀(k n:Nat) (tm:T Value) (s:St) (td:List Item) (p:List Nat),k≤8→10*k+20≤n→skim 64 td=G5→Ext (PadF D B) (In B 0 80) s0 s→Dig s D d→Af s B 0 (u8l p)→AW s B 0 80→p.length+k≤80→
  T.get tm 0=some (.pointer (some ⟨D,0,none⟩))→T.get tm 2=some a2→T.get tm 3=some a3→T.get tm 4=some a4→T.get tm 5=some (.slice (some ⟨B,0,none⟩) p.length 80)→T.get tm 6=some (.int .i64 (8*((k:Nat):Int)-8))→
  (∀n' tm' s1 td',n≤n'+10*k+5→skim 64 td'=IV→Ext (PadF D B) (In B 0 80) s0 s1→Dig s1 D d→Af s1 B 0 (u8l (p++tl8 (8*d.n) k))→T.get tm' 0=some (.pointer (some ⟨D,0,none⟩))→T.get tm' 2=some a2→T.get tm' 3=some a3→T.get tm' 4=some a4→T.get tm' 5=some (.slice (some ⟨B,0,none⟩) (p.length+k) 80)→W (runF envS n' ⟨112,G3,BW,tm',td', .run, .normal,none⟩) s1 Q)→
  W (runF envS n ⟨112,G3,BW,tm,td, .run, .normal,none⟩) s Q:=by
 intro k
 induction k with
 |zero=>
  intro n tm s td p hk hn hT hx hd ho hw hl h0 h2 h3 h4 h5 h6 q
  refine W8.w hT (by omega) ?_
  simp -implicitDefEqProofs only[Qx,Ad,W_oS,Aa,W_mv,Ac,Pu,h6]
  refine W.cond (v:=false) Be_ VK (by simp[T.get_set]) (by omega) (fun h=>by cases h) fun _=> ?_
  refine q _ _ _ _ (by omega) MR_ hx hd ?_ (by simp[T.get_set,h0]) (by simp[T.get_set,h2]) (by simp[T.get_set,h3]) (by simp[T.get_set,h4]) (by simp[T.get_set,h5])
  rw[show tl8 (8*d.n) 0=[]from rfl,List.append_nil]
  exact ho
 |succ k ih=>
  intro n tm s td p hk hn hT hx hd ho hw hl h0 h2 h3 h4 h5 h6 q
  have ec:(8*((k+1:Nat):Int)-8)=((8*k:Nat):Int):=by omega
  rw[ec]at h6
  refine W8.w hT (by omega) ?_
  simp -implicitDefEqProofs only[Qx,Ad,W_oS,Aa,W_mv,Ac,Pu,h6]
  refine W.cond (v:=true) Be_ VK (by simp[T.get_set];omega) (by omega) (fun _=> ?_) fun h=>by cases h
  refine SJ_.w Oo_ (by omega) ?_
  simp -implicitDefEqProofs only[Uw,Ad,W_oS,Aa,W_mv,Ac,T.get_set,Al,Ak,Bg,A7,Aj,reduceIte,Bl,Nat.reduceEqDiff,reduceCtorEq, ↓reduceIte,h0,h5,h6,B1 MC (by decide:0<1)]
  refine W.load1 Jo hd.n.at' ?_
  have hxa:Ext (PadF D B) (In B 0 80) s0 (s.rdN (D+(0+73))):=hx.trans (Ext.rdN (F:=PadF D B) s _ fun _=> .inl ⟨by omega,by omega⟩) hb0 (fun _ _ h=>h) fun _ _ h=>h
  have hda:Dig (s.rdN (D+(0+73))) D d:=hd.same rfl rfl
  have hoa:Af (s.rdN (D+(0+73))) B 0 (u8l p):=fun i v e=>(ho i v e).same rfl rfl
  have hwa:AW (s.rdN (D+(0+73))) B 0 80:=fun j hj=>let ⟨u,h⟩:=hw j hj;⟨u,h.same rfl rfl⟩
  generalize s.rdN (D+(0+73))=sa at hxa hda hoa hwa ⊢
  simp -implicitDefEqProofs only[Rn hmax,IF (k:= .i64) (kk:= .i64) (n:=8*k) (show 8*k≤64 by omega),E8 U4 IA,wrap_u8]
  have hba:sa.lim≤sa.next:=hxa.bnd hb0
  refine W.buildS hba (r:=u8l [(8*d.n)>>>(8*k)%256]) EP (by decide) rfl (BD (by decide)) fun sb nb xb rb=> ?_
  have hxb:Ext (PadF D B) (In B 0 80) s0 sb:=hxa.trans xb hb0 (fun _ _ h=>h.elim) fun _ _ h=>h.elim
  have hBs:Bs sb (.slice (some ⟨sa.next,0,none⟩) 1 1) [(8*d.n)>>>(8*k)%256]:=Af.bn rb (BD (by simp))
  have hob:Af sb B 0 (u8l p):=hoa.ext0 xb
  have hwb:AW sb B 0 80:=fun j hj=>let ⟨u,h⟩:=hwa j hj;⟨u,h.ext0 xb⟩
  simp -implicitDefEqProofs only[DN]
  refine W.appIn (n:=1) Jx hBs.src.g (by rw[Nat.mod_eq_of_lt (BD (by decide))];omega) rfl (BT _) (fun i hi=> ?_) fun sc nc xc rc=> ?_
  ·have:=hwb (p.length+i) (by omega)
   rw[show 0+p.length*1+i=0+(p.length+i) by omega]
   exact this
  have sub: ∀x,In B (0+p.length*1) (1*1) x→In B 0 80 x:=fun x h=>⟨by have:=h.1;omega,by
   have h4:x<B+(0+p.length*1)+1*1:=h.2
   omega⟩
  have nod: ∀i,i<74→ ¬In B (0+p.length*1) (1*1) (D+i):=fun i hi h=>by
   have h3:B+(0+p.length*1)≤D+i:=h.1
   have h4:D+i<B+(0+p.length*1)+1*1:=h.2
   omega
  have hxc:Ext (PadF D B) (In B 0 80) s0 sc:=hxb.trans xc hb0 (fun x hx' h=>by
   rcases h with h|h
   ·have h1:sa.next+0≤x:=h.1
    have h2:=hxa.nxt
    omega
   ·exact .inr (sub x h)) fun x _ h=>sub x h
  have hdc:Dig sc D d:=⟨hda.made.ext0 xb |>.ext xc (nod 0 (by decide)),(hda.st.ext0 xb).ext xc fun i hi=>nod (1+i) (by rw[Dq]at hi;omega),(hda.w.ext0 xb).ext xc fun i hi=>nod (9+i) (by rw[A1,hda.len]at hi;omega),(hda.n.ext0 xb).ext xc (nod 73 (by decide)),hda.len,hda.byt,hda.ok⟩
  have hoc:Af sc B 0 (u8l (p++[(8*d.n)>>>(8*k)%256])):=by
   have e:u8l (p++[(8*d.n)>>>(8*k)%256])=u8l p++u8l [(8*d.n)>>>(8*k)%256]:=List.map_append
   rw[e]
   refine Af.append (hob.ext xc fun i hi h=> ?_) ?_
   ·rw[A1]at hi
    have h1:B+(0+p.length*1)≤B+(0+i):=h.1
    omega
   ·rw[A1,show 0+p.length=0+p.length*1 by omega]
    exact rc
  have hwc:AW sc B 0 80:=hwb.ext xc rc
  have hlp:(p++[(8*d.n)>>>(8*k)%256]).length=p.length+1:=by simp
  refine QZ_.w NE_ (by omega) ?_
  have e8:wrap64 (((8*k:Nat):Int)-8)=8*((k:Nat):Int)-8:=by
   rw[Bj (by omega) (by omega)];omega
  simp -implicitDefEqProofs only[Y8,Ad,W_oS,Aa,W_mv,Ac,T.get_set,reduceIte,Nat.reduceEqDiff, ↓reduceIte,DQ,h6,e8]
  refine ih _ _ sc _ (p++[(8*d.n)>>>(8*k)%256]) (by omega) (by omega) FU_ hxc hdc hoc hwc (by omega) (by simp[T.get_set,h0]) (by simp[T.get_set,h2]) (by simp[T.get_set,h3]) (by simp[T.get_set,h4]) (by simp[T.get_set]) (by simp[T.get_set]) fun n' tm' s1 td' e1 e2 e3 e4 e5 e6 e7 e8 e9 e10=>q n' tm' s1 td' (by omega) e2 e3 e4 ?_ e6 e7 e8 e9 ?_
  ·rw[List.append_assoc]at e5
   exact e5
  ·rw[hlp]at e10
   rw[e10,show p.length+1+k=p.length+(k+1) by omega]
theorem Bl_:arrN envS 101=some (32,1):=by kernel_rfl
theorem IY_:arrU envS 163=some 8:=by kernel_rfl
def be4 (x:Nat):List Nat:=[x>>>24%256,x>>>16%256,x>>>8%256,x%256]
def outs:List Nat→List Nat
 |[]=>[]
 |x::l=>be4 x++outs l
theorem Mx: ∀l:List Nat,(outs l).length=4*l.length
 |[]=>rfl
 |x::l=>by
  unfold outs
  rw[List.length_append,Mx l,List.length_cons]
  show 4+_=_
  omega
theorem Tt (x:Nat): ∀l:List Nat,outs (l++[x])=outs l++be4 x
 |[]=>by show be4 x++[]=_;rw[List.append_nil];rfl
 |y::l=>by
  show be4 y++outs (l++[x])=(be4 y++outs l)++be4 x
  rw[Tt x l,List.append_assoc]
theorem Ru_ {O:Nat}{a2:Value}{cs:Array Value}{l:List Nat}(hl8:l.length=8)(hcs: ∀i (h:i<l.length),cs.toList[i]?=some (.int .u32 (l[i]:Nat))){Q:Value×FrameMode→St→Prop}{s0:St}(hb0:s0.lim≤s0.next): ∀(k i n:Nat) (tm:T Value) (s:St) (td:List Item),i+k=8→10*k+20≤n→skim 64 td=GB→Ext (In O 0 32) (In O 0 32) s0 s→Af s O 0 (u8l (outs (l.take i)))→AW s O 0 32→
  T.get tm 2=some a2→T.get tm 3=some (.pointer (some ⟨O,0,none⟩))→T.get tm 51=some (.agg cs)→T.get tm 52=some (.int .i64 (i:Nat))→
  (∀n' tm' s1 td',n≤n'+10*k+5→skim 64 td'=IR→Ext (In O 0 32) (In O 0 32) s0 s1→Af s1 O 0 (u8l (outs l))→T.get tm' 2=some a2→T.get tm' 3=some (.pointer (some ⟨O,0,none⟩))→W (runF envS n' ⟨112,G3,BW,tm',td', .run, .normal,none⟩) s1 Q)→
  W (runF envS n ⟨112,G3,BW,tm,td, .run, .normal,none⟩) s Q:=by
 intro k
 induction k with
 |zero=>
  intro i n tm s td hi hn hT hx ho hw h2 h3 h51 h52 q
  refine Ca_.w hT (by omega) ?_
  simp -implicitDefEqProofs only[Rk,Ad,W_oS,Aa,Ac,h52,show(8:Int)=((8:Nat):Int)from rfl]
  simp -implicitDefEqProofs only[BA]
  refine W.cond (v:=false) Tz BK_ (by simp[T.get_set];omega) (by omega) (fun h=>by cases h) fun _=> ?_
  rw[show i=l.length by omega,List.take_length]at ho
  exact q _ _ _ _ (by omega) MK_ hx ho (by simp[T.get_set,h2]) (by simp[T.get_set,h3])
 |succ k ih=>
  intro i n tm s td hi hn hT hx ho hw h2 h3 h51 h52 q
  have hil:i<l.length:=by omega
  refine Ca_.w hT (by omega) ?_
  simp -implicitDefEqProofs only[Rk,Ad,W_oS,Aa,Ac,h52]
  simp -implicitDefEqProofs only[BA]
  refine W.cond (v:=true) Tz BK_ (by simp[T.get_set];omega) (by omega) (fun _=> ?_) fun h=>by cases h
  refine IK_.w Mz_ (by omega) ?_
  simp -implicitDefEqProofs only[Vz,Ad,W_oS,Aa,W_mv,Ac,T.get_set,reduceIte,Nat.reduceEqDiff, ↓reduceIte,h51,h52,Qr_ IY_ (show i<8 by omega) (hcs i hil)]
  refine EM_.w Rl_ (by omega) ?_
  generalize hxe:l[i]=x
  simp -implicitDefEqProofs only[Ba_,Ad,W_oS,W_on,Aa,W_mv,T.get_set,Al,Ak,Bg,A7,Aj,reduceIte,Nat.reduceEqDiff, ↓reduceIte,h3,LC_ (show 4*i≤9223372036854775807 by omega),GM (lo:=some (.int .i64 ((4*i:Nat):Int))) (hi:=none) (l:=4*i) (h:=32) Bl_ (BD (by decide)) rfl rfl (by omega) (Nat.le_refl _)]
  rw[if_neg (by omega)]
  simp -implicitDefEqProofs only[E8 Sv IA,wrap_u8,KG (k:= .u32) (by decide),XY (k:= .u32) (by decide),X7 (k:= .u32) (by decide)]
  have hba:s.lim≤s.next:=hx.bnd hb0
  refine W.buildS hba (r:=u8l (be4 x)) EP (by decide) rfl (BD (by decide)) fun sb nb xb rb=> ?_
  have hxb:Ext (In O 0 32) (In O 0 32) s0 sb:=hx.trans xb hb0 (fun _ _ h=>h.elim) fun _ _ h=>h.elim
  have hBs:Bs sb (.slice (some ⟨s.next,0,none⟩) 4 4) (be4 x):=Af.bn rb (BD (by simp[be4]))
  have hob:Af sb O 0 (u8l (outs (l.take i))):=ho.ext0 xb
  have hwb:AW sb O 0 32:=fun j hj=>let ⟨u,h⟩:=hw j hj;⟨u,h.ext0 xb⟩
  refine W.copy (k:=4) (l:=u8l (be4 x)) EP (Nat.min_eq_right (show 4≤32-4*i by omega)).symm (hBs.srcK (k:=4) (Nat.le_refl _)) rfl (BT _) (fun j hj=> ?_) fun sc nc xc rc=> ?_
  ·have:=hwb (4*i+j) (by omega)
   rw[show 0+4*i*1+j=0+(4*i+j) by omega]
   exact this
  have sub: ∀y,In O (0+4*i*1) (4*1) y→In O 0 32 y:=fun y h=>⟨by have:=h.1;omega,by
   have h4:y<O+(0+4*i*1)+4*1:=h.2
   omega⟩
  have hxc:Ext (In O 0 32) (In O 0 32) s0 sc:=hxb.trans xc hb0 (fun y hy h=>by
   rcases h with h|h
   ·have h1:s.next+0≤y:=h.1
    have h2:=hx.nxt
    omega
   ·exact sub y h) fun y _ h=>sub y h
  have hlt:(outs (l.take i)).length=4*i:=by rw[Mx,List.length_take];omega
  have hoc:Af sc O 0 (u8l (outs (l.take (i+1)))):=by
   have e:u8l (outs (l.take (i+1)))=u8l (outs (l.take i))++u8l (be4 x):=by
    rw[List.take_add_one,List.getElem?_eq_getElem hil,hxe]
    show u8l (outs (l.take i++[x]))=_
    rw[Tt]
    exact List.map_append
   rw[e]
   refine Af.append (hob.ext xc fun j hj h=> ?_) ?_
   ·rw[A1,hlt]at hj
    have h1:O+(0+4*i*1)≤O+(0+j):=h.1
    omega
   ·rw[A1,hlt,show 0+4*i=0+4*i*1 by omega]
    exact rc
  have hwc:AW sc O 0 32:=hwb.ext xc rc
  refine ON_.w Jm_ (by omega) ?_
  have ei:wrap64 ((i:Nat)+1:Int)=((i+1:Nat):Int):=by
   rw[Bj (by omega) (by omega)];simp
  simp -implicitDefEqProofs only[Th,Ad,W_oS,Aa,W_mv,Ac,T.get_set,reduceIte,Nat.reduceEqDiff, ↓reduceIte,BN,h52,ei]
  exact ih (i+1) _ _ sc _ (by omega) (by omega) Po_ hxc hoc hwc (by simp[T.get_set,h2]) (by simp[T.get_set,h3]) (by simp[T.get_set,h51]) (by simp[T.get_set]) fun n' tm' s1 td' e1=>q n' tm' s1 td' (by omega)
theorem Uq:tyS envS 167=some (74,true):=by kernel_rfl
theorem RH_:DP envS 167=some (.bool false::(List.replicate 8 (.int .u32 0)++(List.replicate 64 (.int .u8 0)++[.int .i64 0]))):=by kernel_rfl
theorem GS:tyS envS 101=some (32,true):=by kernel_rfl
theorem Lf:DP envS 101=some (List.replicate 32 (.int .u8 0)):=by kernel_rfl
def DS.row (d:DS):List Value:= .bool true::((st8V d.st).toList++(u8l d.w++[.int .i64 (d.n:Nat)]))
theorem DS.row_len (d:DS)(h:d.w.length=64):d.row.length=74:=by
 unfold DS.row
 rw[List.length_cons,List.length_append,Dq,List.length_append,A1,h]
 rfl
theorem DS.row_one (d:DS):d.row.all oneCell=true:=by
 have h1:(st8V d.st).toList.all oneCell=true:=rfl
 unfold DS.row
 rw[List.all_cons,List.all_append,List.all_append,BT,h1]
 rfl
theorem Af.app_l {s:St}{b o:Nat}{l l':List Value}(h:Af s b o (l++l')):Af s b o l:=fun i v e=>h i v (by rw[List.getElem?_append_left (List.getElem?_eq_some_iff.1 e).1];exact e)
theorem Af.app_r {s:St}{b o:Nat}{l l':List Value}(h:Af s b o (l++l')):Af s b (o+l.length) l':=fun i v e=>by
 have:=h (l.length+i) v (by rw[List.getElem?_append_right (by omega),show l.length+i-l.length=i by omega];exact e)
 rw[←Nat.add_assoc]at this
 exact this
theorem Af.cons_l {s:St}{b o:Nat}{v:Value}{l:List Value}(h:Af s b o (v::l)):Own s b o v:=h 0 v rfl
theorem Af.cons_r {s:St}{b o:Nat}{v:Value}{l:List Value}(h:Af s b o (v::l)):Af s b (o+1) l:=fun i x e=>by
 have:=h (i+1) x (by simpa using e)
 rw[show o+1+i=o+(i+1) by omega]
 exact this
theorem Af.cons {s:St}{b o:Nat}{v:Value}{l:List Value}(h:Own s b o v)(k:Af s b (o+1) l):Af s b o (v::l):=fun i x e=>by
 cases i with
 |zero=>simp at e;subst e;exact h
 |succ i=>
  have:=k i x (by simpa using e)
  rw[show o+(i+1)=o+1+i by omega]
  exact this
theorem Af.nil {s:St}{b o:Nat}:Af s b o []:=fun i x e=>by simp at e
theorem Dig.toRow {s:St}{D:Nat}{d:DS}(h:Dig s D d):Af s D 0 d.row:=by
 unfold DS.row
 refine Af.cons h.made (Af.append h.st (Af.append ?_ ?_))
 ·rw[Dq];exact h.w
 ·rw[Dq,A1,h.len]
  exact Af.cons h.n .nil
theorem Dig.ofRow {s:St}{D:Nat}{d:DS}(h:Af s D 0 d.row)(h1:d.w.length=64)(h2:Byt d.w)(h3:d.st.Ok):Dig s D d:=by
 unfold DS.row at h
 have h4:=h.cons_r
 have h5:=h4.app_r
 have h6:=h5.app_r
 rw[Dq]at h5
 rw[Dq,A1,h1]at h6
 exact⟨h.cons_l,h4.app_l,h5.app_l,h6.cons_l,h1,h2,h3⟩
def DS.pad0 (d:DS):List Nat:=128::List.replicate ((119-d.n%64)%64) 0
def DS.pad (d:DS):List Nat:=d.pad0++tl8 (8*d.n) 8
def DS.fin (d:DS):DS:=DS.write d.pad.length d d.pad
def st8L (r:Sha.St8):List Nat:=[r.a,r.b,r.c,r.d,r.e,r.f,r.g,r.h]
def DS.sum (d:DS):List Nat:=outs (st8L d.fin.st)
theorem DS.pad0_len (d:DS):d.pad0.length=(119-d.n%64)%64+1:=by unfold DS.pad0;rw[List.length_cons,List.length_replicate]
theorem DS.pad0_byt (d:DS):Byt d.pad0:=fun x hx=>by
 unfold DS.pad0 at hx
 rcases List.mem_cons.1 hx with rfl|hx
 ·decide
 ·rw[List.mem_replicate]at hx;omega
theorem DS.pad_byt (d:DS):Byt d.pad:=fun x hx=>by
 rcases List.mem_append.1 hx with hx|hx
 ·exact d.pad0_byt x hx
 ·exact Xl _ _ x hx
theorem DS.sum_len (d:DS):d.sum.length=32:=Mx _
theorem XJ: ∀l:List Nat,Byt (outs l)
 |[]=>fun x hx=>by cases hx
 |y::l=>fun x hx=>by
  rcases List.mem_append.1 hx with hx|hx
  ·simp -implicitDefEqProofs only[be4,List.mem_cons,List.not_mem_nil,or_false]at hx
   omega
  ·exact XJ l x hx
theorem Lq_ (r:Sha.St8)(i:Nat)(h:i<(st8L r).length):(st8V r).toList[i]?=some (.int .u32 ((st8L r)[i]:Nat)):=by
 have h8:i<8:=h
 match i,h8 with
 |0,_=>rfl
 |1,_=>rfl
 |2,_=>rfl
 |3,_=>rfl
 |4,_=>rfl
 |5,_=>rfl
 |6,_=>rfl
 |7,_=>rfl
theorem Fn_ {C O2 O3 n:Nat}{d:DS}{tm:T Value}{td:List Item}{s:St}{Q:Value×FrameMode→St→Prop}(hb:s.lim≤s.next)(hcx:s.cx= .cx none (some []))(h23:O2+32≤O3)(hd:Dig s C d)(ho3:AW s O3 0 32)(ho2:AW s O2 0 32)(hn:120≤n)(hT:skim 64 td=JL)
  (h2:T.get tm 2=some (.pointer (some ⟨O2,0,none⟩))) (h3:T.get tm 3=some (.pointer (some ⟨O3,0,none⟩))) (h4:T.get tm 4=some (.pointer (some ⟨C,0,none⟩)))
  (q: ∀s1,Ext (fun x=>In C 0 74 x∨In O3 0 32 x∨In O2 0 32 x) (fun x=>In O3 0 32 x∨In O2 0 32 x) s s1→Q (.agg (u8l (outs (st8L d.st))).toArray, .run) s1):W (runF envS n ⟨112,G3,BW,tm,td, .run, .normal,none⟩) s Q:=by
 refine Oh_.w hT (by omega) ?_
 simp -implicitDefEqProofs only[Ac_,Ad,W_oS,Aa,W_mv,Ac,h4,B1 Sl (by decide:0<8)]
 refine W.loadA I9 hd.st.row (Dq _) fun sa ma na xa=> ?_
 have hxa:Ext (fun x=>In C 0 74 x∨In O3 0 32 x∨In O2 0 32 x) (fun x=>In O3 0 32 x∨In O2 0 32 x) s sa:=xa.weak hb (fun x _ h=> .inl ⟨by have:=h.1;omega,by have:=h.2;omega⟩) fun _ _ h=>h.elim
 have ho3a:AW sa O3 0 32:=fun j hj=>let ⟨u,h⟩:=ho3 j hj;⟨u,h.same ma na⟩
 have ho2a:AW sa O2 0 32:=fun j hj=>let ⟨u,h⟩:=ho2 j hj;⟨u,h.same ma na⟩
 have hba:sa.lim≤sa.next:=xa.bnd hb
 refine Ru_ (l:=st8L d.st) (cs:=(st8V d.st).toList.toArray) rfl (fun i h=>Lq_ d.st i h) hba 8 0 _ _ sa _ rfl (by omega) Sr_ (Ext.refl sa) (fun i v e=>by simp[outs,u8l]at e) ho3a (by simp[T.get_set,h2];rfl) (by simp[T.get_set,h3]) (by simp[T.get_set]) (by simp[T.get_set]) fun n' tm' sb td' e1 e2 xb ob t2 t3=> ?_
 refine KG_.w e2 (by omega) ?_
 simp -implicitDefEqProofs only[AR_,Ad,W_oS,Aa,t2,t3]
 have hxb:=hxa.trans xb hb (fun x _ h=> .inr (.inl h)) fun x _ h=> .inl h
 have hlen:(u8l (outs (st8L d.st))).length=32:=by rw[A1,Mx];rfl
 refine W.loadA GS ob.row hlen fun sc mc nc xc=> ?_
 have hxc:=hxb.trans xc hb (fun x _ h=> .inr (.inl h)) fun x _ h=>h.elim
 have ho2c:AW sc O2 0 32:=fun j hj=>by
  obtain⟨u,h⟩:=ho2a j hj
  refine⟨u,(h.ext xb fun h=> ?_).same mc nc⟩
  have h1:O3+0≤O2+(0+j):=h.1
  omega
 refine W.store GS hlen (BT _) ho2c fun se ne xe oe=> ?_
 have hxe:=hxc.trans xe hb (fun x _ h=> .inr (.inr h)) fun x _ h=> .inr h
 refine W.endC (r:=2) Sc_ (.inl DL_) (by omega) SV VG_ (hxe.cx.trans hcx) t2 ?_
 refine W.loadA GS oe.row hlen fun sf mf nf xf=> ?_
 exact q sf (hxe.trans xf hb (fun x _ h=> .inr (.inr h)) fun x _ h=>h.elim)
theorem Dig.ext {F G:Nat→Prop}{s s':St}{D:Nat}{d:DS}(h:Dig s D d)(e:Ext F G s s')(k: ∀x,In D 0 74 x→ ¬G x):Dig s' D d:=
 ⟨h.made.ext e (k _ ⟨by omega,by omega⟩),h.st.ext e fun i hi=>k _ ⟨by omega,by rw[Dq]at hi;omega⟩,h.w.ext e fun i hi=>k _ ⟨by omega,by rw[A1,h.len]at hi;omega⟩,h.n.ext e (k _ ⟨by omega,by omega⟩),h.len,h.byt,h.ok⟩
theorem AW.ext1 {F G:Nat→Prop}{s s':St}{b o n:Nat}(h:AW s b o n)(e:Ext F G s s')(k: ∀x,In b o n x→ ¬G x):AW s' b o n:=fun j hj=>let ⟨u,hu⟩:=h j hj;⟨u,hu.ext e (k _ ⟨by omega,by omega⟩)⟩
theorem GP_ {E:Env}{t:Nat}{s:St}{sz b o n c:Nat}(h:slN E t=some sz)(hk:0<n)(Q:Value→St→Prop):W (BM E t (.slice (some ⟨b,o,none⟩) n c) (.int .i64 0)) s Q=Q (.pointer (some ⟨b,o+0*sz,none⟩)) s:=Cr (k:=0) h hk Q
abbrev MidF (D O2:Nat):Nat→Prop:=fun x=>In D 0 74 x∨O2≤x
theorem LJ_ {D C O2 O3 n:Nat}{d:DS}{tm:T Value}{td:List Item}{s:St}{Q:Value×FrameMode→St→Prop}(hb:s.lim≤s.next)(hcx:s.cx= .cx none (some []))(hmax:d.n≤900000000)(hD2:D+74≤O2)(h23:O2+32≤O3)(h3C:O3+32≤C)(hCn:C+74≤s.next)(hd:Dig s D d)(hc:Dig s C d)(ho3:AW s O3 0 32)(ho2:AW s O2 0 32)(hn:2000≤n)(hT:skim 64 td=Ie)
  (h0:T.get tm 0=some (.pointer (some ⟨D,0,none⟩))) (h2:T.get tm 2=some (.pointer (some ⟨O2,0,none⟩))) (h3:T.get tm 3=some (.pointer (some ⟨O3,0,none⟩))) (h4:T.get tm 4=some (.pointer (some ⟨C,0,none⟩)))
  (q: ∀s1,Ext (MidF D O2) (fun x=>O2≤x) s s1→Q (.agg (u8l d.sum).toArray, .run) s1):W (runF envS n ⟨112,G3,BW,tm,td, .run, .normal,none⟩) s Q:=by
 refine OC_.w hT (by omega) ?_
 simp -implicitDefEqProofs only[Tx,Ad,W_oS,Aa,W_mv,Ac,Bl,h0,B1 MC (by decide:0<1)]
 refine W.load1 Jo hd.n.at' ?_
 have hxa:Ext (MidF D O2) (fun x=>O2≤x) s (s.rdN (D+(0+73))):=Ext.rdN (F:=MidF D O2) s _ fun _=> .inl ⟨by omega,by omega⟩
 have hda:Dig (s.rdN (D+(0+73))) D d:=hd.same rfl rfl
 have hca:Dig (s.rdN (D+(0+73))) C d:=hc.same rfl rfl
 have ho3a:AW (s.rdN (D+(0+73))) O3 0 32:=fun j hj=>let ⟨u,h⟩:=ho3 j hj;⟨u,h.same rfl rfl⟩
 have ho2a:AW (s.rdN (D+(0+73))) O2 0 32:=fun j hj=>let ⟨u,h⟩:=ho2 j hj;⟨u,h.same rfl rfl⟩
 have na:(s.rdN (D+(0+73))).next=s.next:=rfl
 generalize s.rdN (D+(0+73))=sa at hxa hda hca ho3a ho2a na ⊢
 have hm:d.n%64<64:=Nat.mod_lt _ (by decide)
 have e1:wrap64 (119-((d.n%64:Nat):Int))=((119-d.n%64:Nat):Int):=by
  rw[Bj (by omega) (by omega)];omega
 have e2:wrap64 (1+(((119-d.n%64)%64:Nat):Int))=((d.pad0.length:Nat):Int):=by
  rw[Bj (by omega) (by omega),DS.pad0_len];omega
 have hp0:d.pad0.length≤64:=by rw[DS.pad0_len];omega
 simp -implicitDefEqProofs only[BN,DQ,W7,e1,e2]
 have hba:sa.lim≤sa.next:=hxa.bnd hb
 refine W.mkSl (c:=80) EP (by omega) (by decide) fun sb nb xb ob=> ?_
 have hrl:(rep 80 [Value.int .u8 0]).length=80:=by rw[Iz];simp
 have hnew:s.next≤sa.next:=hxa.nxt
 have hxb:Ext (MidF D O2) (fun x=>O2≤x) s sb:=hxa.trans xb hb (fun _ _ h=>h.elim) fun _ _ h=>h.elim
 have hdb:Dig sb D d:=hda.ext0 xb
 have hcb:Dig sb C d:=hca.ext0 xb
 have ho3b:AW sb O3 0 32:=ho3a.ext1 xb fun _ _ h=>h
 have ho2b:AW sb O2 0 32:=ho2a.ext1 xb fun _ _ h=>h
 have hob:AW sb sa.next 0 80:=by
  have:=Af.owned ob
  rw[hrl]at this
  exact this
 have hzb:Af sb sa.next 0 (List.replicate 80 (.int .u8 0)):=by rw[←Iz];exact ob
 clear ob xb hda hca ho3a ho2a
 refine Jz_.w SU_ (by omega) ?_
 simp -implicitDefEqProofs only[Ap_,Ad,W_oS,Aa,W_mv,T.get_set,reduceIte, ↓reduceIte,GP_ A2 (show 0<d.pad0.length by rw[DS.pad0_len];omega)]
 obtain⟨u0,hu0⟩:=hob 0 (by omega)
 refine W.store1 FF rfl hu0 fun sc nc xc oc=> ?_
 have sub: ∀x,In sa.next (0+0*1) 1 x→In sa.next 0 80 x:=fun x h=>⟨by have:=h.1;omega,by have:=h.2;omega⟩
 have up: ∀x,In sa.next 0 80 x→O2≤x:=fun x h=>by have:=h.1;omega
 have nod: ∀b m x,b+m≤s.next→In b 0 m x→ ¬In sa.next 0 80 x:=fun b m x hbm h h'=>by
  have g1:=h.2
  have g2:=h'.1
  omega
 have hxc:Ext (MidF D O2) (fun x=>O2≤x) s sc:=hxb.trans xc hb (fun x _ h=> .inr (up x (sub x h))) fun x _ h=>up x (sub x h)
 have hdc:Dig sc D d:=hdb.ext xc fun x h h'=>nod D 74 x (by omega) h (sub x h')
 have hcc:Dig sc C d:=hcb.ext xc fun x h h'=>nod C 74 x (by omega) h (sub x h')
 have ho3c:AW sc O3 0 32:=ho3b.ext1 xc fun x h h'=>nod O3 32 x (by omega) h (sub x h')
 have ho2c:AW sc O2 0 32:=ho2b.ext1 xc fun x h h'=>nod O2 32 x (by omega) h (sub x h')
 have hwc:AW sc sa.next 0 80:=hob.ext (l:=[.int .u8 128]) xc (Af.cons oc .nil)
 have hpc:Af sc sa.next 0 (u8l d.pad0):=by
  have e:u8l d.pad0= .int .u8 128::List.replicate ((119-d.n%64)%64) (.int .u8 0):=by
   unfold DS.pad0 u8l
   rw[List.map_cons,List.map_replicate]
   rfl
  rw[e]
  refine Af.cons oc fun i v hi=> ?_
  rw[List.getElem?_replicate]at hi
  split at hi
  ·rename_i hlt
   cases hi
   have:=hzb (1+i) (.int .u8 0) (by rw[List.getElem?_replicate,if_pos (by omega)])
   rw[←Nat.add_assoc]at this
   refine this.ext xc fun h=> ?_
   have:=h.2
   omega
  ·cases hi
 clear hob hzb hu0 oc
 have hbc:sc.lim≤sc.next:=hxc.bnd hb
 have hBn:sa.next+80≤sc.next:=by
  have h1:sb.next=sa.next+(rep 80 [Value.int .u8 0]).length+1:=nb
  omega
 refine Ta_.w Qf_ (by omega) ?_
 simp -implicitDefEqProofs only[VP,Aa,W_mv,Ac]
 refine Sd_ (d:=d) (a2:= .pointer (some ⟨O2,0,none⟩)) (a3:= .pointer (some ⟨O3,0,none⟩)) (a4:= .pointer (some ⟨C,0,none⟩)) (by omega) hbc (.inl (show D+74≤sa.next by omega)) hBn 8 _ _ sc _ d.pad0 (Nat.le_refl _) (by omega) Ol_ (Ext.refl sc) hdc hpc hwc (by omega) (by simp[T.get_set,h0]) (by simp[T.get_set,h2]) (by simp[T.get_set,h3]) (by simp[T.get_set,h4]) (by simp[T.get_set]) (by simp[T.get_set]) fun n' tm' sd td' f1 f2 xd hdd hpd t0 t2 t3 t4 t5=> ?_
 have hxd:Ext (MidF D O2) (fun x=>O2≤x) s sd:=hxc.trans xd hb (fun x _ h=>by
  rcases h with h|h
  ·exact .inl h
  ·exact .inr (up x h)) fun x _ h=>up x h
 have hcd:Dig sd C d:=hcc.ext xd fun x h h'=>nod C 74 x (by omega) h h'
 have ho3d:AW sd O3 0 32:=ho3c.ext1 xd fun x h h'=>nod O3 32 x (by omega) h h'
 have ho2d:AW sd O2 0 32:=ho2c.ext1 xd fun x h h'=>nod O2 32 x (by omega) h h'
 have hpl:d.pad.length=d.pad0.length+8:=by unfold DS.pad;rw[List.length_append,ZU]
 rw[←hpl]at t5
 have hpd':Af sd sa.next 0 (u8l d.pad):=hpd
 have hbn:Bn sd (.slice (some ⟨sa.next,0,none⟩) d.pad.length 80) d.pad:=⟨sa.next,0,80,rfl,by rw[Nat.mod_eq_of_lt (BD (by decide))];omega,LM (BD (by decide)),hpd'.row⟩
 have hbd:sd.lim≤sd.next:=hxd.bnd hb
 refine Wa_.w f2 (by omega) ?_
 simp -implicitDefEqProofs only[AC_,Ad,W_on,Aa,W_mv,Al,Ak,Aj,AS,t4,t5]
 refine XR hbd (fun x h h'=>nod C 74 x (by omega) h' ⟨h.1,by have:=h.2;omega⟩) hcd (by omega) (fun _=>hbn) hbn.bs d.pad_byt (by omega) fun se xe he=> ?_
 have hxe:Ext (MidF D O2) (fun x=>O2≤x) s se:=hxd.trans xe hb (fun x _ h=>by
  rcases h with h|h
  ·exact .inr (by have:=h.1;omega)
  ·exact .inr (up x ⟨h.1,by have:=h.2;omega⟩)) fun x _ h=>by have:=h.1;omega
 have ho3e:AW se O3 0 32:=ho3d.ext1 xe fun x h h'=>by have:=h.2;have:=h'.1;omega
 have ho2e:AW se O2 0 32:=ho2d.ext1 xe fun x h h'=>by have:=h.2;have:=h'.1;omega
 have hbe:se.lim≤se.next:=hxe.bnd hb
 refine Fn_ (C:=C) hbe (hxe.cx.trans hcx) h23 he ho3e ho2e (by omega) Sh_ t2 t3 t4 fun sf xf=>q sf (hxe.trans xf hb (fun x _ h=> ?_) fun x _ h=> ?_)
 ·rcases h with h|h|h
  ·exact .inr (by have:=h.1;omega)
  ·exact .inr (by have:=h.1;omega)
  ·exact .inr (by have:=h.1;omega)
 ·rcases h with h|h
  ·have:=h.1;omega
  ·have:=h.1;omega
theorem LO_ {D n:Nat}{d:DS}{s:St}{Q:Value→St→Prop}(hbd:s.lim≤s.next)(hd:Dig s D d)(hmax:d.n≤900000000)(hn:2500≤n)
  (q: ∀s1,Ext (In D 0 74) Non s s1→Q (.agg (u8l d.sum).toArray) s1):W (Au envS (runF envS n) 112 [.pointer (some ⟨D,0,none⟩)]) s Q:=by
 refine PI_ fun tm h0=> ?_
 have hD:D+73<s.next:=by have:=hd.n.1;omega
 have hd0:Dig (s.cxN cxN) D d:=hd.same rfl rfl
 refine PX_.w rfl (by omega) ?_
 simp -implicitDefEqProofs only[SU,Ad,Aa,Ac]
 refine W.alloc Lf fun sa na xa oa=> ?_
 have na':sa.next=s.next+33:=na
 have hxa:Ext (In D 0 74) Non (s.cxN cxN) sa:=(Ext.refl _).step xa hbd (fun _ _ h=>h.elim) fun _ h=>h.elim
 refine Gy_.w Rr_ (by omega) ?_
 simp -implicitDefEqProofs only[XN,Ad,Aa,Ac]
 refine W.alloc Lf fun sb nb xb ob=> ?_
 have nb':sb.next=sa.next+33:=nb
 have hxb:Ext (In D 0 74) Non (s.cxN cxN) sb:=hxa.step xb hbd (fun _ _ h=>h.elim) fun _ h=>h.elim
 have hdb:Dig sb D d:=hd0.ext0 hxb
 have ho2:AW sb s.next 0 32:=(Af.owned oa).ext1 xb fun _ _ h=>h
 have ho3:AW sb sa.next 0 32:=Af.owned ob
 refine IT_.w Jy_ (by omega) ?_
 simp -implicitDefEqProofs only[X9,Ad,W_oS,W_on,Aa,W_mv,Ac,T.get_set,reduceIte,AV,Bc,A0,A6,AU,Bl,reduceCtorEq, ↓reduceIte,h0,UE Ti,B1 Zk (by decide:0<1)]
 refine W.load1 Tl hdb.made.at' ?_
 simp -implicitDefEqProofs only[DE]
 have hxc:Ext (In D 0 74) Non (s.cxN cxN) (sb.rdN (D+(0+0))):=hxb.step (Ext.rdN (F:=In D 0 74) (G:=Non) sb _ fun _=>⟨by omega,by omega⟩) hbd (fun _ _ h=>h) fun _ h=>h.elim
 have hdc:Dig (sb.rdN (D+(0+0))) D d:=hdb.same rfl rfl
 have ho2c:AW (sb.rdN (D+(0+0))) s.next 0 32:=fun j hj=>let ⟨u,h⟩:=ho2 j hj;⟨u,h.same rfl rfl⟩
 have ho3c:AW (sb.rdN (D+(0+0))) sa.next 0 32:=fun j hj=>let ⟨u,h⟩:=ho3 j hj;⟨u,h.same rfl rfl⟩
 have nc:(sb.rdN (D+(0+0))).next=sb.next:=rfl
 refine W.cond (v:=false) JN_ JO_ (by simp[T.get_set]) (by omega) (fun h=>by cases h) fun _=> ?_
 generalize sb.rdN (D+(0+0))=sc at hxc hdc ho2c ho3c nc ⊢
 refine NX_.w Cz_ (by omega) ?_
 simp -implicitDefEqProofs only[UN,Ad,W_oS,Aa,W_mv,Ac,T.get_set,reduceIte,Bl,reduceCtorEq, ↓reduceIte,h0]
 refine W.loadA Uq hdc.toRow.row (d.row_len hd.len) fun sd md nd xd=> ?_
 have hxd:Ext (In D 0 74) Non (s.cxN cxN) sd:=hxc.step xd hbd (fun _ _ h=>h) fun _ h=>h.elim
 refine W.alloc RH_ fun se ne xe oe=> ?_
 have ne':se.next=sd.next+75:=ne
 have hxe:Ext (In D 0 74) Non (s.cxN cxN) se:=hxd.step xe hbd (fun _ _ h=>h.elim) fun _ h=>h.elim
 have hnd:sd.next=sc.next:=nd
 refine W.store Uq (d.row_len hd.len) d.row_one (fun i hi=>oe.owned i (by simp;omega)) fun sf nf xf of=> ?_
 have hnf:sf.next=se.next:=nf
 have hG: ∀x,In sd.next 0 74 x→s.next≤x:=fun x h=>by have:=h.1;omega
 have hxf:Ext (In D 0 74) Non (s.cxN cxN) sf:=hxe.step xf hbd (fun x hx h=>by
  have h1:=hG x h
  have h2:x<s.lim:=hx
  omega) fun x h=>hG x h
 have hbf:sf.lim≤sf.next:=hxf.bnd hbd
 have hcf:Dig sf sd.next d:=Dig.ofRow of hd.len hd.byt hd.ok
 have hdf:Dig sf D d:=hd0.ext0 hxf
 have ho2f:AW sf s.next 0 32:=((ho2c.ext1 xd fun _ _ h=>h).ext1 xe fun _ _ h=>h).ext1 xf fun x h h'=>by
  have:=h.2
  have:=h'.1
  omega
 have ho3f:AW sf sa.next 0 32:=((ho3c.ext1 xd fun _ _ h=>h).ext1 xe fun _ _ h=>h).ext1 xf fun x h h'=>by
  have:=h.2
  have:=h'.1
  omega
 refine LJ_ (D:=D) (C:=sd.next) (O2:=s.next) (O3:=sa.next) (d:=d) hbf hxf.cx hmax (by omega) (by omega) (by omega) (by omega) hdf hcf ho3f ho2f (by omega) GC_ (by simp[T.get_set,h0]) (by simp[T.get_set]) (by simp[T.get_set]) (by simp[T.get_set]) fun sg xg=> ?_
 have hxg:Ext (In D 0 74) Non (s.cxN cxN) sg:=hxf.step xg hbd (fun x hx h=>by
  have h2:x<s.lim:=hx
  rcases h with h|h
  ·exact h
  ·omega) fun x h=>h
 exact q _ hxg.cx'
theorem DS.write_n: ∀(f:Nat) (d:DS) (b:List Nat),b.length≤f→(DS.write f d b).n=d.n+b.length
 |0,d,b,h=>by
  have:b.length=0:=by omega
  unfold DS.write
  omega
 |f+1,d,b,h=>by
  unfold DS.write
  by_cases hb:b.length=0
  ·rw[if_pos hb];omega
  ·rw[if_neg hb]
   obtain⟨hk1,hk2⟩:=d.k_le b
   have hm:d.n%64<64:=Nat.mod_lt _ (by decide)
   have hk0:0<d.k b:=by
    unfold DS.k
    exact Nat.lt_min.2 ⟨by omega,by omega⟩
   rw[DS.write_n f _ _ (by rw[List.length_drop];omega),List.length_drop]
   show d.n+d.k b+(b.length-d.k b)=_
   omega
def sumB (b:List Nat):List Nat:=(DS.write b.length DS.new b).sum
theorem YH (b:List Nat):(sumB b).length=32:=DS.sum_len _
theorem HH_ (b:List Nat):Byt (sumB b):=XJ _
theorem Bs.bn' {s:St}{v:Value}{b:List Nat}(h:Bs s v b)(hb:b≠[]):Bn s v b:=by
 rcases h with⟨_,h⟩|h
 ·exact absurd h hb
 ·exact h
theorem Fc_ {n:Nat}{v:Value}{b:List Nat}{s:St}{Q:Value→St→Prop}(hbd:s.lim≤s.next)(hbs:Bs s v b)(hlt: ∀x,BsF v x→x<s.next)(hby:Byt b)(hmax:b.length≤900000)(hn:20*b.length+2600≤n)
  (q: ∀s1,Ext (BsF v) Non s s1→Q (.agg (u8l (sumB b)).toArray) s1):W (Au envS (runF envS n) 73 [v]) s Q:=by
 refine Dl_ fun tm h0=> ?_
 have hbs0:Bs (s.cxN cxN) v b:=hbs.same rfl rfl
 refine JR_.w rfl (by omega) ?_
 simp -implicitDefEqProofs only[W4,Ad,Aa,Ac]
 refine W.alloc Lf fun sa na xa oa=> ?_
 have na':sa.next=s.next+33:=na
 have hxa:Ext (BsF v) Non (s.cxN cxN) sa:=(Ext.refl _).step xa hbd (fun _ _ h=>h.elim) fun _ h=>h.elim
 refine Mt_.w DH_ (by omega) ?_
 simp -implicitDefEqProofs only[Bq_,Ad,W_on,Aa,W_mv,Ac,Ak,AS]
 refine UH_ (hxa.bnd hbd) (by omega) fun sb D hD1 hD2 xb hd=> ?_
 have hxb:Ext (BsF v) Non (s.cxN cxN) sb:=hxa.step xb hbd (fun _ _ h=>h.elim) fun _ h=>h.elim
 refine Ga_.w Ul_ (by omega) ?_
 simp -implicitDefEqProofs only[VB,Ad,W_on,Aa,W_mv,T.get_set,Al,Ak,Aj,AS,reduceIte,reduceCtorEq, ↓reduceIte,h0]
 have hbsb:Bs sb v b:=hbs0.ext0 hxb
 refine XR (hxb.bnd hbd) (fun x h h'=>by have:=hlt x h;have:=h'.1;omega) hd (show 0+b.length≤1000000000 by omega) (fun h=>hbsb.bn' h) hbsb hby (by omega) fun sc xc hdc=> ?_
 have hG: ∀x,In D 0 74 x→s.next≤x:=fun x h=>by have:=h.1;omega
 have hxc:Ext (BsF v) Non (s.cxN cxN) sc:=hxb.step xc hbd (fun x hx h=>by
  have h2:x<s.lim:=hx
  rcases h with h|h
  ·have:=hG x h;omega
  ·exact h) fun x h=>hG x h
 have hoc:AW sc s.next 0 32:=((Af.owned oa).ext1 xb fun _ _ h=>h).ext1 xc fun x h h'=>by
  have h1:x<s.next+0+32:=h.2
  have:=h'.1
  omega
 refine CY_.w UT_ (by omega) ?_
 simp -implicitDefEqProofs only[XK,Ad,W_oS,W_on,Aa,W_mv,T.get_set,Al,Ak,Aj,AS,reduceIte,Nat.reduceEqDiff, ↓reduceIte]
 refine LO_ (hxc.bnd hbd) hdc (by rw[DS.write_n _ _ _ (Nat.le_refl _)];show 0+b.length≤_;omega) (by omega) fun sd xd=> ?_
 have hxd:Ext (BsF v) Non (s.cxN cxN) sd:=hxc.step xd hbd (fun x hx h=>by
  have h2:x<s.lim:=hx
  have:=hG x h
  omega) fun _ h=>h.elim
 have hod:AW sd s.next 0 32:=hoc.ext1 xd fun _ _ h=>h
 have hlen:(u8l (DS.write b.length DS.new b).sum).length=32:=by rw[A1];exact DS.sum_len _
 refine W.store GS hlen (BT _) hod fun se ne xe oe=> ?_
 have hG2: ∀x,In s.next 0 32 x→s.next≤x:=fun x h=>by have:=h.1;omega
 have hxe:Ext (BsF v) Non (s.cxN cxN) se:=hxd.step xe hbd (fun x hx h=>by
  have h2:x<s.lim:=hx
  have:=hG2 x h
  omega) hG2
 refine W.endC (r:=2) Jv_ (.inl Ms_) (by omega) S2 La_ hxe.cx (by simp[T.get_set];rfl) ?_
 refine W.loadA GS oe.row hlen fun sf mf nf xf=> ?_
 have hxf:Ext (BsF v) Non (s.cxN cxN) sf:=hxe.step xf hbd (fun x hx h=>by
  have h2:x<s.lim:=hx
  have:=hG2 x h
  omega) fun _ h=>h.elim
 exact q _ hxf.cx'
theorem Oa {E:Env}{t n sz l c:Nat}{a:Addr}{s:St}(h:arrN E t=some (n,sz))(h1:n≤l)(h2:0<l)(Q:Value→St→Prop):W (Dl E t (.slice (some a) l c)) s Q=Q (.pointer (some a)) s:=by
 obtain⟨i,e,ie,g1,g2,g3,g4⟩:=YI h
 refine Bb ?_
 unfold Dl
 rw[Bp (show ti E t s= .some i s by unfold ti;rw[g1];rfl),g2]
 show M.chk (Nat.ble n l&&Nat.blt 0 l) (M.pure (Value.pointer (some a))) s=_
 rw[Nat.ble_eq_true_of_le h1,B2 h2]
 rfl
theorem Xs:arrN envS 26=some (16,1):=by kernel_rfl
theorem BR:tyS envS 26=some (16,true):=by kernel_rfl
theorem DI:DP envS 26=some (List.replicate 16 (.int .u8 0)):=by kernel_rfl
def idB (b:List Nat):List Nat:=(sumB b).take 16
theorem B3 (b:List Nat):(idB b).length=16:=by unfold idB;rw[List.length_take,YH];rfl
theorem TS (b:List Nat):Byt (idB b):=fun x hx=>HH_ b x (List.mem_of_mem_take hx)
theorem Vs {n:Nat}{v:Value}{b:List Nat}{s:St}{Q:Value→St→Prop}(hbd:s.lim≤s.next)(hbs:Bs s v b)(hlt: ∀x,BsF v x→x<s.next)(hby:Byt b)(hmax:b.length≤900000)(hn:20*b.length+2700≤n)
  (q: ∀s1,Ext (BsF v) Non s s1→Q (.agg (u8l (idB b)).toArray) s1):W (Au envS (runF envS n) 32 [v]) s Q:=by
 refine VX_ fun tm h0=> ?_
 have hbs0:Bs (s.cxN cxN) v b:=hbs.same rfl rfl
 refine Kd_.w rfl (by omega) ?_
 simp -implicitDefEqProofs only[YT,Ad,Aa,Ac]
 refine W.alloc DI fun sa na xa oa=> ?_
 have na':sa.next=s.next+17:=na
 have hxa:Ext (BsF v) Non (s.cxN cxN) sa:=(Ext.refl _).step xa hbd (fun _ _ h=>h.elim) fun _ h=>h.elim
 refine Fl_.w Hv_ (by omega) ?_
 simp -implicitDefEqProofs only[Wn,Ad,W_oS,W_on,Aa,W_mv,Ac,T.get_set,Al,Ak,Aj,AS,reduceIte,reduceCtorEq, ↓reduceIte,h0]
 refine Fc_ (hxa.bnd hbd) (hbs0.ext0 hxa) (fun x h=>by have:=hlt x h;omega) hby hmax (by omega) fun sb xb=> ?_
 have hxb:Ext (BsF v) Non (s.cxN cxN) sb:=hxa.step xb hbd (fun _ _ h=>h) fun _ h=>h.elim
 refine W.alloc Lf fun sc nc xc oc=> ?_
 have hxc:Ext (BsF v) Non (s.cxN cxN) sc:=hxb.step xc hbd (fun _ _ h=>h.elim) fun _ h=>h.elim
 have hbn:sa.next≤sb.next:=xb.nxt
 have hlen:(u8l (sumB b)).length=32:=by rw[A1];exact YH _
 refine W.store GS hlen (BT _) (fun i hi=>oc.owned i (by simp;omega)) fun sd nd xd od=> ?_
 have hG: ∀x,In sb.next 0 32 x→s.next≤x:=fun x h=>by have:=h.1;omega
 have hxd:Ext (BsF v) Non (s.cxN cxN) sd:=hxc.step xd hbd (fun x hx h=>by
  have h2:x<s.lim:=hx
  have:=hG x h
  omega) hG
 have ho2:AW sd s.next 0 16:=(((Af.owned oa).ext1 xb fun _ _ h=>h).ext1 xc fun _ _ h=>h).ext1 xd fun x h h'=>by
  have h1:x<s.next+0+16:=h.2
  have:=h'.1
  omega
 refine Il_.w Ty_ (by omega) ?_
 simp -implicitDefEqProofs only[ZK,Ad,W_oS,W_on,Aa,T.get_set,Aj,reduceIte,Nat.reduceEqDiff, ↓reduceIte]
 simp -implicitDefEqProofs only[GM (lo:=none) (hi:=some (.int .i64 16)) (l:=0) (h:=16) Bl_ (BD (by decide)) rfl rfl (Nat.zero_le _) (by decide),Oa Xs (show 16≤16-0 by decide) (by decide),reduceIte,reduceCtorEq, ↓reduceIte]
 have hlen2:(u8l (idB b)).length=16:=by rw[A1];exact B3 _
 have hod:Af sd sb.next 0 (u8l (idB b)):=by
  have:=od.take (n:=16)
  show Af sd sb.next 0 (u8l ((sumB b).take 16))
  unfold u8l
  rw[List.map_take]
  exact this
 refine W.loadA BR hod.row hlen2 fun se me ne xe=> ?_
 have hxe:Ext (BsF v) Non (s.cxN cxN) se:=hxd.step xe hbd (fun x hx h=>by
  have h2:x<s.lim:=hx
  have h3:sb.next+(0+0*1)≤x:=h.1
  omega) fun _ h=>h.elim
 have ho2e:AW se s.next 0 16:=ho2.ext1 xe fun _ _ h=>h
 refine W.store BR hlen2 (BT _) ho2e fun sf nf xf of=> ?_
 have hG2: ∀x,In s.next 0 16 x→s.next≤x:=fun x h=>by have:=h.1;omega
 have hxf:Ext (BsF v) Non (s.cxN cxN) sf:=hxe.step xf hbd (fun x hx h=>by
  have h2:x<s.lim:=hx
  have:=hG2 x h
  omega) hG2
 refine W.endC (r:=2) Qt_ (.inl Qp_) (by omega) Wh HA_ hxf.cx (by simp[T.get_set];rfl) ?_
 refine W.loadA BR of.row hlen2 fun sg mg ng xg=> ?_
 have hxg:Ext (BsF v) Non (s.cxN cxN) sg:=hxf.step xg hbd (fun x hx h=>by
  have h2:x<s.lim:=hx
  have:=hG2 x h
  omega) fun _ h=>h.elim
 exact q _ hxg.cx'
def I8:Nat:=BB Try.f20
def UT:Code:=Try.f20.body.getD .skip
theorem Lg:envS.fn.get 20=some Try.f20:=by kernel_rfl
theorem Ot_ {a0:Value}{n:Nat}{s:St}{Q:Value→St→Prop}(h: ∀tm,T.get tm 0=some a0→W (runF envS n ⟨20,11,I8,tm,[.code UT], .run, .normal,none⟩) (s.cxN cxN) fun p s1=>Q p.1 (s1.cxN s.cx)):W (Au envS (runF envS n) 20 [a0]) s Q:=
 W.call (by kernel_rfl) (by kernel_rfl) Lg (by kernel_rfl) rfl rfl (by simp) (h _ (by kernel_rfl))
theorem RH:Try.f20.results.toList=[.tmp 2]:=by kernel_rfl
def Ps:List Item:=skim 64 [.code UT]
def Md:List Item:=skim 64 Ps.tail
theorem KZ_:skim 64 Ps.tail=Md:=by kernel_rfl
def Hw:List Item:=skim 64 Md.tail
theorem PH:skim 64 Md.tail=Hw:=by kernel_rfl
def MI:List Item:=skim 64 (brT Hw)
theorem VV:skim 64 (brT Hw)=MI:=by kernel_rfl
def Mt:List Item:=skim 64 (brF Hw)
theorem Fr_:skim 64 (brF Hw)=Mt:=by kernel_rfl
def PL:List Item:=skim 64 MI.tail
theorem BU_:skim 64 MI.tail=PL:=by kernel_rfl
def N4:List Item:=skim 64 Mt.tail
theorem LR_:skim 64 Mt.tail=N4:=by kernel_rfl
def Vu (E:Env)(call round:Ab)(tm:T Value):M (T Value):=
 mv (some (.int .i64 0)) fun v2=>
 setF 2 v2 tm fun tm1=>
 M.pure tm1
theorem NA_:RegEq 20 11 I8 Ps Vu:=⟨by kernel_rfl,fun _ _ _ _ _ _ _ _ _=>by kernel_rfl⟩
def TR (E:Env)(call round:Ab)(tm:T Value):M (T Value):=
 mv (T.get tm 0) fun v3=>
 M.bind (oS (some v3) fun a=>oS (some (.int .i64 1)) fun b=>Cl.get (aBin E .lss 3 (.tmp 3) (.const (.int .i64 1))) a b) fun v4=>
 mv (some v4) fun v5=>
 M.bind (M.chk (isK v5) (M.if (isB v5 false) (oS (T.get tm 0) fun a=>M.pure a) (M.pure undef))) fun v6=>
 M.bind (M.chk (isK v5) (M.if (isB v5 false) (oS (some v6) fun a=>oS (some (.int .i64 1024)) fun b=>Cl.get (aBin E .gtr 3 (.tmp 6) (.const (.int .i64 1024))) a b) (M.pure undef))) fun v7=>
 M.bind (M.on (some v5) fun a=>M.on (some (.bool true)) fun b=>M.on (some v7) fun c=>BJ a b c) fun v8=>
 setF 8 v8 tm fun tm1=>
 M.pure tm1
theorem QW_:RegEq 20 11 I8 Md TR:=⟨by kernel_rfl,fun _ _ _ _ _ _ _ _ _=>by kernel_rfl⟩
theorem SF:Ba Hw=some 8:=by kernel_rfl
def Qf (E:Env)(call round:Ab)(tm:T Value):M (T Value):=
 mv (some (.int .i64 0)) fun v2=>
 setF 2 v2 tm fun tm1=>
 M.pure tm1
theorem Y2:RegEq 20 11 I8 MI Qf:=⟨by kernel_rfl,fun _ _ _ _ _ _ _ _ _=>by kernel_rfl⟩
def TO (E:Env)(call round:Ab)(tm:T Value):M (T Value):=
 mv (T.get tm 0) fun v9=>
 M.bind (oS (some v9) fun a=>oS (some (.int .i64 26)) fun b=>Cl.get (aBin E .add 3 (.tmp 9) (.const (.int .i64 26))) a b) fun v10=>
 mv (some v10) fun v2=>
 setF 2 v2 tm fun tm1=>
 M.pure tm1
theorem Vz_:RegEq 20 11 I8 Mt TO:=⟨by kernel_rfl,fun _ _ _ _ _ _ _ _ _=>by kernel_rfl⟩
theorem UO: ∃k,PL= .code .ret::k:=⟨PL.tail,by kernel_rfl⟩
theorem KA_: ∃k,N4= .code .ret::k:=⟨N4.tail,by kernel_rfl⟩
def Ib:Nat:=BB Try.f62
def Wa:Code:=Try.f62.body.getD .skip
theorem BV_:envS.fn.get 62=some Try.f62:=by kernel_rfl
theorem Sq_ {a0:Value}{n:Nat}{s:St}{Q:Value→St→Prop}(h: ∀tm,T.get tm 0=some a0→W (runF envS n ⟨62,31,Ib,tm,[.code Wa], .run, .normal,none⟩) (s.cxN cxN) fun p s1=>Q p.1 (s1.cxN s.cx)):W (Au envS (runF envS n) 62 [a0]) s Q:=
 W.call (by kernel_rfl) (by kernel_rfl) BV_ (by kernel_rfl) rfl rfl (by simp) (h _ (by kernel_rfl))
theorem JK_:Try.f62.results.toList=[.cell 2 89]:=by kernel_rfl
def Pk:List Item:=skim 64 [.code Wa]
def Kr:List Item:=skim 64 Pk.tail
theorem Qy_:skim 64 Pk.tail=Kr:=by kernel_rfl
def M6:List Item:=skim 64 Kr.tail
theorem LE_:skim 64 Kr.tail=M6:=by kernel_rfl
def Kv:List Item:=skim 64 M6.tail
theorem Dh_:skim 64 M6.tail=Kv:=by kernel_rfl
def Rl:List Item:=skim 64 Kv.tail
theorem Kh_:skim 64 Kv.tail=Rl:=by kernel_rfl
def BO_ (E:Env)(call round:Ab)(tm:T Value):M (T Value):=
 M.bind (BF E 89) fun v2=>
 setF 2 v2 tm fun tm1=>
 M.pure tm1
theorem Fw_:RegEq 62 31 Ib Pk BO_:=⟨by kernel_rfl,fun _ _ _ _ _ _ _ _ _=>by kernel_rfl⟩
def Z9 (E:Env)(call round:Ab)(tm:T Value):M (T Value):=
 mv (T.get tm 0) fun v6=>
 M.bind (oS (some v6) fun a=>oS (some (.int .u64 8)) fun b=>Cl.get (aBin E .shr 3 (.tmp 6) (.const (.int .u64 8))) a b) fun v7=>
 M.bind (oS (some v7) fun a=>BV E 3 5 a) fun v8=>
 mv (T.get tm 0) fun v9=>
 M.bind (oS (some v9) fun a=>BV E 3 5 a) fun v10=>
 mv (some v8) fun v3=>
 setF 3 v3 tm fun tm1=>
 mv (some v10) fun v4=>
 setF 4 v4 tm1 fun tm2=>
 M.pure tm2
theorem It_:RegEq 62 31 Ib Kr Z9:=⟨by kernel_rfl,fun _ _ _ _ _ _ _ _ _=>by kernel_rfl⟩
def WV (E:Env)(call round:Ab)(tm:T Value):M (T Value):=
 mv (T.get tm 3) fun v11=>
 mv (T.get tm 4) fun v12=>
 mv (T.get tm 3) fun v13=>
 M.bind (oS (some v13) fun a=>kUn E.P .xor a) fun v14=>
 mv (T.get tm 4) fun v15=>
 M.bind (oS (some v15) fun a=>kUn E.P .xor a) fun v16=>
 M.bind (oS (seqP [(0,(some v11)),(1,(some v12)),(2,(some v14)),(3,(some v16))]) fun ps=>Cf E 22 4 ps) fun v17=>
 M.bind (M.on (some (.func (.func 105) #[] #[])) fun f=>M.on (seqO [(some v17)]) fun l=>AZ call round f l) fun v18=>
 mv (some v18) fun v5=>
 setF 5 v5 tm fun tm1=>
 M.pure tm1
theorem HI_:RegEq 62 31 Ib M6 WV:=⟨by kernel_rfl,fun _ _ _ _ _ _ _ _ _=>by kernel_rfl⟩
def Tq (E:Env)(call round:Ab)(tm:T Value):M (T Value):=
 mv (T.get tm 3) fun v19=>
 mv (T.get tm 4) fun v20=>
 mv (T.get tm 3) fun v21=>
 M.bind (oS (some v21) fun a=>kUn E.P .xor a) fun v22=>
 mv (T.get tm 4) fun v23=>
 M.bind (oS (some v23) fun a=>kUn E.P .xor a) fun v24=>
 mv (T.get tm 5) fun v25=>
 M.bind (oS (some v25) fun a=>BV E 51 5 a) fun v26=>
 mv (T.get tm 5) fun v27=>
 M.bind (oS (some v27) fun a=>oS (some (.int .u64 8)) fun b=>Cl.get (aBin E .shr 51 (.tmp 27) (.const (.int .u64 8))) a b) fun v28=>
 M.bind (oS (some v28) fun a=>BV E 51 5 a) fun v29=>
 M.bind (oS (seqP [(0,(some v19)),(1,(some v20)),(2,(some v22)),(3,(some v24)),(4,(some v26)),(5,(some v29))]) fun ps=>Cc E 89 ps) fun v30=>
 M.bind (oS (T.get tm 2) fun a=>oS (some v30) fun b=>A5 E 89 a b) fun _=>
 M.pure tm
theorem NW_:RegEq 62 31 Ib Kv Tq:=⟨by kernel_rfl,fun _ _ _ _ _ _ _ _ _=>by kernel_rfl⟩
theorem Gw_: ∃k,Rl= .code .ret::k:=⟨Rl.tail,by kernel_rfl⟩
def Ep:Nat:=BB Try.f71
abbrev SA_:Nat:=45
def XU:Code:=Try.f71.body.getD .skip
theorem J0:envS.fn.get 71=some Try.f71:=by kernel_rfl
theorem ZR {a0 a1:Value}{n:Nat}{s:St}{Q:Value→St→Prop}(h: ∀tm,T.get tm 0=some a0→T.get tm 1=some a1→W (runF envS n ⟨71,45,Ep,tm,[.code XU], .run, .normal,none⟩) (s.cxN cxN) fun p s1=>Q p.1 (s1.cxN s.cx)):W (Au envS (runF envS n) 71 [a0,a1]) s Q:=
 W.call (by kernel_rfl) (by kernel_rfl) J0 (by kernel_rfl) rfl rfl (by simp) (h _ (by kernel_rfl) (by kernel_rfl))
theorem Qw:Try.f71.results.toList=[.tmp 4, .tmp 5]:=by kernel_rfl
def Rv:List Item:=skim 64 [.code XU]
def NP:List Item:=skim 64 Rv.tail
theorem Zv:skim 64 Rv.tail=NP:=by kernel_rfl
def HU:List Item:=skim 64 NP.tail
theorem Us:skim 64 NP.tail=HU:=by kernel_rfl
def Ka:List Item:=skim 64 (brT HU)
theorem IX_:skim 64 (brT HU)=Ka:=by kernel_rfl
def Io:List Item:=skim 64 (brF HU)
theorem SK_:skim 64 (brF HU)=Io:=by kernel_rfl
def Qi:List Item:=skim 64 Ka.tail
theorem Gk_:skim 64 Ka.tail=Qi:=by kernel_rfl
def HA:List Item:=skim 64 Io.tail
theorem OV_:skim 64 Io.tail=HA:=by kernel_rfl
def Sb:List Item:=skim 64 HA.tail
theorem YK:skim 64 HA.tail=Sb:=by kernel_rfl
def Px (E:Env)(call round:Ab)(tm:T Value):M (T Value):=
 mv (some (.int .i64 0)) fun v4=>
 setF 4 v4 tm fun tm1=>
 mv (some (.bool false)) fun v5=>
 setF 5 v5 tm1 fun tm2=>
 M.pure tm2
theorem Cv_:RegEq 71 45 Ep Rv Px:=⟨by kernel_rfl,fun _ _ _ _ _ _ _ _ _=>by kernel_rfl⟩
def RE (E:Env)(call round:Ab)(tm:T Value):M (T Value):=
 mv (T.get tm 1) fun v7=>
 M.bind (oS (some v7) fun a=>oS (some (.int .i64 0)) fun b=>Cl.get (aBin E .lss 3 (.tmp 7) (.const (.int .i64 0))) a b) fun v8=>
 mv (some v8) fun v9=>
 M.bind (M.chk (isK v9) (M.if (isB v9 false) (oS (T.get tm 1) fun a=>M.pure a) (M.pure undef))) fun v10=>
 M.bind (M.chk (isK v9) (M.if (isB v9 false) (oS (T.get tm 0) fun a=>M.pure a) (M.pure undef))) fun v11=>
 M.bind (M.chk (isK v9) (M.if (isB v9 false) (oS (seqO [(some v11)]) fun l=>AT E .len [22] l) (M.pure undef))) fun v12=>
 M.bind (M.chk (isK v9) (M.if (isB v9 false) (oS (some v12) fun a=>oS (some (.int .i64 6)) fun b=>Cl.get (aBin E .sub 3 (.tmp 12) (.const (.int .i64 6))) a b) (M.pure undef))) fun v13=>
 M.bind (M.chk (isK v9) (M.if (isB v9 false) (oS (some v10) fun a=>oS (some v13) fun b=>Cl.get (aBin E .gtr 3 (.tmp 10) (.tmp 13)) a b) (M.pure undef))) fun v14=>
 M.bind (M.on (some v9) fun a=>M.on (some (.bool true)) fun b=>M.on (some v14) fun c=>BJ a b c) fun v15=>
 setF 15 v15 tm fun tm1=>
 M.pure tm1
theorem AI_:RegEq 71 45 Ep NP RE:=⟨by kernel_rfl,fun _ _ _ _ _ _ _ _ _=>by kernel_rfl⟩
theorem AG_:Ba HU=some 15:=by kernel_rfl
def UP (E:Env)(call round:Ab)(tm:T Value):M (T Value):=
 mv (some (.int .i64 0)) fun v4=>
 setF 4 v4 tm fun tm1=>
 mv (some (.bool false)) fun v5=>
 setF 5 v5 tm1 fun tm2=>
 M.pure tm2
theorem JB_:RegEq 71 45 Ep Ka UP:=⟨by kernel_rfl,fun _ _ _ _ _ _ _ _ _=>by kernel_rfl⟩
def AV_ (E:Env)(call round:Ab)(tm:T Value):M ((Rho×T Value)×List OpLog):=
 M.bind (apartO (oS (T.get tm 0) fun a=>M.pure a)) fun p0=>
 M.bind (apartO (oS (T.get tm 1) fun a=>M.pure a)) fun p1=>
 M.bind (apartO (oS (some p0.1) fun a=>oS (some p1.1) fun b=>BM E 22 a b)) fun p2=>
 M.bind (apartO (oS (some p2.1) fun a=>AQ E 5 a)) fun p3=>
 M.bind (apartO (oS (some p3.1) fun a=>BV E 5 3 a)) fun p4=>
 M.bind (apartO (oS (some p4.1) fun a=>oS (some (.int .u64 8)) fun b=>Cl.get (aBin E .shl 3 (.tmp 20) (.const (.int .u64 8))) a b)) fun p5=>
 M.bind (apartO (oS (T.get tm 0) fun a=>M.pure a)) fun p6=>
 M.bind (apartO (oS (T.get tm 1) fun a=>M.pure a)) fun p7=>
 M.bind (apartO (oS (some p7.1) fun a=>oS (some (.int .i64 1)) fun b=>Cl.get (aBin E .add 3 (.tmp 23) (.const (.int .i64 1))) a b)) fun p8=>
 M.bind (apartO (oS (some p6.1) fun a=>oS (some p8.1) fun b=>BM E 22 a b)) fun p9=>
 M.bind (apartO (oS (some p9.1) fun a=>AQ E 5 a)) fun p10=>
 M.bind (apartO (oS (some p10.1) fun a=>BV E 5 3 a)) fun p11=>
 M.bind (apartO (oS (some p5.1) fun a=>oS (some p11.1) fun b=>Cl.get (aBin E .or 3 (.tmp 21) (.tmp 27)) a b)) fun p12=>
 M.pure (([p12.1,p11.1,p10.1,p9.1,p8.1,p7.1,p6.1,p5.1,p4.1,p3.1,p2.1,p1.1,p0.1],tm),[p12.2,p11.2,p10.2,p9.2,p8.2,p7.2,p6.2,p5.2,p4.2,p3.2,p2.2,p1.2,p0.2])
theorem Kc_:DrawEq 71 45 Ep Io [0,0,3,7,15,31,0,0,128,448,960,1984,4095,8191] AV_:=⟨by kernel_rfl,by kernel_rfl,fun _ _ _ _ _ _ _ _ _=>by kernel_rfl⟩
theorem HT_ (E:Env)(call round:Ab)(x16 x17 x18 x19 x20 x21 x22 x23 x24 x25 x26 x27 x28:Value)(tm:T Value)(s:St):BG call round (Cs E Ep 45 (hdC Io)) [x28,x27,x26,x25,x24,x23,x22,x21,x20,x19,x18,x17,x16] tm s=(M.bind (oS (some x28) fun a=>M.pure a) fun v6=>setT 6 v6 tm fun tm1=>M.pure tm1) s:=by kernel_rfl
theorem JU_: ∃k,Qi= .code .ret::k:=⟨Qi.tail,by kernel_rfl⟩
def TX (E:Env)(call round:Ab)(tm:T Value):M ((Rho×T Value)×List OpLog):=
 M.bind (apartO (oS (T.get tm 6) fun a=>M.pure a)) fun p0=>
 M.bind (apartO (oS (T.get tm 6) fun a=>M.pure a)) fun p1=>
 M.bind (apartO (M.on (some (.func (.func 20) #[] #[])) fun f=>M.on (seqO [(some p1.1)]) fun l=>AZ call round f l)) fun p2=>
 M.bind (apartO (oS (some p2.1) fun a=>oS (some (.int .i64 0)) fun b=>Cl.get (aBin E .gtr 3 (.tmp 31) (.const (.int .i64 0))) a b)) fun p3=>
 M.bind (apartO (oS (some p3.1) fun a=>M.pure a)) fun p4=>
 M.bind (apartO (M.chk (isK p4.1) (M.if (isB p4.1 true) (oS (T.get tm 0) fun a=>M.pure a) (M.pure undef)))) fun p5=>
 M.bind (apartO (M.chk (isK p4.1) (M.if (isB p4.1 true) (oS (T.get tm 1) fun a=>M.pure a) (M.pure undef)))) fun p6=>
 M.bind (apartO (M.chk (isK p4.1) (M.if (isB p4.1 true) (oS (T.get tm 1) fun a=>M.pure a) (M.pure undef)))) fun p7=>
 M.bind (apartO (M.chk (isK p4.1) (M.if (isB p4.1 true) (oS (some p7.1) fun a=>oS (some (.int .i64 6)) fun b=>Cl.get (aBin E .add 3 (.tmp 36) (.const (.int .i64 6))) a b) (M.pure undef)))) fun p8=>
 M.bind (apartO (M.chk (isK p4.1) (M.if (isB p4.1 true) (M.on (some p5.1) fun a=>M.on (onO (some p6.1) fun v=>some (some v)) fun b=>M.on (onO (some p8.1) fun v=>some (some v)) fun c=>BE E 22 a b c) (M.pure undef)))) fun p9=>
 M.bind (apartO (M.chk (isK p4.1) (M.if (isB p4.1 true) (oS (some p9.1) fun a=>Dl E 89 a) (M.pure undef)))) fun p10=>
 M.bind (apartO (M.chk (isK p4.1) (M.if (isB p4.1 true) (oS (some p10.1) fun a=>AQ E 89 a) (M.pure undef)))) fun p11=>
 M.bind (apartO (M.chk (isK p4.1) (M.if (isB p4.1 true) (oS (T.get tm 6) fun a=>M.pure a) (M.pure undef)))) fun p12=>
 M.bind (apartO (M.chk (isK p4.1) (M.if (isB p4.1 true) (M.on (some (.func (.func 62) #[] #[])) fun f=>M.on (seqO [(some p12.1)]) fun l=>AZ call round f l) (M.pure undef)))) fun p13=>
 M.bind (apartO (M.chk (isK p4.1) (M.if (isB p4.1 true) (oS (some p11.1) fun a=>oS (some p13.1) fun b=>Cl.get (aBin E .eql 89 (.tmp 40) (.tmp 42)) a b) (M.pure undef)))) fun p14=>
 M.bind (apartO (M.on (some p4.1) fun a=>M.on (some p14.1) fun b=>M.on (some (.bool false)) fun c=>BJ a b c)) fun p15=>
 M.bind (apartO (oS (some p0.1) fun a=>M.pure a)) fun p16=>
 setT 4 p16.1 tm fun tm1=>
 M.pure (([p16.1,p15.1,p14.1,p13.1,p12.1,p11.1,p10.1,p9.1,p8.1,p7.1,p6.1,p5.1,p4.1,p3.1,p2.1,p1.1,p0.1],tm1),[p16.2,p15.2,p14.2,p13.2,p12.2,p11.2,p10.2,p9.2,p8.2,p7.2,p6.2,p5.2,p4.2,p3.2,p2.2,p1.2,p0.2])
theorem Ro_:DrawEq 71 45 Ep HA [0,0,2,6,14,30,30,30,158,510,1022,2046,30,4126,16382,32766,12319,131071] TX:=⟨by kernel_rfl,by kernel_rfl,fun _ _ _ _ _ _ _ _ _=>by kernel_rfl⟩
theorem Xt (E:Env)(call round:Ab)(x29 x30 x31 x32 x33 x34 x35 x36 x37 x38 x39 x40 x41 x42 x43 x44 x4:Value)(tm:T Value)(s:St):BG call round (Cs E Ep 45 (hdC HA)) [x4,x44,x43,x42,x41,x40,x39,x38,x37,x36,x35,x34,x33,x32,x31,x30,x29] tm s=(M.bind (oS (some x44) fun a=>M.pure a) fun v5=>setT 5 v5 tm fun tm1=>M.pure tm1) s:=by kernel_rfl
theorem T5: ∃k,Sb= .code .ret::k:=⟨Sb.tail,by kernel_rfl⟩
def DT:Nat:=BB Try.f72
abbrev Zc:Nat:=39
def UG:Code:=Try.f72.body.getD .skip
theorem N5:envS.fn.get 72=some Try.f72:=by kernel_rfl
theorem UK_ {a0 a1 a2:Value}{n:Nat}{s:St}{Q:Value→St→Prop}(h: ∀tm,T.get tm 0=some a0→T.get tm 1=some a1→T.get tm 2=some a2→W (runF envS n ⟨72,39,DT,tm,[.code UG], .run, .normal,none⟩) (s.cxN cxN) fun p s1=>Q p.1 (s1.cxN s.cx)):W (Au envS (runF envS n) 72 [a0,a1,a2]) s Q:=
 W.call (by kernel_rfl) (by kernel_rfl) N5 (by kernel_rfl) rfl rfl (by simp) (h _ (by kernel_rfl) (by kernel_rfl) (by kernel_rfl))
theorem Wd:Try.f72.results.toList=[.cell 6 26, .tmp 7, .tmp 8]:=by kernel_rfl
def OZ:List Item:=skim 64 [.code UG]
def LX:List Item:=skim 64 OZ.tail
theorem Fd_:skim 64 OZ.tail=LX:=by kernel_rfl
def JY:List Item:=skim 64 LX.tail
theorem Yy:skim 64 LX.tail=JY:=by kernel_rfl
def Gj:List Item:=skim 64 JY.tail
theorem S6:skim 64 JY.tail=Gj:=by kernel_rfl
def Lo:List Item:=skim 64 (brT Gj)
theorem JF_:skim 64 (brT Gj)=Lo:=by kernel_rfl
def Nt:List Item:=skim 64 (brF Gj)
theorem Lu_:skim 64 (brF Gj)=Nt:=by kernel_rfl
def Q8:List Item:=skim 64 Lo.tail
theorem TK_:skim 64 Lo.tail=Q8:=by kernel_rfl
def GJ:List Item:=skim 64 Nt.tail
theorem Iv_:skim 64 Nt.tail=GJ:=by kernel_rfl
def J6:List Item:=skim 64 GJ.tail
theorem OQ_:skim 64 GJ.tail=J6:=by kernel_rfl
def ZT (E:Env)(call round:Ab)(tm:T Value):M (T Value):=
 M.bind (BF E 26) fun v6=>
 setF 6 v6 tm fun tm1=>
 mv (some (.slice none 0 0)) fun v7=>
 setF 7 v7 tm1 fun tm2=>
 mv (some (.bool false)) fun v8=>
 setF 8 v8 tm2 fun tm3=>
 M.pure tm3
theorem FV_:RegEq 72 39 DT OZ ZT:=⟨by kernel_rfl,fun _ _ _ _ _ _ _ _ _=>by kernel_rfl⟩
def Zu (E:Env)(call round:Ab)(tm:T Value):M (T Value):=
 mv (T.get tm 0) fun v13=>
 mv (T.get tm 1) fun v14=>
 M.bind (oS (some v14) fun a=>oS (some (.int .i64 6)) fun b=>Cl.get (aBin E .add 3 (.tmp 14) (.const (.int .i64 6))) a b) fun v15=>
 mv (T.get tm 1) fun v16=>
 mv (T.get tm 2) fun v17=>
 M.bind (M.on (some (.func (.func 20) #[] #[])) fun f=>M.on (seqO [(some v17)]) fun l=>AZ call round f l) fun v18=>
 M.bind (oS (some v16) fun a=>oS (some v18) fun b=>Cl.get (aBin E .add 3 (.tmp 16) (.tmp 18)) a b) fun v19=>
 M.bind (M.on (some v13) fun a=>M.on (onO (some v15) fun v=>some (some v)) fun b=>M.on (onO (some v19) fun v=>some (some v)) fun c=>BE E 22 a b c) fun v20=>
 M.bind (M.on (some (.func (.func 81) #[] #[])) fun f=>M.on (seqO [(some v20)]) fun l=>AZ call round f l) fun v21=>
 mv (some v21) fun v12=>
 M.bind (oS (some v12) fun a=>kExt 0 a) fun v22=>
 M.bind (oS (some v12) fun a=>kExt 1 a) fun v23=>
 mv (some v22) fun v9=>
 setF 9 v9 tm fun tm1=>
 mv (some v23) fun v10=>
 setF 10 v10 tm1 fun tm2=>
 M.pure tm2
theorem Sf_:RegEq 72 39 DT LX Zu:=⟨by kernel_rfl,fun _ _ _ _ _ _ _ _ _=>by kernel_rfl⟩
def RK (E:Env)(call round:Ab)(tm:T Value):M (T Value):=
 mv (T.get tm 10) fun v24=>
 M.bind (oS (some v24) fun a=>oS (some (.int .i64 0)) fun b=>Cl.get (aBin E .neq 27 (.tmp 24) (.const (.int .i64 0))) a b) fun v25=>
 setF 25 v25 tm fun tm1=>
 M.pure tm1
theorem Uc:RegEq 72 39 DT JY RK:=⟨by kernel_rfl,fun _ _ _ _ _ _ _ _ _=>by kernel_rfl⟩
theorem Zt:Ba Gj=some 25:=by kernel_rfl
def V4 (E:Env)(call round:Ab)(tm:T Value):M (T Value):=
 M.bind (oS (seqP []) fun ps=>Cc E 26 ps) fun v26=>
 M.bind (oS (T.get tm 6) fun a=>oS (some v26) fun b=>A5 E 26 a b) fun _=>
 mv (some (.slice none 0 0)) fun v7=>
 setF 7 v7 tm fun tm1=>
 mv (some (.bool false)) fun v8=>
 setF 8 v8 tm1 fun tm2=>
 M.pure tm2
theorem CB_:RegEq 72 39 DT Lo V4:=⟨by kernel_rfl,fun _ _ _ _ _ _ _ _ _=>by kernel_rfl⟩
def VC (E:Env)(call round:Ab)(tm:T Value):M (T Value):=
 mv (T.get tm 9) fun v27=>
 M.bind (M.on (some v27) fun a=>M.on (some none) fun b=>M.on (onO (some (.int .i64 16)) fun v=>some (some v)) fun c=>BE E 22 a b c) fun v28=>
 M.bind (oS (some v28) fun a=>Dl E 26 a) fun v29=>
 M.bind (oS (some v29) fun a=>AQ E 26 a) fun v30=>
 M.bind (BF E 26) fun v11=>
 setF 11 v11 tm fun tm1=>
 M.bind (oS (some v11) fun a=>oS (some v30) fun b=>A5 E 26 a b) fun _=>
 M.pure tm1
theorem Vo_:RegEq 72 39 DT Nt VC:=⟨by kernel_rfl,fun _ _ _ _ _ _ _ _ _=>by kernel_rfl⟩
theorem WG_: ∃k,Q8= .code .ret::k:=⟨Q8.tail,by kernel_rfl⟩
def XC (E:Env)(call round:Ab)(tm:T Value):M ((Rho×T Value)×List OpLog):=
 M.bind (apartO (oS (T.get tm 11) fun a=>AQ E 26 a)) fun p0=>
 M.bind (apartO (oS (T.get tm 9) fun a=>M.pure a)) fun p1=>
 M.bind (apartO (M.on (some p1.1) fun a=>M.on (onO (some (.int .i64 16)) fun v=>some (some v)) fun b=>M.on (some none) fun c=>BE E 22 a b c)) fun p2=>
 M.bind (apartO (oS (T.get tm 9) fun a=>M.pure a)) fun p3=>
 M.bind (apartO (M.on (some p3.1) fun a=>M.on (onO (some (.int .i64 16)) fun v=>some (some v)) fun b=>M.on (some none) fun c=>BE E 22 a b c)) fun p4=>
 M.bind (apartO (M.on (some (.func (.func 32) #[] #[])) fun f=>M.on (seqO [(some p4.1)]) fun l=>AZ call round f l)) fun p5=>
 M.bind (apartO (oS (T.get tm 11) fun a=>AQ E 26 a)) fun p6=>
 M.bind (apartO (oS (some p5.1) fun a=>oS (some p6.1) fun b=>Cl.get (aBin E .eql 26 (.tmp 36) (.tmp 37)) a b)) fun p7=>
 M.bind (apartO (oS (T.get tm 6) fun a=>oS (some p0.1) fun b=>A5 E 26 a b)) fun p8=>
 M.bind (apartO (oS (some p2.1) fun a=>M.pure a)) fun p9=>
 setT 7 p9.1 tm fun tm1=>
 M.pure (([p9.1,p7.1,p6.1,p5.1,p4.1,p3.1,p2.1,p1.1,p0.1],tm1),[p9.2,p8.2,p7.2,p6.2,p5.2,p4.2,p3.2,p2.2,p1.2,p0.2])
theorem Gg_:DrawEq 72 39 DT GJ [0,0,2,0,8,24,0,120,57,319,1023] XC:=⟨by kernel_rfl,by kernel_rfl,fun _ _ _ _ _ _ _ _ _=>by kernel_rfl⟩
theorem HD_ (E:Env)(call round:Ab)(x31 x32 x33 x34 x35 x36 x37 x38 x7:Value)(tm:T Value)(s:St):BG call round (Cs E DT 39 (hdC GJ)) [x7,x38,x37,x36,x35,x34,x33,x32,x31] tm s=(M.bind (oS (some x38) fun a=>M.pure a) fun v8=>setT 8 v8 tm fun tm1=>M.pure tm1) s:=by kernel_rfl
theorem WC_: ∃k,J6= .code .ret::k:=⟨J6.tail,by kernel_rfl⟩
def Dp:Nat:=BB Try.f17
abbrev UZ_:Nat:=31
def WF:Code:=Try.f17.body.getD .skip
theorem Sr:envS.fn.get 17=some Try.f17:=by kernel_rfl
theorem IW_ {a0:Value}{n:Nat}{s:St}{Q:Value→St→Prop}(h: ∀tm,T.get tm 0=some a0→W (runF envS n ⟨17,31,Dp,tm,[.code WF], .run, .normal,none⟩) (s.cxN cxN) fun p s1=>Q p.1 (s1.cxN s.cx)):W (Au envS (runF envS n) 17 [a0]) s Q:=
 W.call (by kernel_rfl) (by kernel_rfl) Sr (by kernel_rfl) rfl rfl (by simp) (h _ (by kernel_rfl))
theorem Wf:Try.f17.results.toList=[.tmp 2, .cell 3 26, .tmp 4]:=by kernel_rfl
def Sf:List Item:=skim 64 [.code WF]
def LD:List Item:=skim 64 Sf.tail
theorem Ku_:skim 64 Sf.tail=LD:=by kernel_rfl
def Hz:List Item:=skim 64 LD.tail
theorem Wu:skim 64 LD.tail=Hz:=by kernel_rfl
def KI:List Item:=skim 64 (brT Hz)
theorem LN_:skim 64 (brT Hz)=KI:=by kernel_rfl
def Ll:List Item:=skim 64 (brF Hz)
theorem VO_:skim 64 (brF Hz)=Ll:=by kernel_rfl
def Ih:List Item:=skim 64 KI.tail
theorem LI_:skim 64 KI.tail=Ih:=by kernel_rfl
def HF:List Item:=skim 64 Ll.tail
theorem S7:skim 64 Ll.tail=HF:=by kernel_rfl
def Qb:List Item:=skim 64 (brT HF)
theorem Pu_:skim 64 (brT HF)=Qb:=by kernel_rfl
def NR:List Item:=skim 64 (brF HF)
theorem HQ_:skim 64 (brF HF)=NR:=by kernel_rfl
theorem TO_:skim 64 Qb.tail=Ih:=by kernel_rfl
def HJ:List Item:=skim 64 NR.tail
theorem Rj_:skim 64 NR.tail=HJ:=by kernel_rfl
def NX:List Item:=skim 64 HJ.tail
theorem EO_:skim 64 HJ.tail=NX:=by kernel_rfl
def Bw_ (E:Env)(call round:Ab)(tm:T Value):M (T Value):=
 mv (some (.slice none 0 0)) fun v2=>
 setF 2 v2 tm fun tm1=>
 M.bind (BF E 26) fun v3=>
 setF 3 v3 tm1 fun tm2=>
 mv (some (.int .i64 0)) fun v4=>
 setF 4 v4 tm2 fun tm3=>
 M.pure tm3
theorem Ln_:RegEq 17 31 Dp Sf Bw_:=⟨by kernel_rfl,fun _ _ _ _ _ _ _ _ _=>by kernel_rfl⟩
def UF (E:Env)(call round:Ab)(tm:T Value):M (T Value):=
 mv (T.get tm 0) fun v8=>
 M.bind (oS (seqO [(some v8)]) fun l=>AT E .len [22] l) fun v9=>
 M.bind (oS (some v9) fun a=>oS (some (.int .i64 0)) fun b=>Cl.get (aBin E .eql 3 (.tmp 9) (.const (.int .i64 0))) a b) fun v10=>
 mv (some v10) fun v7=>
 setF 7 v7 tm fun tm1=>
 M.pure tm1
theorem EJ_:RegEq 17 31 Dp LD UF:=⟨by kernel_rfl,fun _ _ _ _ _ _ _ _ _=>by kernel_rfl⟩
theorem TJ:Ba Hz=some 7:=by kernel_rfl
def S8 (E:Env)(call round:Ab)(tm:T Value):M (T Value):=
 M.bind (oS (seqP []) fun ps=>Cc E 26 ps) fun v11=>
 mv (some (.slice none 0 0)) fun v2=>
 setF 2 v2 tm fun tm1=>
 M.bind (oS (T.get tm1 3) fun a=>oS (some v11) fun b=>A5 E 26 a b) fun _=>
 mv (some (.int .i64 2)) fun v4=>
 setF 4 v4 tm1 fun tm2=>
 M.pure tm2
theorem MG_:RegEq 17 31 Dp KI S8:=⟨by kernel_rfl,fun _ _ _ _ _ _ _ _ _=>by kernel_rfl⟩
def As_ (E:Env)(call round:Ab)(tm:T Value):M (T Value):=
 mv (T.get tm 0) fun v13=>
 M.bind (oS (seqO [(some v13)]) fun l=>AT E .len [22] l) fun v14=>
 M.bind (oS (some v14) fun a=>oS (some (.int .i64 1024)) fun b=>Cl.get (aBin E .gtr 3 (.tmp 14) (.const (.int .i64 1024))) a b) fun v15=>
 mv (some v15) fun v12=>
 setF 12 v12 tm fun tm1=>
 M.pure tm1
theorem Oz_:RegEq 17 31 Dp Ll As_:=⟨by kernel_rfl,fun _ _ _ _ _ _ _ _ _=>by kernel_rfl⟩
theorem IG_: ∃k,Ih= .code .ret::k:=⟨Ih.tail,by kernel_rfl⟩
theorem Xd:Ba HF=some 12:=by kernel_rfl
def WP (E:Env)(call round:Ab)(tm:T Value):M (T Value):=
 M.bind (oS (seqP []) fun ps=>Cc E 26 ps) fun v16=>
 mv (some (.slice none 0 0)) fun v2=>
 setF 2 v2 tm fun tm1=>
 M.bind (oS (T.get tm1 3) fun a=>oS (some v16) fun b=>A5 E 26 a b) fun _=>
 mv (some (.int .i64 3)) fun v4=>
 setF 4 v4 tm1 fun tm2=>
 M.pure tm2
theorem PF_:RegEq 17 31 Dp Qb WP:=⟨by kernel_rfl,fun _ _ _ _ _ _ _ _ _=>by kernel_rfl⟩
def Bm_ (E:Env)(call round:Ab)(tm:T Value):M (T Value):=
 mv (T.get tm 0) fun v17=>
 M.bind (oS (seqO [(some v17)]) fun l=>AT E .len [22] l) fun v18=>
 M.bind (M.on (some (.func (.func 62) #[] #[])) fun f=>M.on (seqO [(some v18)]) fun l=>AZ call round f l) fun v19=>
 mv (T.get tm 0) fun v20=>
 M.bind (M.on (some (.func (.func 32) #[] #[])) fun f=>M.on (seqO [(some v20)]) fun l=>AZ call round f l) fun v21=>
 M.bind (BF E 89) fun v5=>
 setF 5 v5 tm fun tm1=>
 M.bind (BF E 26) fun v6=>
 setF 6 v6 tm1 fun tm2=>
 M.bind (oS (some v5) fun a=>oS (some v19) fun b=>A5 E 89 a b) fun _=>
 M.bind (oS (some v6) fun a=>oS (some v21) fun b=>A5 E 26 a b) fun _=>
 M.pure tm2
theorem Kr_:RegEq 17 31 Dp NR Bm_:=⟨by kernel_rfl,fun _ _ _ _ _ _ _ _ _=>by kernel_rfl⟩
def XM (E:Env)(call round:Ab)(tm:T Value):M ((Rho×T Value)×List OpLog):=
 M.bind (apartO (M.on (T.get tm 5) fun a=>M.on (some none) fun b=>M.on (some none) fun c=>BE E 89 a b c)) fun p0=>
 M.bind (apartO (M.on (T.get tm 6) fun a=>M.on (some none) fun b=>M.on (some none) fun c=>BE E 26 a b c)) fun p1=>
 M.bind (apartO (oS (T.get tm 0) fun a=>M.pure a)) fun p2=>
 M.bind (apartO (oS (seqP [(0,(some p1.1)),(1,(some p2.1))]) fun ps=>Cf E 43 2 ps)) fun p3=>
 M.bind (apartO (M.on (some (.func (.func 63) #[] #[])) fun f=>M.on (seqO [(some p3.1)]) fun l=>AZ call round f l)) fun p4=>
 M.bind (apartO (M.on (some (.func (.func 64) #[] #[])) fun f=>M.on (seqO [(some p4.1)]) fun l=>AZ call round f l)) fun p5=>
 M.bind (apartO (oS (seqP [(0,(some p0.1)),(1,(some p5.1))]) fun ps=>Cf E 43 2 ps)) fun p6=>
 M.bind (apartO (M.on (some (.func (.func 63) #[] #[])) fun f=>M.on (seqO [(some p6.1)]) fun l=>AZ call round f l)) fun p7=>
 M.bind (apartO (oS (T.get tm 6) fun a=>AQ E 26 a)) fun p8=>
 M.bind (apartO (oS (some p7.1) fun a=>M.pure a)) fun p9=>
 setT 2 p9.1 tm fun tm1=>
 M.bind (apartO (oS (T.get tm1 3) fun a=>oS (some p8.1) fun b=>A5 E 26 a b)) fun p10=>
 M.pure (([p9.1,p8.1,p7.1,p6.1,p5.1,p4.1,p3.1,p2.1,p1.1,p0.1],tm1),[p10.2,p9.2,p8.2,p7.2,p6.2,p5.2,p4.2,p3.2,p2.2,p1.2,p0.2])
theorem PV_:DrawEq 17 31 Dp HJ [0,0,0,6,14,30,63,127,0,255,1023,2047] XM:=⟨by kernel_rfl,by kernel_rfl,fun _ _ _ _ _ _ _ _ _=>by kernel_rfl⟩
theorem CI_ (E:Env)(call round:Ab)(x22 x23 x24 x25 x26 x27 x28 x29 x30 x2:Value)(tm:T Value)(s:St):BG call round (Cs E Dp 31 (hdC HJ)) [x2,x30,x29,x28,x27,x26,x25,x24,x23,x22] tm s=(M.bind (oS (some (.int .i64 0)) fun a=>M.pure a) fun v4=>setT 4 v4 tm fun tm1=>M.pure tm1) s:=by kernel_rfl
theorem Qm_: ∃k,NX= .code .ret::k:=⟨NX.tail,by kernel_rfl⟩
def CQ:Nat:=BB Try.f27
abbrev LN:Nat:=54
def UI:Code:=Try.f27.body.getD .skip
theorem Ms:envS.fn.get 27=some Try.f27:=by kernel_rfl
theorem IC_ {a0 a1:Value}{n:Nat}{s:St}{Q:Value→St→Prop}(h: ∀tm,T.get tm 0=some a0→T.get tm 1=some a1→W (runF envS n ⟨27,54,CQ,tm,[.code UI], .run, .normal,none⟩) (s.cxN cxN) fun p s1=>Q p.1 (s1.cxN s.cx)):W (Au envS (runF envS n) 27 [a0,a1]) s Q:=
 W.call (by kernel_rfl) (by kernel_rfl) Ms (by kernel_rfl) rfl rfl (by simp) (h _ (by kernel_rfl) (by kernel_rfl))
theorem Sw:Try.f27.results.toList=[.tmp 4, .tmp 5]:=by kernel_rfl
def Rq:List Item:=skim 64 [.code UI]
def Nr:List Item:=skim 64 Rq.tail
theorem MA_:skim 64 Rq.tail=Nr:=by kernel_rfl
def Hv:List Item:=skim 64 Nr.tail
theorem DV_:skim 64 Nr.tail=Hv:=by kernel_rfl
def Fs:List Item:=skim 64 Hv.tail
theorem Q9:skim 64 Hv.tail=Fs:=by kernel_rfl
def Mq:List Item:=skim 64 (brT Fs)
theorem RQ_:skim 64 (brT Fs)=Mq:=by kernel_rfl
def Is:List Item:=skim 64 (brF Fs)
theorem Hg_:skim 64 (brF Fs)=Is:=by kernel_rfl
def Pm:List Item:=skim 64 Mq.tail
theorem XC_:skim 64 Mq.tail=Pm:=by kernel_rfl
def Mg:List Item:=skim 64 Is.tail
theorem Hy_:skim 64 Is.tail=Mg:=by kernel_rfl
def FK:List Item:=skim 64 Mg.tail
theorem Bu_:skim 64 Mg.tail=FK:=by kernel_rfl
def LO:List Item:=skim 64 (brT FK)
theorem Ge_:skim 64 (brT FK)=LO:=by kernel_rfl
def K0:List Item:=skim 64 (brF FK)
theorem Wz_:skim 64 (brF FK)=K0:=by kernel_rfl
def RG:List Item:=skim 64 LO.tail
theorem QK_:skim 64 LO.tail=RG:=by kernel_rfl
def Rb:List Item:=skim 64 K0.tail
theorem NB_:skim 64 K0.tail=Rb:=by kernel_rfl
def Yp (E:Env)(call round:Ab)(tm:T Value):M (T Value):=
 M.bind (oS (T.get tm 1) fun a=>kBox a) fun v3=>
 setF 3 v3 tm fun tm1=>
 mv (some (.slice none 0 0)) fun v4=>
 setF 4 v4 tm1 fun tm2=>
 mv (some (.int .i64 0)) fun v5=>
 setF 5 v5 tm2 fun tm3=>
 M.pure tm3
theorem Gb_:RegEq 27 54 CQ Rq Yp:=⟨by kernel_rfl,fun _ _ _ _ _ _ _ _ _=>by kernel_rfl⟩
def SS (E:Env)(call round:Ab)(tm:T Value):M (T Value):=
 mv (T.get tm 0) fun v12=>
 M.bind (oS (T.get tm 3) fun a=>kFld E 35 a 1) fun v13=>
 M.bind (oS (some v13) fun a=>AQ E 3 a) fun v14=>
 M.bind (M.on (some (.func (.func 71) #[] #[])) fun f=>M.on (seqO [(some v12),(some v14)]) fun l=>AZ call round f l) fun v15=>
 mv (some v15) fun v11=>
 M.bind (oS (some v11) fun a=>kExt 0 a) fun v16=>
 M.bind (oS (some v11) fun a=>kExt 1 a) fun v17=>
 mv (some v16) fun v6=>
 setF 6 v6 tm fun tm1=>
 mv (some v17) fun v7=>
 setF 7 v7 tm1 fun tm2=>
 M.pure tm2
theorem CN_:RegEq 27 54 CQ Nr SS:=⟨by kernel_rfl,fun _ _ _ _ _ _ _ _ _=>by kernel_rfl⟩
def RZ (E:Env)(call round:Ab)(tm:T Value):M ((Rho×T Value)×List OpLog):=
 M.bind (apartO (oS (T.get tm 7) fun a=>M.pure a)) fun p0=>
 M.bind (apartO (oS (some p0.1) fun a=>kUn E.P .not a)) fun p1=>
 M.bind (apartO (oS (some p1.1) fun a=>M.pure a)) fun p2=>
 M.bind (apartO (M.chk (isK p2.1) (M.if (isB p2.1 false) (oS (T.get tm 6) fun a=>M.pure a) (M.pure undef)))) fun p3=>
 M.bind (apartO (M.chk (isK p2.1) (M.if (isB p2.1 false) (oS (T.get tm 3) fun a=>kFld E 35 a 2) (M.pure undef)))) fun p4=>
 M.bind (apartO (M.chk (isK p2.1) (M.if (isB p2.1 false) (oS (some p4.1) fun a=>AQ E 3 a) (M.pure undef)))) fun p5=>
 M.bind (apartO (M.chk (isK p2.1) (M.if (isB p2.1 false) (oS (some p3.1) fun a=>oS (some p5.1) fun b=>Cl.get (aBin E .neq 3 (.tmp 21) (.tmp 23)) a b) (M.pure undef)))) fun p6=>
 M.bind (apartO (M.on (some p2.1) fun a=>M.on (some (.bool true)) fun b=>M.on (some p6.1) fun c=>BJ a b c)) fun p7=>
 M.bind (apartO (oS (some p7.1) fun a=>M.pure a)) fun p8=>
 M.bind (apartO (M.chk (isK p8.1) (M.if (isB p8.1 false) (oS (T.get tm 0) fun a=>M.pure a) (M.pure undef)))) fun p9=>
 M.bind (apartO (M.chk (isK p8.1) (M.if (isB p8.1 false) (oS (seqO [(some p9.1)]) fun l=>AT E .len [22] l) (M.pure undef)))) fun p10=>
 M.bind (apartO (M.chk (isK p8.1) (M.if (isB p8.1 false) (oS (T.get tm 3) fun a=>kFld E 35 a 1) (M.pure undef)))) fun p11=>
 M.bind (apartO (M.chk (isK p8.1) (M.if (isB p8.1 false) (oS (some p11.1) fun a=>AQ E 3 a) (M.pure undef)))) fun p12=>
 M.bind (apartO (M.chk (isK p8.1) (M.if (isB p8.1 false) (oS (some p10.1) fun a=>oS (some p12.1) fun b=>Cl.get (aBin E .sub 3 (.tmp 28) (.tmp 30)) a b) (M.pure undef)))) fun p13=>
 M.bind (apartO (M.chk (isK p8.1) (M.if (isB p8.1 false) (oS (T.get tm 6) fun a=>M.pure a) (M.pure undef)))) fun p14=>
 M.bind (apartO (M.chk (isK p8.1) (M.if (isB p8.1 false) (M.on (some (.func (.func 20) #[] #[])) fun f=>M.on (seqO [(some p14.1)]) fun l=>AZ call round f l) (M.pure undef)))) fun p15=>
 M.bind (apartO (M.chk (isK p8.1) (M.if (isB p8.1 false) (oS (some p13.1) fun a=>oS (some p15.1) fun b=>Cl.get (aBin E .lss 3 (.tmp 31) (.tmp 33)) a b) (M.pure undef)))) fun p16=>
 M.pure (([p16.1,p15.1,p14.1,p13.1,p12.1,p11.1,p10.1,p9.1,p8.1,p7.1,p6.1,p5.1,p4.1,p3.1,p2.1,p1.1,p0.1],tm),[p16.2,p15.2,p14.2,p13.2,p12.2,p11.2,p10.2,p9.2,p8.2,p7.2,p6.2,p5.2,p4.2,p3.2,p2.2,p1.2,p0.2])
theorem LX_:DrawEq 27 54 CQ Hv [0,1,3,7,7,23,63,127,255,511,1023,511,2559,8191,511,16895,65535,131071] RZ:=⟨by kernel_rfl,by kernel_rfl,fun _ _ _ _ _ _ _ _ _=>by kernel_rfl⟩
theorem SB (E:Env)(call round:Ab)(x18 x19 x20 x21 x22 x23 x24 x25 x26 x27 x28 x29 x30 x31 x32 x33 x34:Value)(tm:T Value)(s:St):BG call round (Cs E CQ 54 (hdC Hv)) [x34,x33,x32,x31,x30,x29,x28,x27,x26,x25,x24,x23,x22,x21,x20,x19,x18] tm s=(M.bind (M.on (some x26) fun a=>M.on (some (.bool true)) fun b=>M.on (some x34) fun c=>BJ a b c) fun v35=>setT 35 v35 tm fun tm1=>M.pure tm1) s:=by kernel_rfl
theorem Xh:Ba Fs=some 35:=by kernel_rfl
def AA_ (E:Env)(call round:Ab)(tm:T Value):M (T Value):=
 mv (some (.slice none 0 0)) fun v4=>
 setF 4 v4 tm fun tm1=>
 mv (some (.int .i64 6)) fun v5=>
 setF 5 v5 tm1 fun tm2=>
 M.pure tm2
theorem JC_:RegEq 27 54 CQ Mq AA_:=⟨by kernel_rfl,fun _ _ _ _ _ _ _ _ _=>by kernel_rfl⟩
def BZ_ (E:Env)(call round:Ab)(tm:T Value):M (T Value):=
 mv (T.get tm 0) fun v37=>
 M.bind (oS (T.get tm 3) fun a=>kFld E 35 a 1) fun v38=>
 M.bind (oS (some v38) fun a=>AQ E 3 a) fun v39=>
 mv (T.get tm 6) fun v40=>
 M.bind (M.on (some (.func (.func 72) #[] #[])) fun f=>M.on (seqO [(some v37),(some v39),(some v40)]) fun l=>AZ call round f l) fun v41=>
 mv (some v41) fun v36=>
 M.bind (oS (some v36) fun a=>kExt 0 a) fun v42=>
 M.bind (oS (some v36) fun a=>kExt 1 a) fun v43=>
 M.bind (oS (some v36) fun a=>kExt 2 a) fun v44=>
 M.bind (BF E 26) fun v8=>
 setF 8 v8 tm fun tm1=>
 M.bind (oS (some v8) fun a=>oS (some v42) fun b=>A5 E 26 a b) fun _=>
 mv (some v43) fun v9=>
 setF 9 v9 tm1 fun tm2=>
 mv (some v44) fun v10=>
 setF 10 v10 tm2 fun tm3=>
 M.pure tm3
theorem Ht_:RegEq 27 54 CQ Is BZ_:=⟨by kernel_rfl,fun _ _ _ _ _ _ _ _ _=>by kernel_rfl⟩
theorem VN_: ∃k,Pm= .code .ret::k:=⟨Pm.tail,by kernel_rfl⟩
def PP (E:Env)(call round:Ab)(tm:T Value):M (T Value):=
 mv (T.get tm 10) fun v45=>
 M.bind (oS (some v45) fun a=>kUn E.P .not a) fun v46=>
 mv (some v46) fun v47=>
 M.bind (M.chk (isK v47) (M.if (isB v47 false) (oS (T.get tm 8) fun a=>AQ E 26 a) (M.pure undef))) fun v48=>
 M.bind (M.chk (isK v47) (M.if (isB v47 false) (oS (T.get tm 3) fun a=>kFld E 35 a 0) (M.pure undef))) fun v49=>
 M.bind (M.chk (isK v47) (M.if (isB v47 false) (oS (some v49) fun a=>AQ E 26 a) (M.pure undef))) fun v50=>
 M.bind (M.chk (isK v47) (M.if (isB v47 false) (oS (some v48) fun a=>oS (some v50) fun b=>Cl.get (aBin E .neq 26 (.tmp 48) (.tmp 50)) a b) (M.pure undef))) fun v51=>
 M.bind (M.on (some v47) fun a=>M.on (some (.bool true)) fun b=>M.on (some v51) fun c=>BJ a b c) fun v52=>
 setF 52 v52 tm fun tm1=>
 M.pure tm1
theorem QC_:RegEq 27 54 CQ Mg PP:=⟨by kernel_rfl,fun _ _ _ _ _ _ _ _ _=>by kernel_rfl⟩
theorem ST:Ba FK=some 52:=by kernel_rfl
def UA (E:Env)(call round:Ab)(tm:T Value):M (T Value):=
 mv (some (.slice none 0 0)) fun v4=>
 setF 4 v4 tm fun tm1=>
 mv (some (.int .i64 11)) fun v5=>
 setF 5 v5 tm1 fun tm2=>
 M.pure tm2
theorem SL_:RegEq 27 54 CQ LO UA:=⟨by kernel_rfl,fun _ _ _ _ _ _ _ _ _=>by kernel_rfl⟩
def ZY (E:Env)(call round:Ab)(tm:T Value):M (T Value):=
 mv (T.get tm 9) fun v53=>
 mv (some v53) fun v4=>
 setF 4 v4 tm fun tm1=>
 mv (some (.int .i64 0)) fun v5=>
 setF 5 v5 tm1 fun tm2=>
 M.pure tm2
theorem Ki_:RegEq 27 54 CQ K0 ZY:=⟨by kernel_rfl,fun _ _ _ _ _ _ _ _ _=>by kernel_rfl⟩
theorem Xy_: ∃k,RG= .code .ret::k:=⟨RG.tail,by kernel_rfl⟩
theorem SG_: ∃k,Rb= .code .ret::k:=⟨Rb.tail,by kernel_rfl⟩
def Pn:Nat:=BB Try.f68
def Yz:Code:=Try.f68.body.getD .skip
theorem Xz:envS.fn.get 68=some Try.f68:=by kernel_rfl
theorem Hx_ {a0:Value}{n:Nat}{s:St}{Q:Value→St→Prop}(h: ∀tm,T.get tm 0=some a0→W (runF envS n ⟨68,4,Pn,tm,[.code Yz], .run, .normal,none⟩) (s.cxN cxN) fun p s1=>Q p.1 (s1.cxN s.cx)):W (Au envS (runF envS n) 68 [a0]) s Q:=
 W.call (by kernel_rfl) (by kernel_rfl) Xz (by kernel_rfl) rfl rfl (by simp) (h _ (by kernel_rfl))
theorem XI_:Try.f68.results.toList=[.tmp 2]:=by kernel_rfl
def RF:List Item:=skim 64 [.code Yz]
def K5:List Item:=skim 64 RF.tail
theorem KH_:skim 64 RF.tail=K5:=by kernel_rfl
def OV:List Item:=skim 64 K5.tail
theorem Ej_:skim 64 K5.tail=OV:=by kernel_rfl
def Zd (E:Env)(call round:Ab)(tm:T Value):M (T Value):=
 M.bind (oS (T.get tm 0) fun a=>kBox a) fun v1=>
 setF 1 v1 tm fun tm1=>
 mv (some .nilFunc) fun v2=>
 setF 2 v2 tm1 fun tm2=>
 M.pure tm2
theorem Ek_:RegEq 68 4 Pn RF Zd:=⟨by kernel_rfl,fun _ _ _ _ _ _ _ _ _=>by kernel_rfl⟩
def SJ (E:Env)(call round:Ab)(tm:T Value):M (T Value):=
 M.bind (oS (seqO []) fun a=>oS (seqO [(T.get tm 1)]) fun b=>M.pure (.func (.func 109) a.toArray b.toArray)) fun v3=>
 mv (some v3) fun v2=>
 setF 2 v2 tm fun tm1=>
 M.pure tm1
theorem Qu_:RegEq 68 4 Pn K5 SJ:=⟨by kernel_rfl,fun _ _ _ _ _ _ _ _ _=>by kernel_rfl⟩
theorem RX_: ∃k,OV= .code .ret::k:=⟨OV.tail,by kernel_rfl⟩
def BU:Nat:=BB Try.f109
abbrev D3:Nat:=66
def Yj:Code:=Try.f109.body.getD .skip
theorem Z1:envS.fn.get 109=some Try.f109:=by kernel_rfl
theorem OL_ {a0 a1:Value}{n:Nat}{s:St}{Q:Value→St→Prop}(h: ∀tm,T.get tm 0=some a0→T.get tm 1=some a1→W (runF envS n ⟨109,66,BU,tm,[.code Yj], .run, .normal,none⟩) (s.cxN cxN) fun p s1=>Q p.1 (s1.cxN s.cx)):W (Au envS (runF envS n) 109 [a0,a1]) s Q:=
 W.call (by kernel_rfl) (by kernel_rfl) Z1 (by kernel_rfl) rfl rfl (by simp) (h _ (by kernel_rfl) (by kernel_rfl))
theorem FC_:Try.f109.results.toList=[]:=by kernel_rfl
def RW:List Item:=skim 64 [.code Yj]
def EI:List Item:=skim 64 RW.tail
theorem GW_:skim 64 RW.tail=EI:=by kernel_rfl
def Lz:List Item:=skim 64 EI.tail
theorem Ck_:skim 64 EI.tail=Lz:=by kernel_rfl
def MS:List Item:=skim 64 Lz.tail
theorem Bn_:skim 64 Lz.tail=MS:=by kernel_rfl
def F6:List Item:=skim 64 MS.tail
theorem PZ:skim 64 MS.tail=F6:=by kernel_rfl
def Ny:List Item:=skim 64 (brT F6)
theorem TN:skim 64 (brT F6)=Ny:=by kernel_rfl
def K9:List Item:=skim 64 (brF F6)
theorem Mh_:skim 64 (brF F6)=K9:=by kernel_rfl
def FP:List Item:=skim 64 Ny.tail
theorem Y5:skim 64 Ny.tail=FP:=by kernel_rfl
def Gi:List Item:=skim 64 K9.tail
theorem Ye:skim 64 K9.tail=Gi:=by kernel_rfl
def WY:List Item:=skim 64 FP.tail
theorem NT_:skim 64 FP.tail=WY:=by kernel_rfl
def E2:List Item:=skim 64 (brT Gi)
theorem CV_:skim 64 (brT Gi)=E2:=by kernel_rfl
def Ig:List Item:=skim 64 (brF Gi)
theorem HV_:skim 64 (brF Gi)=Ig:=by kernel_rfl
def KN:List Item:=skim 64 (brT E2)
theorem Bk_:skim 64 (brT E2)=KN:=by kernel_rfl
def L8:List Item:=skim 64 (brF E2)
theorem Vo:skim 64 (brF E2)=L8:=by kernel_rfl
theorem VT:skim 64 Ig.tail=E2:=by kernel_rfl
theorem IA_:skim 64 KN.tail=FP:=by kernel_rfl
def Jj:List Item:=skim 64 L8.tail
theorem T8:skim 64 L8.tail=Jj:=by kernel_rfl
def GK:List Item:=skim 64 (brT Jj)
theorem Dz_:skim 64 (brT Jj)=GK:=by kernel_rfl
theorem FA_:skim 64 (brF Jj)=FP:=by kernel_rfl
def Ir:List Item:=skim 64 GK.tail
theorem PU_:skim 64 GK.tail=Ir:=by kernel_rfl
def LK:List Item:=skim 64 Ir.tail
theorem Pl_:skim 64 Ir.tail=LK:=by kernel_rfl
def SG:List Item:=skim 64 (brF LK)
theorem Lx_:skim 64 (brF LK)=SG:=by kernel_rfl
theorem QA_:skim 64 SG.tail=EI:=by kernel_rfl
def Vk (E:Env)(call round:Ab)(tm:T Value):M (T Value):=
 mv (some (.int .i64 0)) fun v3=>
 setF 3 v3 tm fun tm1=>
 M.pure tm1
theorem We_:RegEq 109 66 BU RW Vk:=⟨by kernel_rfl,fun _ _ _ _ _ _ _ _ _=>by kernel_rfl⟩
def QH (E:Env)(call round:Ab)(tm:T Value):M (T Value):=
 M.bind (oS (T.get tm 1) fun a=>AQ E 22 a) fun v11=>
 mv (T.get tm 3) fun v12=>
 M.bind (M.on (some (.func (.func 71) #[] #[])) fun f=>M.on (seqO [(some v11),(some v12)]) fun l=>AZ call round f l) fun v13=>
 mv (some v13) fun v10=>
 M.bind (oS (some v10) fun a=>kExt 0 a) fun v14=>
 M.bind (oS (some v10) fun a=>kExt 1 a) fun v15=>
 mv (some v14) fun v4=>
 setF 4 v4 tm fun tm1=>
 mv (some v15) fun v5=>
 setF 5 v5 tm1 fun tm2=>
 M.pure tm2
theorem Zo:RegEq 109 66 BU EI QH:=⟨by kernel_rfl,fun _ _ _ _ _ _ _ _ _=>by kernel_rfl⟩
def OI (E:Env)(call round:Ab)(tm:T Value):M (T Value):=
 mv (some (.int .i64 2)) fun v6=>
 setF 6 v6 tm fun tm1=>
 M.pure tm1
theorem Va:RegEq 109 66 BU Lz OI:=⟨by kernel_rfl,fun _ _ _ _ _ _ _ _ _=>by kernel_rfl⟩
def OM (E:Env)(call round:Ab)(tm:T Value):M (T Value):=
 mv (T.get tm 3) fun v17=>
 M.bind (oS (T.get tm 1) fun a=>AQ E 22 a) fun v18=>
 M.bind (oS (seqO [(some v18)]) fun l=>AT E .len [22] l) fun v19=>
 M.bind (oS (some v17) fun a=>oS (some v19) fun b=>Cl.get (aBin E .eql 3 (.tmp 17) (.tmp 19)) a b) fun v20=>
 mv (some v20) fun v16=>
 setF 16 v16 tm fun tm1=>
 M.pure tm1
theorem WK:RegEq 109 66 BU MS OM:=⟨by kernel_rfl,fun _ _ _ _ _ _ _ _ _=>by kernel_rfl⟩
theorem Sa:Ba F6=some 16:=by kernel_rfl
def Qr (E:Env)(call round:Ab)(tm:T Value):M (T Value):=
 mv (some (.int .i64 0)) fun v6=>
 setF 6 v6 tm fun tm1=>
 M.pure tm1
theorem Ta:RegEq 109 66 BU Ny Qr:=⟨by kernel_rfl,fun _ _ _ _ _ _ _ _ _=>by kernel_rfl⟩
def Ut (E:Env)(call round:Ab)(tm:T Value):M (T Value):=
 M.bind (oS (T.get tm 1) fun a=>AQ E 22 a) fun v22=>
 M.bind (oS (seqO [(some v22)]) fun l=>AT E .len [22] l) fun v23=>
 mv (T.get tm 3) fun v24=>
 M.bind (oS (some v23) fun a=>oS (some v24) fun b=>Cl.get (aBin E .sub 3 (.tmp 23) (.tmp 24)) a b) fun v25=>
 M.bind (oS (some v25) fun a=>oS (some (.int .i64 6)) fun b=>Cl.get (aBin E .lss 3 (.tmp 25) (.const (.int .i64 6))) a b) fun v26=>
 mv (some v26) fun v21=>
 setF 21 v21 tm fun tm1=>
 M.pure tm1
theorem NG_:RegEq 109 66 BU K9 Ut:=⟨by kernel_rfl,fun _ _ _ _ _ _ _ _ _=>by kernel_rfl⟩
def AL_ (E:Env)(call round:Ab)(tm:T Value):M (T Value):=
 mv (T.get tm 0) fun v61=>
 mv (T.get tm 3) fun v62=>
 mv (T.get tm 6) fun v63=>
 M.bind (oS (seqP [(2,(some v63))]) fun ps=>Cc E 97 ps) fun v64=>
 M.bind (M.on (some v61) fun f=>M.on (seqO [(some v62),(some v64)]) fun l=>AZ call round f l) fun v65=>
 M.pure tm
theorem Nr_:RegEq 109 66 BU FP AL_:=⟨by kernel_rfl,fun _ _ _ _ _ _ _ _ _=>by kernel_rfl⟩
theorem AY_:Ba Gi=some 21:=by kernel_rfl
theorem Lt:Ba E2=some 21:=by kernel_rfl
def QC (E:Env)(call round:Ab)(tm:T Value):M ((Rho×T Value)×List OpLog):=
 M.bind (apartO (oS (T.get tm 5) fun a=>M.pure a)) fun p0=>
 M.bind (apartO (oS (some p0.1) fun a=>M.pure a)) fun p1=>
 M.bind (apartO (M.chk (isK p1.1) (M.if (isB p1.1 true) (oS (T.get tm 1) fun a=>AQ E 22 a) (M.pure undef)))) fun p2=>
 M.bind (apartO (M.chk (isK p1.1) (M.if (isB p1.1 true) (oS (seqO [(some p2.1)]) fun l=>AT E .len [22] l) (M.pure undef)))) fun p3=>
 M.bind (apartO (M.chk (isK p1.1) (M.if (isB p1.1 true) (oS (T.get tm 3) fun a=>M.pure a) (M.pure undef)))) fun p4=>
 M.bind (apartO (M.chk (isK p1.1) (M.if (isB p1.1 true) (oS (some p3.1) fun a=>oS (some p4.1) fun b=>Cl.get (aBin E .sub 3 (.tmp 30) (.tmp 31)) a b) (M.pure undef)))) fun p5=>
 M.bind (apartO (M.chk (isK p1.1) (M.if (isB p1.1 true) (oS (T.get tm 4) fun a=>M.pure a) (M.pure undef)))) fun p6=>
 M.bind (apartO (M.chk (isK p1.1) (M.if (isB p1.1 true) (M.on (some (.func (.func 20) #[] #[])) fun f=>M.on (seqO [(some p6.1)]) fun l=>AZ call round f l) (M.pure undef)))) fun p7=>
 M.bind (apartO (M.chk (isK p1.1) (M.if (isB p1.1 true) (oS (some p5.1) fun a=>oS (some p7.1) fun b=>Cl.get (aBin E .lss 3 (.tmp 32) (.tmp 34)) a b) (M.pure undef)))) fun p8=>
 M.bind (apartO (M.on (some p1.1) fun a=>M.on (some p8.1) fun b=>M.on (some (.bool false)) fun c=>BJ a b c)) fun p9=>
 M.pure (([p9.1,p8.1,p7.1,p6.1,p5.1,p4.1,p3.1,p2.1,p1.1,p0.1],tm),[p9.2,p8.2,p7.2,p6.2,p5.2,p4.2,p3.2,p2.2,p1.2,p0.2])
theorem MD_:DrawEq 109 66 BU Ig [0,1,3,7,3,31,3,67,255,511,1023] QC:=⟨by kernel_rfl,by kernel_rfl,fun _ _ _ _ _ _ _ _ _=>by kernel_rfl⟩
theorem V9 (E:Env)(call round:Ab)(x27 x28 x29 x30 x31 x32 x33 x34 x35 x36:Value)(tm:T Value)(s:St):BG call round (Cs E BU 66 (hdC Ig)) [x36,x35,x34,x33,x32,x31,x30,x29,x28,x27] tm s=(M.bind (oS (some x36) fun a=>M.pure a) fun v21=>setT 21 v21 tm fun tm1=>M.pure tm1) s:=by kernel_rfl
def Z7 (E:Env)(call round:Ab)(tm:T Value):M (T Value):=
 mv (some (.int .i64 1)) fun v6=>
 setF 6 v6 tm fun tm1=>
 M.pure tm1
theorem Kz_:RegEq 109 66 BU KN Z7:=⟨by kernel_rfl,fun _ _ _ _ _ _ _ _ _=>by kernel_rfl⟩
def QZ (E:Env)(call round:Ab)(tm:T Value):M (T Value):=
 mv (T.get tm 5) fun v38=>
 mv (some v38) fun v37=>
 setF 37 v37 tm fun tm1=>
 M.pure tm1
theorem ZP:RegEq 109 66 BU L8 QZ:=⟨by kernel_rfl,fun _ _ _ _ _ _ _ _ _=>by kernel_rfl⟩
theorem X5:Ba Jj=some 37:=by kernel_rfl
def ZB (E:Env)(call round:Ab)(tm:T Value):M (T Value):=
 M.bind (oS (T.get tm 1) fun a=>AQ E 22 a) fun v40=>
 mv (T.get tm 3) fun v41=>
 mv (T.get tm 4) fun v42=>
 M.bind (M.on (some (.func (.func 72) #[] #[])) fun f=>M.on (seqO [(some v40),(some v41),(some v42)]) fun l=>AZ call round f l) fun v43=>
 mv (some v43) fun v39=>
 M.bind (oS (some v39) fun a=>kExt 0 a) fun v44=>
 M.bind (oS (some v39) fun a=>kExt 1 a) fun v45=>
 M.bind (oS (some v39) fun a=>kExt 2 a) fun v46=>
 M.bind (BF E 26) fun v7=>
 setF 7 v7 tm fun tm1=>
 M.bind (oS (some v7) fun a=>oS (some v44) fun b=>A5 E 26 a b) fun _=>
 mv (some v45) fun v8=>
 mv (some v46) fun v9=>
 setF 9 v9 tm1 fun tm2=>
 M.pure tm2
theorem Ke_:RegEq 109 66 BU GK ZB:=⟨by kernel_rfl,fun _ _ _ _ _ _ _ _ _=>by kernel_rfl⟩
def Vh (E:Env)(call round:Ab)(tm:T Value):M (T Value):=
 mv (T.get tm 0) fun v47=>
 mv (T.get tm 3) fun v48=>
 M.bind (oS (T.get tm 7) fun a=>AQ E 26 a) fun v49=>
 mv (T.get tm 3) fun v50=>
 mv (T.get tm 4) fun v51=>
 M.bind (oS (seqP [(0,(some v49)),(1,(some v50)),(2,(some v51))]) fun ps=>Cc E 35 ps) fun v52=>
 mv (T.get tm 9) fun v53=>
 M.bind (oS (seqP [(0,(some v52)),(1,(some v53)),(2,(some (.int .i64 (-1))))]) fun ps=>Cc E 97 ps) fun v54=>
 M.bind (M.on (some v47) fun f=>M.on (seqO [(some v48),(some v54)]) fun l=>AZ call round f l) fun v55=>
 M.bind (oS (some v55) fun a=>kUn E.P .not a) fun v56=>
 setF 56 v56 tm fun tm1=>
 M.pure tm1
theorem WP_:RegEq 109 66 BU Ir Vh:=⟨by kernel_rfl,fun _ _ _ _ _ _ _ _ _=>by kernel_rfl⟩
theorem EV_:Ba LK=some 56:=by kernel_rfl
def Ch_ (E:Env)(call round:Ab)(tm:T Value):M (T Value):=
 mv (T.get tm 3) fun v57=>
 mv (T.get tm 4) fun v58=>
 M.bind (M.on (some (.func (.func 20) #[] #[])) fun f=>M.on (seqO [(some v58)]) fun l=>AZ call round f l) fun v59=>
 M.bind (oS (some v57) fun a=>oS (some v59) fun b=>Cl.get (aBin E .add 3 (.tmp 57) (.tmp 59)) a b) fun v60=>
 mv (some v60) fun v3=>
 setF 3 v3 tm fun tm1=>
 M.pure tm1
theorem FJ_:RegEq 109 66 BU SG Ch_:=⟨by kernel_rfl,fun _ _ _ _ _ _ _ _ _=>by kernel_rfl⟩
def BP:Nat:=BB Try.f24
abbrev Eo:Nat:=33
def YC:Code:=Try.f24.body.getD .skip
theorem Uy:envS.fn.get 24=some Try.f24:=by kernel_rfl
theorem TP_ {a0:Value}{n:Nat}{s:St}{Q:Value→St→Prop}(h: ∀tm,T.get tm 0=some a0→W (runF envS n ⟨24,33,BP,tm,[.code YC], .run, .normal,none⟩) (s.cxN cxN) fun p s1=>Q p.1 (s1.cxN s.cx)):W (Au envS (runF envS n) 24 [a0]) s Q:=
 W.call (by kernel_rfl) (by kernel_rfl) Uy (by kernel_rfl) rfl rfl (by simp) (h _ (by kernel_rfl))
theorem Iz_:Try.f24.results.toList=[.cell 2 36, .cell 3 3, .cell 4 3, .cell 5 3]:=by kernel_rfl
def QU:List Item:=skim 64 [.code YC]
def Ls:List Item:=skim 64 QU.tail
theorem Dt_:skim 64 QU.tail=Ls:=by kernel_rfl
def DF:List Item:=skim 64 Ls.tail
theorem CE_:skim 64 Ls.tail=DF:=by kernel_rfl
def JZ:Code:=asC DF
def LZ:Code:=bdC DF
theorem UW_:rfP DF=some (9,[10,11],JZ,LZ):=by kernel_rfl
theorem Im_:RL DF=[.code JZ, .beginRound, .code LZ]:=by kernel_rfl
def G2:List Item:=skim 64 DF.tail
theorem Xm_:skim 64 DF.tail=G2:=by kernel_rfl
def Jw:List Item:=skim 64 (RL DF)
theorem KQ_:skim 64 (RL DF)=Jw:=by kernel_rfl
def RB:List Item:=skim 64 G2.tail
theorem QU_:skim 64 G2.tail=RB:=by kernel_rfl
def KD:List Item:=skim 64 Jw.tail
theorem WJ_:skim 64 Jw.tail=KD:=by kernel_rfl
def GZ:List Item:=skim 64 KD.tail
theorem Vr_:skim 64 KD.tail=GZ:=by kernel_rfl
def Mv:List Item:=skim 64 GZ.tail
theorem Dy_:skim 64 GZ.tail=Mv:=by kernel_rfl
def Hl:List Item:=skim 64 Mv.tail
theorem Yx:skim 64 Mv.tail=Hl:=by kernel_rfl
def HD:List Item:=skim 64 (brT Hl)
theorem KB_:skim 64 (brT Hl)=HD:=by kernel_rfl
def M3:List Item:=skim 64 (brF Hl)
theorem Gt_:skim 64 (brF Hl)=M3:=by kernel_rfl
def F4:List Item:=skim 64 HD.tail
theorem TM_:skim 64 HD.tail=F4:=by kernel_rfl
def Gg:List Item:=skim 64 M3.tail
theorem XA:skim 64 M3.tail=Gg:=by kernel_rfl
def Ma:List Item:=skim 64 (brT Gg)
theorem Ev_:skim 64 (brT Gg)=Ma:=by kernel_rfl
def Le:List Item:=skim 64 (brF Gg)
theorem CS_:skim 64 (brF Gg)=Le:=by kernel_rfl
theorem Tp:skim 64 Ma.tail=F4:=by kernel_rfl
theorem Ji_:skim 64 Le.tail=F4:=by kernel_rfl
def Wq (E:Env)(call round:Ab)(tm:T Value):M (T Value):=
 M.bind (BF E 36) fun v2=>
 setF 2 v2 tm fun tm1=>
 M.bind (BF E 3) fun v3=>
 setF 3 v3 tm1 fun tm2=>
 M.bind (BF E 3) fun v4=>
 setF 4 v4 tm2 fun tm3=>
 M.bind (BF E 3) fun v5=>
 setF 5 v5 tm3 fun tm4=>
 M.pure tm4
theorem Ds_:RegEq 24 33 BP QU Wq:=⟨by kernel_rfl,fun _ _ _ _ _ _ _ _ _=>by kernel_rfl⟩
def Zz (E:Env)(call round:Ab)(tm:T Value):M (T Value):=
 mv (T.get tm 0) fun v8=>
 M.bind (M.on (some (.func (.func 68) #[] #[])) fun f=>M.on (seqO [(some v8)]) fun l=>AZ call round f l) fun v9=>
 setF 9 v9 tm fun tm1=>
 M.pure tm1
theorem DK_:RegEq 24 33 BP Ls Zz:=⟨by kernel_rfl,fun _ _ _ _ _ _ _ _ _=>by kernel_rfl⟩
def AB_ (E:Env)(call round:Ab)(tm:T Value):M ((Rho×T Value)×List OpLog):=
 M.bind (apartO (oS (T.get tm 2) fun a=>AQ E 36 a)) fun p0=>
 M.bind (apartO (oS (T.get tm 3) fun a=>AQ E 3 a)) fun p1=>
 M.bind (apartO (oS (T.get tm 4) fun a=>AQ E 3 a)) fun p2=>
 M.bind (apartO (oS (T.get tm 5) fun a=>AQ E 3 a)) fun p3=>
 M.bind (apartO (oS (T.get tm 2) fun a=>oS (some p0.1) fun b=>A5 E 36 a b)) fun p4=>
 M.bind (apartO (oS (T.get tm 3) fun a=>oS (some p1.1) fun b=>A5 E 3 a b)) fun p5=>
 M.bind (apartO (oS (T.get tm 4) fun a=>oS (some p2.1) fun b=>A5 E 3 a b)) fun p6=>
 M.pure (([p3.1,p2.1,p1.1,p0.1],tm),[p6.2,p5.2,p4.2,p3.2,p2.2,p1.2,p0.2])
theorem Ue_:DrawEq 24 33 BP G2 [0,0,0,0,1,19,55,127] AB_:=⟨by kernel_rfl,by kernel_rfl,fun _ _ _ _ _ _ _ _ _=>by kernel_rfl⟩
theorem Xe_ (E:Env)(call round:Ab)(x29 x30 x31 x32:Value)(tm:T Value)(s:St):BG call round (Cs E BP 33 (hdC G2)) [x32,x31,x30,x29] tm s=(M.bind (oS (T.get tm 5) fun a=>oS (some x32) fun b=>A5 E 3 a b) fun _=>M.pure tm) s:=by kernel_rfl
def U6 (E:Env)(call round:Ab)(tm:T Value):M (T Value):=
 mv (T.get tm 10) fun v6=>
 setF 6 v6 tm fun tm1=>
 M.pure tm1
theorem Rs_:RegEq 24 33 BP Jw U6:=⟨by kernel_rfl,fun _ _ _ _ _ _ _ _ _=>by kernel_rfl⟩
theorem VT_: ∃k,RB= .code .ret::k:=⟨RB.tail,by kernel_rfl⟩
def Ws (E:Env)(call round:Ab)(tm:T Value):M (T Value):=
 M.bind (BF E 97) fun v7=>
 setF 7 v7 tm fun tm1=>
 M.bind (oS (some v7) fun a=>oS (T.get tm1 11) fun b=>A5 E 97 a b) fun _=>
 M.pure tm1
theorem CJ_:RegEq 24 33 BP KD Ws:=⟨by kernel_rfl,fun _ _ _ _ _ _ _ _ _=>by kernel_rfl⟩
theorem ML_:GZ= .beginRound::GZ.tail:=by kernel_rfl
def Bz_ (E:Env)(call round:Ab)(tm:T Value):M (T Value):=
 M.bind (oS (T.get tm 7) fun a=>kFld E 97 a 2) fun v15=>
 M.bind (oS (some v15) fun a=>AQ E 3 a) fun v16=>
 M.bind (oS (some v16) fun a=>oS (some (.int .i64 0)) fun b=>Cl.get (aBin E .geq 3 (.tmp 16) (.const (.int .i64 0))) a b) fun v17=>
 mv (some v17) fun v14=>
 setF 14 v14 tm fun tm1=>
 M.pure tm1
theorem Ni_:RegEq 24 33 BP Mv Bz_:=⟨by kernel_rfl,fun _ _ _ _ _ _ _ _ _=>by kernel_rfl⟩
theorem Vi:Ba Hl=some 14:=by kernel_rfl
def VH (E:Env)(call round:Ab)(tm:T Value):M ((Rho×T Value)×List OpLog):=
 M.bind (apartO (oS (T.get tm 6) fun a=>M.pure a)) fun p0=>
 M.bind (apartO (oS (T.get tm 7) fun a=>kFld E 97 a 2)) fun p1=>
 M.bind (apartO (oS (some p1.1) fun a=>AQ E 3 a)) fun p2=>
 M.bind (apartO (oS (T.get tm 3) fun a=>oS (some p0.1) fun b=>A5 E 3 a b)) fun p3=>
 M.pure (([p2.1,p1.1,p0.1],tm),[p3.2,p2.2,p1.2,p0.2])
theorem UU_:DrawEq 24 33 BP HD [0,0,2,1,15] VH:=⟨by kernel_rfl,by kernel_rfl,fun _ _ _ _ _ _ _ _ _=>by kernel_rfl⟩
theorem QD_ (E:Env)(call round:Ab)(x18 x19 x20:Value)(tm:T Value)(s:St):BG call round (Cs E BP 33 (hdC HD)) [x20,x19,x18] tm s=(M.bind (oS (T.get tm 5) fun a=>oS (some x20) fun b=>A5 E 3 a b) fun _=>M.pure tm) s:=by kernel_rfl
def Vw (E:Env)(call round:Ab)(tm:T Value):M (T Value):=
 M.bind (oS (T.get tm 7) fun a=>kFld E 97 a 1) fun v22=>
 M.bind (oS (some v22) fun a=>AQ E 4 a) fun v23=>
 mv (some v23) fun v21=>
 setF 21 v21 tm fun tm1=>
 M.pure tm1
theorem Pz_:RegEq 24 33 BP M3 Vw:=⟨by kernel_rfl,fun _ _ _ _ _ _ _ _ _=>by kernel_rfl⟩
theorem X4:Ba Gg=some 21:=by kernel_rfl
def Av_ (E:Env)(call round:Ab)(tm:T Value):M (T Value):=
 M.bind (oS (T.get tm 2) fun a=>AQ E 36 a) fun v24=>
 M.bind (oS (T.get tm 7) fun a=>kFld E 97 a 0) fun v25=>
 M.bind (oS (some v25) fun a=>AQ E 35 a) fun v26=>
 M.bind (oS (seqP [(0,(some v26))]) fun ps=>Cf E 36 1 ps) fun v27=>
 M.bind (oS (seqO [(some v24),(some v27)]) fun l=>AT E .append [36,36] l) fun v28=>
 M.bind (oS (T.get tm 2) fun a=>oS (some v28) fun b=>A5 E 36 a b) fun _=>
 M.pure tm
theorem OX_:RegEq 24 33 BP Ma Av_:=⟨by kernel_rfl,fun _ _ _ _ _ _ _ _ _=>by kernel_rfl⟩
def Zb (E:Env)(call round:Ab)(tm:T Value):M (T Value):=
 M.bind (oS (T.get tm 4) fun a=>AQ E 3 a) fun v12=>
 M.bind (oS (some v12) fun a=>oS (some (.int .i64 1)) fun b=>Cl.get (aBin E .add 3 (.tmp 12) (.const (.int .i64 1))) a b) fun v13=>
 M.bind (oS (T.get tm 4) fun a=>oS (some v13) fun b=>A5 E 3 a b) fun _=>
 M.pure tm
theorem LG_:RegEq 24 33 BP Le Zb:=⟨by kernel_rfl,fun _ _ _ _ _ _ _ _ _=>by kernel_rfl⟩
end Go.Proofs.Ytofanlcjeohcjaa.Am
end
