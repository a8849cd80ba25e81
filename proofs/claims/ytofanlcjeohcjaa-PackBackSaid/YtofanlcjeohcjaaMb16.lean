import Derived.Test.YtofanlcjeohcjaaMb15
import Derived.Test.YtofanlcjeohcjaaMb07
import Derived.Test.YtofanlcjeohcjaaMb14
import Derived.KernelRfl
noncomputable section
namespace Go.Proofs.Ytofanlcjeohcjaa.Am
open Go.RowKit
abbrev DigF (D : Nat) (v : Value) : Nat → Prop := fun x => In D 0 74 x ∨ BsF v x
theorem Dig.setN {F : Nat → Prop} {s s2 : St} {D : Nat} {d : DS} (h : Dig s D d) {m : Nat} (x : Ext F (In D 73 1) s s2) (o : Own s2 D 73 (.int .i64 (m : Nat))) : Dig s2 D ⟨d.st, d.w, m⟩ :=
 ⟨h.made.ext x fun q => by have := q.1; omega, h.st.ext x fun i hi q => by have h3 : i < 8 := hi; have := q.1; omega, h.w.ext x fun i hi q => by rw [A0, h.len] at hi; have := q.1; omega, o, h.len, h.byt, h.ok⟩
theorem Dig.setSt {F : Nat → Prop} {s s2 : St} {D : Nat} {d : DS} (h : Dig s D d) {r : Sha.St8} (hr : r.Ok) (x : Ext F (In D 1 8) s s2) (o : Af s2 D 1 (st8V r).toList) : Dig s2 D ⟨r, d.w, d.n⟩ :=
 ⟨h.made.ext x fun q => by have := q.1; omega, o, h.w.ext x fun i hi q => by have := q.2; omega, h.n.ext x fun q => by have := q.2; omega, h.len, h.byt, hr⟩
theorem Row.same' {s s' : St} {b o : Nat} {l : List Value} (h : Row s b o l) (hm : s'.mem = s.mem) (hn : s'.next = s.next) : Row s' b o l := fun i v e => (h i v e).same hm hn
theorem DB_ {D : Nat} {v0 : Value} {Q : Value × FrameMode → St → Prop} {s0 : St} (hb0 : s0.lim ≤ s0.next) (hcx : s0.cx = .cx none (some [])) (hdis : ∀ x, BsF v0 x → ¬ In D 0 74 x) : ∀ (f n : Nat) (tm : T Value) (s : St) (td : List Item) (d : DS) (b : List Nat) (v : Value), b.length ≤ f → 20 * f + 60 ≤ n → skim 64 td = FM → Ext (DigF D v0) (In D 0 74) s0 s → Dig s D d → d.n + b.length ≤ 1000000000 → (b ≠ [] → Bn s v b) → Bs s v b → Byt b → (∀ x, BsF v x → BsF v0 x) →
   T.get tm 0 = some (.pointer (some ⟨D, 0, none⟩)) → T.get tm 1 = some v → (∀ s1, Ext (DigF D v0) (In D 0 74) s0 s1 → Dig s1 D (DS.write f d b) → Q (.tuple #[], .run) s1) →
   W (runF envS n ⟨111, OH_, Ds, tm, td, .run, .normal, none⟩) s Q := by
 intro f
 induction f with
 | zero =>
   intro n tm s td d b v hf hn hT hx hd hmax hbn hbs hbyt hv h0 h1 q
   have hb : b = [] := List.eq_nil_of_length_eq_zero (by omega)
   subst hb
   refine Sk.w hT (by omega) ?_
   simp -implicitDefEqProofs only [Lj, Ad, W_oS, Aa, W_mv, Ac, Ap, Al, Ak, Dk, h1, hbs.len A1]
   refine W.cond (v := false) RY Pk (by simp [T.get_set]) (by omega) (fun h => by cases h) fun _ => ?_
   refine W.end' (rs := []) (vs := []) ZH (.inr (by kernel_rfl)) (by omega) Q0 SI (hx.cx.trans hcx) rfl ?_
   exact q s hx hd
 | succ f ih =>
   intro n tm s td d b v hf hn hT hx hd hmax hbn hbs hbyt hv h0 h1 q
   by_cases hbe : b.length = 0
   · have hb : b = [] := List.eq_nil_of_length_eq_zero hbe
     subst hb
     refine Sk.w hT (by omega) ?_
     simp -implicitDefEqProofs only [Lj, Ad, W_oS, Aa, W_mv, Ac, Ap, Al, Ak, Dk, h1, hbs.len A1]
     refine W.cond (v := false) RY Pk (by simp [T.get_set]) (by omega) (fun h => by cases h) fun _ => ?_
     refine W.end' (rs := []) (vs := []) ZH (.inr (by kernel_rfl)) (by omega) Q0 SI (hx.cx.trans hcx) rfl ?_
     exact q s hx hd
   · have hbne : b ≠ [] := fun e => hbe (by rw [e]; rfl)
     obtain ⟨hk1, hk2⟩ := d.k_le b
     have hm : d.n % 64 < 64 := Nat.mod_lt _ (by decide)
     have hk0 : 0 < d.k b := by
       unfold DS.k
       exact Nat.lt_min.2 ⟨by omega, by omega⟩
     refine Sk.w hT (by omega) ?_
     simp -implicitDefEqProofs only [Lj, Ad, W_oS, Aa, W_mv, Ac, Ap, Al, Ak, Dk, h1, hbs.len A1]
     refine W.cond (v := true) RY Pk (by simp [T.get_set]; omega) (by omega) (fun _ => ?_) fun h => by cases h
     refine PL_.w XK_ (by omega) ?_
     simp -implicitDefEqProofs only [S8, Ad, W_oS, Aa, W_mv, Ac, T.get_set, reduceIte, Bu, reduceCtorEq, ↓reduceIte, h0, B8 KP (by decide : 0 < 1)]
     refine W.load1 Ix hd.n.at' ?_
     have hxa : Ext (DigF D v0) (In D 0 74) s0 (s.rdN (D + (0 + 73))) := hx.trans (Ext.rdN (F := DigF D v0) s _ fun _ => .inl ⟨by omega, by omega⟩) hb0 (fun _ _ h => h) fun _ _ h => h
     have hda : Dig (s.rdN (D + (0 + 73))) D d := hd.same rfl rfl
     have hba : Bn (s.rdN (D + (0 + 73))) v b := (hbn hbne).same rfl rfl
     generalize s.rdN (D + (0 + 73)) = sa at hxa hda hba ⊢
     simp -implicitDefEqProofs only [SG]
     refine HV_.w Sj_ (by omega) ?_
     simp -implicitDefEqProofs only [Wf, Ad, W_oS, W_on, Aa, W_mv, Ac, T.get_set, Ap, Al, Ak, reduceIte, Bu, Nat.reduceEqDiff, reduceCtorEq, ↓reduceIte, h0, h1, B8 S4 (by decide : 0 < 64), Gl (lo := some (.int .i64 ((d.n % 64 : Nat) : Int))) (hi := none) (l := d.n % 64) (h := 64) Xf (BD (by decide)) rfl rfl (by omega) (Nat.le_refl _)]
     rw [if_neg (by omega)]
     obtain ⟨p, c, rfl⟩ := hba.bs.sl
     refine W.copy E3 rfl (hba.bs.srcK hk1) (by rw [A0, List.length_take]; show Nat.min (d.k b) b.length = d.k b * 1; rw [Nat.mul_one]; exact Nat.min_eq_left hk1) (BT _) (fun i hi => ?_) fun sb nb xb rb => ?_
     · have hi' : i < d.k b * 1 := hi
       have := hda.w (d.n % 64 + i) (u8 (d.w[d.n % 64 + i]'(by rw [hda.len]; omega))) (by rw [List.getElem?_map, List.getElem?_eq_getElem (by rw [hda.len]; omega)]; rfl)
       exact ⟨_, by rw [show 0 + 9 + d.n % 64 * 1 + i = 9 + (d.n % 64 + i) by omega]; exact this⟩
     have hdisb : ∀ x, BsF (.slice p b.length c) x → ¬ In D 0 74 x := fun x hx' => hdis x (hv x hx')
     have hxb : Ext (DigF D v0) (In D 0 74) s0 sb := hxa.trans xb hb0 (fun x _ h => by
       rcases h with h | h
       · exact .inr (hv x h)
       · exact .inl ⟨by have := h.1; omega, by have := h.2; have h3 : d.k b ≤ 64 := by omega
                                               have h4 : x < D + (0 + 9 + d.n % 64 * 1) + d.k b * 1 := h.2
                                               omega⟩) fun x _ h => ⟨by have := h.1; omega, by have h4 : x < D + (0 + 9 + d.n % 64 * 1) + d.k b * 1 := h.2
                                                                                               omega⟩
     have hdb : Dig sb D ⟨d.st, d.w' b, d.n⟩ := hda.lay xb rb hbyt
     have hbb : Bn sb (.slice p b.length c) b := hba.ext xb fun x hx' h => hdisb x hx' ⟨by have := h.1; omega, by have h4 : x < D + (0 + 9 + d.n % 64 * 1) + d.k b * 1 := h.2
                                                                                                                  omega⟩
     clear xb rb hda hba hxa nb
     have hkmin : Nat.min (64 - d.n % 64) b.length = d.k b := rfl
     simp -implicitDefEqProofs only [hkmin]
     refine Rv_.w WI_ (by omega) ?_
     simp -implicitDefEqProofs only [SN, Ad, W_on, Aa, W_mv, Ac, T.get_set, Ak, reduceIte, Nat.reduceEqDiff, ↓reduceIte, h1]
     refine W.cut hbb A1 (i := d.k b) (j := b.length) rfl rfl hk1 (Nat.le_refl _) fun v1 hv1 hF1 => ?_
     rw [List.take_length] at hv1
     refine Rq_.w HW_ (by omega) ?_
     simp -implicitDefEqProofs only [Vq, Ad, W_oS, Aa, W_mv, T.get_set, reduceIte, Bu, Nat.reduceEqDiff, reduceCtorEq, ↓reduceIte, h0, B8 KP (by decide : 0 < 1)]
     refine W.load1 Ix hdb.n.at' ?_
     have en : wrap64 ((d.n : Nat) + (d.k b : Nat) : Int) = ((d.n + d.k b : Nat) : Int) := by
       rw [Bl (by omega) (by omega)]; simp
     simp -implicitDefEqProofs only [BY, en]
     have hxb1 : Ext (DigF D v0) (In D 0 74) s0 (sb.rdN (D + (0 + 73))) := hxb.trans (Ext.rdN (F := DigF D v0) sb _ fun _ => .inl ⟨by omega, by omega⟩) hb0 (fun _ _ h => h) fun _ _ h => h
     have hdb1 : Dig (sb.rdN (D + (0 + 73))) D ⟨d.st, d.w' b, d.n⟩ := hdb.same rfl rfl
     have hv2 : Bn (sb.rdN (D + (0 + 73))) v1 (b.drop (d.k b)) := hv1.same rfl rfl
     generalize sb.rdN (D + (0 + 73)) = sc at hxb1 hdb1 hv2 ⊢
     refine W.store1 Ix rfl hdb1.n fun se ne xe oe => ?_
     have hxe : Ext (DigF D v0) (In D 0 74) s0 se := hxb1.trans xe hb0 (fun x _ h => .inl ⟨by have := h.1; omega, by have := h.2; omega⟩) fun x _ h => ⟨by have := h.1; omega, by have := h.2; omega⟩
     have hde : Dig se D ⟨d.st, d.w' b, d.n + d.k b⟩ := hdb1.setN xe oe
     have hve : Bn se v1 (b.drop (d.k b)) := hv2.ext xe fun x hx' h => hdisb x (hF1 x hx') ⟨by have := h.1; omega, by have := h.2; omega⟩
     clear xe oe hdb1 hv2 hxb1 hdb hxb
     refine Px_.w Sc_ (by omega) ?_
     have ea : wrap64 ((d.n % 64 : Nat) + (d.k b : Nat) : Int) = ((d.n % 64 + d.k b : Nat) : Int) := by
       rw [Bl (by omega) (by omega)]; simp
     simp -implicitDefEqProofs only [TZ, Ad, W_oS, Aa, W_mv, Ac, T.get_set, reduceIte, Nat.reduceEqDiff, ↓reduceIte, BY, Gv, ea]
     have hlen1 : (b.drop (d.k b)).length ≤ f := by rw [List.length_drop]; omega
     have hmax1 : d.n + d.k b + (b.drop (d.k b)).length ≤ 1000000000 := by rw [List.length_drop]; omega
     have hby1 : Byt (b.drop (d.k b)) := fun x hx' => hbyt x (List.mem_of_mem_drop hx')
     by_cases hfull : d.n % 64 + d.k b = 64
     · refine W.cond (v := true) Tr Zg (by simp [T.get_set]; omega) (by omega) (fun _ => ?_) fun h => by cases h
       refine WZ_.w CE_ (by omega) ?_
       have hde' : Dig (dSt se.mem se.next) D ⟨d.st, d.w' b, d.n + d.k b⟩ := hde.same rfl rfl
       simp -implicitDefEqProofs only [AY_, T.get_set, Nat.reduceEqDiff, ↓reduceIte, h0, Ci, Dx, A5]
       rw [W_dq fun s Q => Bu (s := s) ⟨D, 0, none⟩ Q, W_dq fun s Q => B8 (s := s) Oh (by decide : 0 < 8) Q]
       refine W.dloadA Is hde'.st.row (Dn _) fun mem1 rd1 hm1 hr1 => ?_
       rw [hm1]
       simp -implicitDefEqProofs only [A5]
       rw [W_dq fun s Q => Bu (s := s) ⟨D, 0, none⟩ Q, W_dq fun s Q => B8 (s := s) S4 (by decide : 0 < 64) Q, W_dq fun s Q => Gl (s := s) (lo := none) (hi := none) (l := 0) (h := 64) Xf (BD (by decide)) rfl rfl (Nat.zero_le _) (Nat.le_refl _) Q]
       simp -implicitDefEqProofs only [Ap, Al, Ak, Dx]
       refine W.dop ?_
       rw [AW]
       refine W.orc (m := EF) (by kernel_rfl) ?_
       refine W.next hde.ok (hde'.w.row.same' rfl rfl) hde'.len hde'.byt fun s1 m1 n1 x1 => ⟨In D 9 64, x1, fun rd2 hr2 => ?_⟩
       have m1' : s1.mem = se.mem := m1
       have n1' : s1.next = se.next := n1
       rw [m1', n1']
       simp -implicitDefEqProofs only [A5]
       rw [W_dq fun s Q => Bu (s := s) ⟨D, 0, none⟩ Q, W_dq fun s Q => B8 (s := s) Oh (by decide : 0 < 8) Q]
       rw [Aa]
       refine ⟨Fo (by simp) (by simp), ?_⟩
       refine W.cast (NC_ _ _ _ _ _ _ _ _ _ _ _ _ _ _ _ _ _) ?_
       simp -implicitDefEqProofs only [Ad, W_oS, Aa]
       generalize hs' : (⟨(dSt se.mem se.next).mem, (dSt se.mem se.next).next, se.lim, _, _, se.cx⟩ : St) = s'
       have hx' : Ext (DigF D v0) (In D 0 74) s0 s' := by
         rw [← hs']
         refine hxe.trans (Ext.draw (F := fun x => In D 0 74 x) (Nat.le_refl _) (fun _ _ => rfl) (by simp) (by
           simp -implicitDefEqProofs only [List.mem_cons, List.not_mem_nil, or_false]
           rintro m (rfl | rfl | rfl | rfl | rfl | rfl | rfl | rfl | rfl | rfl | rfl | rfl) x hx _ <;> first | (have h3 := hr1 _ hx; exact ⟨by have := h3.1; omega, by have := h3.2; omega⟩) | (have h3 := (hr2 _ hx).2; exact ⟨by have := h3.1; omega, by have := h3.2; omega⟩) | (cases hx))) hb0 (fun _ _ h => .inl h) fun _ _ h => h.elim
       have hdf : Dig s' D ⟨d.st, d.w' b, d.n + d.k b⟩ := by rw [← hs']; exact hde.same rfl rfl
       have hvf : Bn s' v1 (b.drop (d.k b)) := by rw [← hs']; exact hve.same rfl rfl
       clear hs' hr1 hr2 hm1 m1 n1 m1' n1' x1
       have hr : (Sha.next d.st fun j => (d.w' b).getD j 0).Ok := Sha.plus_ok _ _
       have hst : d.step b = ⟨Sha.next d.st fun j => (d.w' b).getD j 0, d.w' b, d.n + d.k b⟩ := by unfold DS.step; rw [if_pos hfull]
       generalize (Sha.next d.st fun j => (d.w' b).getD j 0) = r at hr hst ⊢
       refine W.store Is rfl rfl (fun i hi => ⟨_, by rw [show 0 + 1 + i = 1 + i by omega]; exact hdf.st i _ (List.getElem?_eq_getElem hi)⟩) fun sf nf xf rf => ?_
       have hxf : Ext (DigF D v0) (In D 0 74) s0 sf := hx'.trans xf hb0 (fun x _ h => .inl ⟨by have := h.1; omega, by have := h.2; omega⟩) fun x _ h => ⟨by have := h.1; omega, by have := h.2; omega⟩
       have hdg : Dig sf D ⟨r, d.w' b, d.n + d.k b⟩ := hdf.setSt hr xf rf
       have hvg : Bn sf v1 (b.drop (d.k b)) := hvf.ext xf fun x hx' h => hdisb x (hF1 x hx') ⟨by have := h.1; omega, by have := h.2; omega⟩
       refine ih _ _ _ _ ⟨r, d.w' b, d.n + d.k b⟩ (b.drop (d.k b)) v1 hlen1 (by omega) Mf_ hxf hdg hmax1 (fun _ => hvg) hvg.bs hby1 (fun x hx' => hv x (hF1 x hx')) (by simp [T.get_set, h0]) (by simp [T.get_set]) fun s1 x1 d1 => q s1 x1 ?_
       unfold DS.write
       rw [if_neg hbe, hst]
       exact d1
     · refine W.cond (v := false) Tr Zg (by simp [T.get_set]; omega) (by omega) (fun h => by cases h) fun _ => ?_
       refine ih _ _ _ _ ⟨d.st, d.w' b, d.n + d.k b⟩ (b.drop (d.k b)) v1 hlen1 (by omega) Uk_ hxe hde hmax1 (fun _ => hve) hve.bs hby1 (fun x hx' => hv x (hF1 x hx')) (by simp [T.get_set, h0]) (by simp [T.get_set]) fun s1 x1 d1 => q s1 x1 ?_
       have : d.step b = ⟨d.st, d.w' b, d.n + d.k b⟩ := by unfold DS.step; rw [if_neg hfull]
       unfold DS.write
       rw [if_neg hbe, this]
       exact d1
theorem BN_ {D n : Nat} {v : Value} {Q : Value → St → Prop} {s : St} {d : DS} {b : List Nat} (hbd : s.lim ≤ s.next) (hdis : ∀ x, BsF v x → ¬ In D 0 74 x) (hd : Dig s D d) (hmax : d.n + b.length ≤ 1000000000) (hbn : b ≠ [] → Bn s v b) (hbs : Bs s v b) (hbyt : Byt b) (hn : 20 * b.length + 100 ≤ n)
   (q : ∀ s1, Ext (DigF D v) (In D 0 74) s s1 → Dig s1 D (DS.write b.length d b) → Q (.tuple #[]) s1) : W (Au envS (runF envS n) 111 [.pointer (some ⟨D, 0, none⟩), v]) s Q := by
 refine In_ fun tm h0 h1 => ?_
 have hd' : Dig (s.cxN cxN) D d := hd.same rfl rfl
 refine Tp_.w rfl (by omega) ?_
 simp -implicitDefEqProofs only [AS_, Ad, W_oS, W_on, Aa, W_mv, Ac, reduceIte, AX, Bg, A7, Bh, AV, Bu, reduceCtorEq, ↓reduceIte, h0, U1 Ai_, B8 BL_ (by decide : 0 < 1)]
 refine W.load1 UM hd'.made.at' ?_
 simp -implicitDefEqProofs only [De]
 refine W.cond (v := false) Dl_ HI_ (by simp [T.get_set]) (by omega) (fun h => by cases h) fun _ => ?_
 refine DB_ (s0 := s.cxN cxN) (v0 := v) hbd rfl hdis b.length _ _ _ _ d b v (Nat.le_refl _) (by omega) SO_ (Ext.rdN (F := DigF D v) _ _ fun _ => .inl ⟨by omega, by omega⟩) (hd'.same rfl rfl) hmax (fun h => (hbn h).same rfl rfl) (hbs.same rfl rfl) hbyt (fun x h => h) (by simp [T.get_set, h0]) (by simp [T.get_set, h1]) fun s1 x1 d1 => q _ x1.cx' (d1.same rfl rfl)
theorem JA_ : D6 envS 163 = some (List.replicate 8 (.int .u32 0)) := by kernel_rfl
theorem NP_ (r : Sha.St8) : Dr envS 167 [(0, .bool true), (1, .agg (st8V r))] = some (.bool true :: ((st8V r).toList ++ (u8l (List.replicate 64 0) ++ [.int .i64 ((0 : Nat) : Int)]))) := by kernel_rfl
theorem NJ_ : Dr envS 163 [(0, .int .u32 1779033703), (1, .int .u32 3144134277), (2, .int .u32 1013904242), (3, .int .u32 2773480762), (4, .int .u32 1359893119), (5, .int .u32 2600822924), (6, .int .u32 528734635), (7, .int .u32 1541459225)] = some (st8V DN).toList := by kernel_rfl
theorem Td_ {n : Nat} {s : St} {Q : Value → St → Prop} (hbd : s.lim ≤ s.next) (hn : 10 ≤ n) (q : ∀ s1, Ext Non Non s s1 → Q (.agg (st8V DN)) s1) : W (Au envS (runF envS n) 133 []) s Q := by
 refine QJ_ fun tm => ?_
 refine VK_.w rfl (by omega) ?_
 simp -implicitDefEqProofs only [Yj, Ad, Aa, Ac]
 refine W.alloc JA_ fun sa na xa oa => ?_
 refine DM_.w Ou_ (by omega) ?_
 simp -implicitDefEqProofs only [BB_, Ad, W_oS, Aa, T.get_set, Bj, Bd, Ak, reduceIte, ↓reduceIte, D8 NJ_]
 refine W.store Is rfl rfl (fun i hi => ⟨.int .u32 0, by rw [Nat.zero_add]; have := oa i (.int .u32 0) (by rw [List.getElem?_replicate]; rw [if_pos hi]); rw [Nat.zero_add] at this; exact this⟩) fun sb nb xb ob => ?_
 refine W.endC (r := 0) (t := 163) PY_ (.inl Em_) (by omega) Z1 ND_ (xb.cx.trans xa.cx) (by simp [T.get_set]; rfl) ?_
 refine W.loadA Is ob.row rfl fun sc mc nc xc => ?_
 have x : Ext Non Non s (sc.cxN s.cx) := ((xa.trans xb hbd (fun x h g => by have g1 : s.next + 0 ≤ x := g.1; have h1 : x < s.lim := h; omega) fun x h g => by have g1 : s.next + 0 ≤ x := g.1; have h1 : x < s.next := h; omega).trans xc hbd (fun x h g => by have g1 : s.next + 0 ≤ x := g.1; have h1 : x < s.lim := h; omega) fun x h g => g.elim).cx'
 exact q _ x
def DS.new : DS := ⟨DN, List.replicate 64 0, 0⟩
theorem Rf_ {n : Nat} {s : St} {Q : Value → St → Prop} (hbd : s.lim ≤ s.next) (hn : 30 ≤ n) (q : ∀ s1 D, s.next ≤ D → D + 74 ≤ s1.next → Ext Non Non s s1 → Dig s1 D DS.new → Q (.pointer (some ⟨D, 0, none⟩)) s1) : W (Au envS (runF envS n) 110 []) s Q := by
 refine Fl_ fun tm => ?_
 refine VR_.w rfl (by omega) ?_
 simp -implicitDefEqProofs only [SE, Aa, W_mv, Ac]
 refine Lz_.w ML_ (by omega) ?_
 simp -implicitDefEqProofs only [ZK, Ad, W_oS, W_on, Aa, W_mv, Ac, Al, Bj, Bd, Ak, AW]
 refine Td_ (s := s.cxN cxN) hbd (by omega) fun sa xa => ?_
 simp -implicitDefEqProofs only [D8 (NP_ DN)]
 refine W.box fun sb nb xb ob => ?_
 refine W.end' (rs := [0]) (vs := [.pointer (some ⟨sa.next, 0, none⟩)]) NX_ (.inl NU_) (by omega) Ax_ Tw_ (xb.cx.trans xa.cx) (by simp [T.get_set]) ?_
 have hx : Ext Non Non s (sb.cxN s.cx) := (xa.trans xb hbd (fun x h g => g) fun x h g => g).cx'
 have ob' : Af (sb.cxN s.cx) sa.next 0 (.bool true :: ((st8V DN).toList ++ (u8l (List.replicate 64 0) ++ [.int .i64 ((0 : Nat) : Int)]))) := fun i v e => (ob i v e).same rfl rfl
 refine q _ sa.next xa.nxt ?_ hx ⟨?_, ?_, ?_, ?_, rfl, ?_, PR_⟩
 · have h : (sb.cxN s.cx).next = sa.next + 74 + 1 := nb
   omega
 · exact ob' 0 _ rfl
 · intro i v e
   have e : (st8V DN).toList[i]? = some v := e
   have hi := (List.getElem?_eq_some_iff.1 e).1
   have := ob' (1 + i) v (by rw [Nat.add_comm, List.getElem?_cons_succ, List.getElem?_append_left hi]; exact e)
   rw [Nat.zero_add] at this
   exact this
 · intro i v e
   have e : (u8l (List.replicate 64 0))[i]? = some v := e
   have hi := (List.getElem?_eq_some_iff.1 e).1
   have := ob' (9 + i) v (by rw [show 9 + i = (8 + i) + 1 by omega, List.getElem?_cons_succ, List.getElem?_append_right (by rw [Dn]; omega), Dn, show 8 + i - 8 = i by omega, List.getElem?_append_left hi]; exact e)
   rw [Nat.zero_add] at this
   exact this
 · exact ob' 73 _ rfl
 · intro x hx
   have hx : x ∈ List.replicate 64 0 := hx
   rw [List.mem_replicate] at hx
   omega
theorem V7 : hasT envS 3 = true := by kernel_rfl
def tl8 (N : Nat) : Nat → List Nat
  | 0 => []
  | k + 1 => (N >>> (8 * k)) % 256 :: tl8 N k
theorem Yn (N : Nat) : ∀ k, (tl8 N k).length = k
 | 0 => rfl
 | k + 1 => by unfold tl8; rw [List.length_cons, Yn N k]
theorem BY_ (N : Nat) : ∀ k, Byt (tl8 N k)
 | 0 => fun x hx => by cases hx
 | k + 1 => fun x hx => by
   unfold tl8 at hx
   rcases List.mem_cons.1 hx with rfl | hx
   · exact Nat.mod_lt _ (by decide)
   · exact BY_ N k x hx
abbrev PadF (D B : Nat) : Nat → Prop := fun x => In D 0 74 x ∨ In B 0 80 x
theorem TX_ {D B : Nat} {a2 a3 a4 : Value} {d : DS} {Q : Value × FrameMode → St → Prop} {s0 : St} (hmax : 8 * d.n ≤ 9223372036854775807) (hb0 : s0.lim ≤ s0.next) (hdis : D + 74 ≤ B ∨ B + 80 ≤ D) (hB : B + 80 ≤ s0.next) : ∀ (k n : Nat) (tm : T Value) (s : St) (td : List Item) (p : List Nat), k ≤ 8 → 10 * k + 20 ≤ n → skim 64 td = HH → Ext (PadF D B) (In B 0 80) s0 s → Dig s D d → Af s B 0 (u8l p) → AT s B 0 80 → p.length + k ≤ 80 →
   T.get tm 0 = some (.pointer (some ⟨D, 0, none⟩)) → T.get tm 2 = some a2 → T.get tm 3 = some a3 → T.get tm 4 = some a4 → T.get tm 5 = some (.slice (some ⟨B, 0, none⟩) p.length 80) → T.get tm 6 = some (.int .i64 (8 * ((k : Nat) : Int) - 8)) →
   (∀ n' tm' s1 td', n ≤ n' + 10 * k + 5 → skim 64 td' = Ih → Ext (PadF D B) (In B 0 80) s0 s1 → Dig s1 D d → Af s1 B 0 (u8l (p ++ tl8 (8 * d.n) k)) → T.get tm' 0 = some (.pointer (some ⟨D, 0, none⟩)) → T.get tm' 2 = some a2 → T.get tm' 3 = some a3 → T.get tm' 4 = some a4 → T.get tm' 5 = some (.slice (some ⟨B, 0, none⟩) (p.length + k) 80) → W (runF envS n' ⟨112, HQ, BW, tm', td', .run, .normal, none⟩) s1 Q) →
   W (runF envS n ⟨112, HQ, BW, tm, td, .run, .normal, none⟩) s Q := by
 intro k
 induction k with
 | zero =>
   intro n tm s td p hk hn hT hx hd ho hw hl h0 h2 h3 h4 h5 h6 q
   refine AI_.w hT (by omega) ?_
   simp -implicitDefEqProofs only [PN, Ad, W_oS, Aa, W_mv, Ac, OK, h6]
   refine W.cond (v := false) U5 Cf_ (by simp [T.get_set]) (by omega) (fun h => by cases h) fun _ => ?_
   refine q _ _ _ _ (by omega) HH_ hx hd ?_ (by simp [T.get_set, h0]) (by simp [T.get_set, h2]) (by simp [T.get_set, h3]) (by simp [T.get_set, h4]) (by simp [T.get_set, h5])
   rw [show tl8 (8 * d.n) 0 = [] from rfl, List.append_nil]
   exact ho
 | succ k ih =>
   intro n tm s td p hk hn hT hx hd ho hw hl h0 h2 h3 h4 h5 h6 q
   have ec : (8 * ((k + 1 : Nat) : Int) - 8) = ((8 * k : Nat) : Int) := by omega
   rw [ec] at h6
   refine AI_.w hT (by omega) ?_
   simp -implicitDefEqProofs only [PN, Ad, W_oS, Aa, W_mv, Ac, OK, h6]
   refine W.cond (v := true) U5 Cf_ (by simp [T.get_set]; omega) (by omega) (fun _ => ?_) fun h => by cases h
   refine Nf_.w ED_ (by omega) ?_
   simp -implicitDefEqProofs only [WT, Ad, W_oS, Aa, W_mv, Ac, T.get_set, Ap, Al, Bj, Bd, Ak, reduceIte, Bu, Nat.reduceEqDiff, reduceCtorEq, ↓reduceIte, h0, h5, h6, B8 KP (by decide : 0 < 1)]
   refine W.load1 Ix hd.n.at' ?_
   have hxa : Ext (PadF D B) (In B 0 80) s0 (s.rdN (D + (0 + 73))) := hx.trans (Ext.rdN (F := PadF D B) s _ fun _ => .inl ⟨by omega, by omega⟩) hb0 (fun _ _ h => h) fun _ _ h => h
   have hda : Dig (s.rdN (D + (0 + 73))) D d := hd.same rfl rfl
   have hoa : Af (s.rdN (D + (0 + 73))) B 0 (u8l p) := fun i v e => (ho i v e).same rfl rfl
   have hwa : AT (s.rdN (D + (0 + 73))) B 0 80 := fun j hj => let ⟨u, h⟩ := hw j hj; ⟨u, h.same rfl rfl⟩
   generalize s.rdN (D + (0 + 73)) = sa at hxa hda hoa hwa ⊢
   simp -implicitDefEqProofs only [PG_ hmax, JM (k := .i64) (kk := .i64) (n := 8 * k) (show 8 * k ≤ 64 by omega), FG V7 IB, wrap_u8]
   have hba : sa.lim ≤ sa.next := hxa.bnd hb0
   refine W.buildS hba (r := u8l [(8 * d.n) >>> (8 * k) % 256]) E3 (by decide) rfl (BD (by decide)) fun sb nb xb rb => ?_
   have hxb : Ext (PadF D B) (In B 0 80) s0 sb := hxa.trans xb hb0 (fun _ _ h => h.elim) fun _ _ h => h.elim
   have hBs : Bs sb (.slice (some ⟨sa.next, 0, none⟩) 1 1) [(8 * d.n) >>> (8 * k) % 256] := Af.bn rb (BD (by simp))
   have hob : Af sb B 0 (u8l p) := hoa.ext0 xb
   have hwb : AT sb B 0 80 := fun j hj => let ⟨u, h⟩ := hwa j hj; ⟨u, h.ext0 xb⟩
   simp -implicitDefEqProofs only [E5]
   refine W.appIn (n := 1) Ic hBs.src.g (by rw [Nat.mod_eq_of_lt (BD (by decide))]; omega) rfl (BT _) (fun i hi => ?_) fun sc nc xc rc => ?_
   · have := hwb (p.length + i) (by omega)
     rw [show 0 + p.length * 1 + i = 0 + (p.length + i) by omega]
     exact this
   have sub : ∀ x, In B (0 + p.length * 1) (1 * 1) x → In B 0 80 x := fun x h => ⟨by have := h.1; omega, by
     have h4 : x < B + (0 + p.length * 1) + 1 * 1 := h.2
     omega⟩
   have nod : ∀ i, i < 74 → ¬ In B (0 + p.length * 1) (1 * 1) (D + i) := fun i hi h => by
     have h3 : B + (0 + p.length * 1) ≤ D + i := h.1
     have h4 : D + i < B + (0 + p.length * 1) + 1 * 1 := h.2
     omega
   have hxc : Ext (PadF D B) (In B 0 80) s0 sc := hxb.trans xc hb0 (fun x hx' h => by
     rcases h with h | h
     · have h1 : sa.next + 0 ≤ x := h.1
       have h2 := hxa.nxt
       omega
     · exact .inr (sub x h)) fun x _ h => sub x h
   have hdc : Dig sc D d := ⟨hda.made.ext0 xb |>.ext xc (nod 0 (by decide)), (hda.st.ext0 xb).ext xc fun i hi => nod (1 + i) (by rw [Dn] at hi; omega), (hda.w.ext0 xb).ext xc fun i hi => nod (9 + i) (by rw [A0, hda.len] at hi; omega), (hda.n.ext0 xb).ext xc (nod 73 (by decide)), hda.len, hda.byt, hda.ok⟩
   have hoc : Af sc B 0 (u8l (p ++ [(8 * d.n) >>> (8 * k) % 256])) := by
     have e : u8l (p ++ [(8 * d.n) >>> (8 * k) % 256]) = u8l p ++ u8l [(8 * d.n) >>> (8 * k) % 256] := List.map_append
     rw [e]
     refine Af.append (hob.ext xc fun i hi h => ?_) ?_
     · rw [A0] at hi
       have h1 : B + (0 + p.length * 1) ≤ B + (0 + i) := h.1
       omega
     · rw [A0, show 0 + p.length = 0 + p.length * 1 by omega]
       exact rc
   have hwc : AT sc B 0 80 := hwb.ext xc rc
   have hlp : (p ++ [(8 * d.n) >>> (8 * k) % 256]).length = p.length + 1 := by simp
   refine CD_.w Hz_ (by omega) ?_
   have e8 : wrap64 (((8 * k : Nat) : Int) - 8) = 8 * ((k : Nat) : Int) - 8 := by
     rw [Bl (by omega) (by omega)]; omega
   simp -implicitDefEqProofs only [ZQ, Ad, W_oS, Aa, W_mv, Ac, T.get_set, reduceIte, Nat.reduceEqDiff, ↓reduceIte, Ep, h6, e8]
   refine ih _ _ sc _ (p ++ [(8 * d.n) >>> (8 * k) % 256]) (by omega) (by omega) SI_ hxc hdc hoc hwc (by omega) (by simp [T.get_set, h0]) (by simp [T.get_set, h2]) (by simp [T.get_set, h3]) (by simp [T.get_set, h4]) (by simp [T.get_set]) (by simp [T.get_set]) fun n' tm' s1 td' e1 e2 e3 e4 e5 e6 e7 e8 e9 e10 => q n' tm' s1 td' (by omega) e2 e3 e4 ?_ e6 e7 e8 e9 ?_
   · rw [List.append_assoc] at e5
     exact e5
   · rw [hlp] at e10
     rw [e10, show p.length + 1 + k = p.length + (k + 1) by omega]
theorem SW : arrN envS 101 = some (32, 1) := by kernel_rfl
theorem WE_ : arrU envS 163 = some 8 := by kernel_rfl
def be4 (x : Nat) : List Nat := [x >>> 24 % 256, x >>> 16 % 256, x >>> 8 % 256, x % 256]
def outs : List Nat → List Nat
  | [] => []
  | x :: l => be4 x ++ outs l
theorem ND : ∀ l : List Nat, (outs l).length = 4 * l.length
 | [] => rfl
 | x :: l => by
   unfold outs
   rw [List.length_append, ND l, List.length_cons]
   show 4 + _ = _
   omega
theorem VC (x : Nat) : ∀ l : List Nat, outs (l ++ [x]) = outs l ++ be4 x
 | [] => by show be4 x ++ [] = _; rw [List.append_nil]; rfl
 | y :: l => by
   show be4 y ++ outs (l ++ [x]) = (be4 y ++ outs l) ++ be4 x
   rw [VC x l, List.append_assoc]
theorem EE_ {O : Nat} {a2 : Value} {cs : Array Value} {l : List Nat} (hl8 : l.length = 8) (hcs : ∀ i (h : i < l.length), cs.toList[i]? = some (.int .u32 (l[i] : Nat))) {Q : Value × FrameMode → St → Prop} {s0 : St} (hb0 : s0.lim ≤ s0.next) : ∀ (k i n : Nat) (tm : T Value) (s : St) (td : List Item), i + k = 8 → 10 * k + 20 ≤ n → skim 64 td = GF → Ext (In O 0 32) (In O 0 32) s0 s → Af s O 0 (u8l (outs (l.take i))) → AT s O 0 32 →
   T.get tm 2 = some a2 → T.get tm 3 = some (.pointer (some ⟨O, 0, none⟩)) → T.get tm 51 = some (.agg cs) → T.get tm 52 = some (.int .i64 (i : Nat)) →
   (∀ n' tm' s1 td', n ≤ n' + 10 * k + 5 → skim 64 td' = Ij → Ext (In O 0 32) (In O 0 32) s0 s1 → Af s1 O 0 (u8l (outs l)) → T.get tm' 2 = some a2 → T.get tm' 3 = some (.pointer (some ⟨O, 0, none⟩)) → W (runF envS n' ⟨112, HQ, BW, tm', td', .run, .normal, none⟩) s1 Q) →
   W (runF envS n ⟨112, HQ, BW, tm, td, .run, .normal, none⟩) s Q := by
 intro k
 induction k with
 | zero =>
   intro i n tm s td hi hn hT hx ho hw h2 h3 h51 h52 q
   refine Wa.w hT (by omega) ?_
   simp -implicitDefEqProofs only [N9, Ad, W_oS, Aa, Ac, h52, show (8 : Int) = ((8 : Nat) : Int) from rfl]
   simp -implicitDefEqProofs only [Bm]
   refine W.cond (v := false) XX Yt (by simp [T.get_set]; omega) (by omega) (fun h => by cases h) fun _ => ?_
   rw [show i = l.length by omega, List.take_length] at ho
   exact q _ _ _ _ (by omega) WH_ hx ho (by simp [T.get_set, h2]) (by simp [T.get_set, h3])
 | succ k ih =>
   intro i n tm s td hi hn hT hx ho hw h2 h3 h51 h52 q
   have hil : i < l.length := by omega
   refine Wa.w hT (by omega) ?_
   simp -implicitDefEqProofs only [N9, Ad, W_oS, Aa, Ac, h52]
   simp -implicitDefEqProofs only [Bm]
   refine W.cond (v := true) XX Yt (by simp [T.get_set]; omega) (by omega) (fun _ => ?_) fun h => by cases h
   refine Ih_.w Si_ (by omega) ?_
   simp -implicitDefEqProofs only [BT_, Ad, W_oS, Aa, W_mv, Ac, T.get_set, reduceIte, Nat.reduceEqDiff, ↓reduceIte, h51, h52, RH_ WE_ (show i < 8 by omega) (hcs i hil)]
   refine Iq_.w Vo_ (by omega) ?_
   generalize hxe : l[i] = x
   simp -implicitDefEqProofs only [X5, Ad, W_oS, W_on, Aa, W_mv, T.get_set, Ap, Al, Bj, Bd, Ak, reduceIte, Nat.reduceEqDiff, ↓reduceIte, h3, GZ_ (show 4 * i ≤ 9223372036854775807 by omega), Gl (lo := some (.int .i64 ((4 * i : Nat) : Int))) (hi := none) (l := 4 * i) (h := 32) SW (BD (by decide)) rfl rfl (by omega) (Nat.le_refl _)]
   rw [if_neg (by omega)]
   simp -implicitDefEqProofs only [FG Pv IB, wrap_u8, JL (k := .u32) (by decide), TB (k := .u32) (by decide), T5 (k := .u32) (by decide)]
   have hba : s.lim ≤ s.next := hx.bnd hb0
   refine W.buildS hba (r := u8l (be4 x)) E3 (by decide) rfl (BD (by decide)) fun sb nb xb rb => ?_
   have hxb : Ext (In O 0 32) (In O 0 32) s0 sb := hx.trans xb hb0 (fun _ _ h => h.elim) fun _ _ h => h.elim
   have hBs : Bs sb (.slice (some ⟨s.next, 0, none⟩) 4 4) (be4 x) := Af.bn rb (BD (by simp [be4]))
   have hob : Af sb O 0 (u8l (outs (l.take i))) := ho.ext0 xb
   have hwb : AT sb O 0 32 := fun j hj => let ⟨u, h⟩ := hw j hj; ⟨u, h.ext0 xb⟩
   refine W.copy (k := 4) (l := u8l (be4 x)) E3 (Nat.min_eq_right (show 4 ≤ 32 - 4 * i by omega)).symm (hBs.srcK (k := 4) (Nat.le_refl _)) rfl (BT _) (fun j hj => ?_) fun sc nc xc rc => ?_
   · have := hwb (4 * i + j) (by omega)
     rw [show 0 + 4 * i * 1 + j = 0 + (4 * i + j) by omega]
     exact this
   have sub : ∀ y, In O (0 + 4 * i * 1) (4 * 1) y → In O 0 32 y := fun y h => ⟨by have := h.1; omega, by
     have h4 : y < O + (0 + 4 * i * 1) + 4 * 1 := h.2
     omega⟩
   have hxc : Ext (In O 0 32) (In O 0 32) s0 sc := hxb.trans xc hb0 (fun y hy h => by
     rcases h with h | h
     · have h1 : s.next + 0 ≤ y := h.1
       have h2 := hx.nxt
       omega
     · exact sub y h) fun y _ h => sub y h
   have hlt : (outs (l.take i)).length = 4 * i := by rw [ND, List.length_take]; omega
   have hoc : Af sc O 0 (u8l (outs (l.take (i + 1)))) := by
     have e : u8l (outs (l.take (i + 1))) = u8l (outs (l.take i)) ++ u8l (be4 x) := by
       rw [List.take_add_one, List.getElem?_eq_getElem hil, hxe]
       show u8l (outs (l.take i ++ [x])) = _
       rw [VC]
       exact List.map_append
     rw [e]
     refine Af.append (hob.ext xc fun j hj h => ?_) ?_
     · rw [A0, hlt] at hj
       have h1 : O + (0 + 4 * i * 1) ≤ O + (0 + j) := h.1
       omega
     · rw [A0, hlt, show 0 + 4 * i = 0 + 4 * i * 1 by omega]
       exact rc
   have hwc : AT sc O 0 32 := hwb.ext xc rc
   refine Gm_.w EF_ (by omega) ?_
   have ei : wrap64 ((i : Nat) + 1 : Int) = ((i + 1 : Nat) : Int) := by
     rw [Bl (by omega) (by omega)]; simp
   simp -implicitDefEqProofs only [Cx_, Ad, W_oS, Aa, W_mv, Ac, T.get_set, reduceIte, Nat.reduceEqDiff, ↓reduceIte, BY, h52, ei]
   exact ih (i + 1) _ _ sc _ (by omega) (by omega) Na_ hxc hoc hwc (by simp [T.get_set, h2]) (by simp [T.get_set, h3]) (by simp [T.get_set, h51]) (by simp [T.get_set]) fun n' tm' s1 td' e1 => q n' tm' s1 td' (by omega)
theorem Z7 : tyS envS 167 = some (74, true) := by kernel_rfl
theorem Wd_ : D6 envS 167 = some (.bool false :: (List.replicate 8 (.int .u32 0) ++ (List.replicate 64 (.int .u8 0) ++ [.int .i64 0]))) := by kernel_rfl
theorem HU : tyS envS 101 = some (32, true) := by kernel_rfl
theorem MO : D6 envS 101 = some (List.replicate 32 (.int .u8 0)) := by kernel_rfl
def DS.row (d : DS) : List Value := .bool true :: ((st8V d.st).toList ++ (u8l d.w ++ [.int .i64 (d.n : Nat)]))
theorem DS.row_len (d : DS) (h : d.w.length = 64) : d.row.length = 74 := by
 unfold DS.row
 rw [List.length_cons, List.length_append, Dn, List.length_append, A0, h]
 rfl
theorem DS.row_one (d : DS) : d.row.all oneCell = true := by
 have h1 : (st8V d.st).toList.all oneCell = true := rfl
 unfold DS.row
 rw [List.all_cons, List.all_append, List.all_append, BT, h1]
 rfl
theorem Af.app_l {s : St} {b o : Nat} {l l' : List Value} (h : Af s b o (l ++ l')) : Af s b o l := fun i v e => h i v (by rw [List.getElem?_append_left (List.getElem?_eq_some_iff.1 e).1]; exact e)
theorem Af.app_r {s : St} {b o : Nat} {l l' : List Value} (h : Af s b o (l ++ l')) : Af s b (o + l.length) l' := fun i v e => by
 have := h (l.length + i) v (by rw [List.getElem?_append_right (by omega), show l.length + i - l.length = i by omega]; exact e)
 rw [← Nat.add_assoc] at this
 exact this
theorem Af.cons_l {s : St} {b o : Nat} {v : Value} {l : List Value} (h : Af s b o (v :: l)) : Own s b o v := h 0 v rfl
theorem Af.cons_r {s : St} {b o : Nat} {v : Value} {l : List Value} (h : Af s b o (v :: l)) : Af s b (o + 1) l := fun i x e => by
 have := h (i + 1) x (by simpa using e)
 rw [show o + 1 + i = o + (i + 1) by omega]
 exact this
theorem Af.cons {s : St} {b o : Nat} {v : Value} {l : List Value} (h : Own s b o v) (k : Af s b (o + 1) l) : Af s b o (v :: l) := fun i x e => by
 cases i with
 | zero => simp at e; subst e; exact h
 | succ i =>
   have := k i x (by simpa using e)
   rw [show o + (i + 1) = o + 1 + i by omega]
   exact this
theorem Af.nil {s : St} {b o : Nat} : Af s b o [] := fun i x e => by simp at e
theorem Dig.toRow {s : St} {D : Nat} {d : DS} (h : Dig s D d) : Af s D 0 d.row := by
 unfold DS.row
 refine Af.cons h.made (Af.append h.st (Af.append ?_ ?_))
 · rw [Dn]; exact h.w
 · rw [Dn, A0, h.len]
   exact Af.cons h.n .nil
theorem Dig.ofRow {s : St} {D : Nat} {d : DS} (h : Af s D 0 d.row) (h1 : d.w.length = 64) (h2 : Byt d.w) (h3 : d.st.Ok) : Dig s D d := by
 unfold DS.row at h
 have h4 := h.cons_r
 have h5 := h4.app_r
 have h6 := h5.app_r
 rw [Dn] at h5
 rw [Dn, A0, h1] at h6
 exact ⟨h.cons_l, h4.app_l, h5.app_l, h6.cons_l, h1, h2, h3⟩
def DS.pad0 (d : DS) : List Nat := 128 :: List.replicate ((119 - d.n % 64) % 64) 0
def DS.pad (d : DS) : List Nat := d.pad0 ++ tl8 (8 * d.n) 8
def DS.fin (d : DS) : DS := DS.write d.pad.length d d.pad
def st8L (r : Sha.St8) : List Nat := [r.a, r.b, r.c, r.d, r.e, r.f, r.g, r.h]
def DS.sum (d : DS) : List Nat := outs (st8L d.fin.st)
theorem DS.pad0_len (d : DS) : d.pad0.length = (119 - d.n % 64) % 64 + 1 := by unfold DS.pad0; rw [List.length_cons, List.length_replicate]
theorem DS.pad0_byt (d : DS) : Byt d.pad0 := fun x hx => by
 unfold DS.pad0 at hx
 rcases List.mem_cons.1 hx with rfl | hx
 · decide
 · rw [List.mem_replicate] at hx; omega
theorem DS.pad_byt (d : DS) : Byt d.pad := fun x hx => by
 rcases List.mem_append.1 hx with hx | hx
 · exact d.pad0_byt x hx
 · exact BY_ _ _ x hx
theorem DS.sum_len (d : DS) : d.sum.length = 32 := ND _
theorem Ua : ∀ l : List Nat, Byt (outs l)
 | [] => fun x hx => by cases hx
 | y :: l => fun x hx => by
   rcases List.mem_append.1 hx with hx | hx
   · simp -implicitDefEqProofs only [be4, List.mem_cons, List.not_mem_nil, or_false] at hx
     omega
   · exact Ua l x hx
theorem VV_ (r : Sha.St8) (i : Nat) (h : i < (st8L r).length) : (st8V r).toList[i]? = some (.int .u32 ((st8L r)[i] : Nat)) := by
 have h8 : i < 8 := h
 match i, h8 with
 | 0, _ => rfl
 | 1, _ => rfl
 | 2, _ => rfl
 | 3, _ => rfl
 | 4, _ => rfl
 | 5, _ => rfl
 | 6, _ => rfl
 | 7, _ => rfl
theorem Pq_ {C O2 O3 n : Nat} {d : DS} {tm : T Value} {td : List Item} {s : St} {Q : Value × FrameMode → St → Prop} (hb : s.lim ≤ s.next) (hcx : s.cx = .cx none (some [])) (h23 : O2 + 32 ≤ O3) (hd : Dig s C d) (ho3 : AT s O3 0 32) (ho2 : AT s O2 0 32) (hn : 120 ≤ n) (hT : skim 64 td = II)
   (h2 : T.get tm 2 = some (.pointer (some ⟨O2, 0, none⟩))) (h3 : T.get tm 3 = some (.pointer (some ⟨O3, 0, none⟩))) (h4 : T.get tm 4 = some (.pointer (some ⟨C, 0, none⟩)))
   (q : ∀ s1, Ext (fun x => In C 0 74 x ∨ In O3 0 32 x ∨ In O2 0 32 x) (fun x => In O3 0 32 x ∨ In O2 0 32 x) s s1 → Q (.agg (u8l (outs (st8L d.st))).toArray, .run) s1) : W (runF envS n ⟨112, HQ, BW, tm, td, .run, .normal, none⟩) s Q := by
 refine Ds_.w hT (by omega) ?_
 simp -implicitDefEqProofs only [XN, Ad, W_oS, Aa, W_mv, Ac, h4, B8 Oh (by decide : 0 < 8)]
 refine W.loadA Is hd.st.row (Dn _) fun sa ma na xa => ?_
 have hxa : Ext (fun x => In C 0 74 x ∨ In O3 0 32 x ∨ In O2 0 32 x) (fun x => In O3 0 32 x ∨ In O2 0 32 x) s sa := xa.weak hb (fun x _ h => .inl ⟨by have := h.1; omega, by have := h.2; omega⟩) fun _ _ h => h.elim
 have ho3a : AT sa O3 0 32 := fun j hj => let ⟨u, h⟩ := ho3 j hj; ⟨u, h.same ma na⟩
 have ho2a : AT sa O2 0 32 := fun j hj => let ⟨u, h⟩ := ho2 j hj; ⟨u, h.same ma na⟩
 have hba : sa.lim ≤ sa.next := xa.bnd hb
 refine EE_ (l := st8L d.st) (cs := (st8V d.st).toList.toArray) rfl (fun i h => VV_ d.st i h) hba 8 0 _ _ sa _ rfl (by omega) KK_ (Ext.refl sa) (fun i v e => by simp [outs, u8l] at e) ho3a (by simp [T.get_set, h2]; rfl) (by simp [T.get_set, h3]) (by simp [T.get_set]) (by simp [T.get_set]) fun n' tm' sb td' e1 e2 xb ob t2 t3 => ?_
 refine Ld_.w e2 (by omega) ?_
 simp -implicitDefEqProofs only [Ze, Ad, W_oS, Aa, t2, t3]
 have hxb := hxa.trans xb hb (fun x _ h => .inr (.inl h)) fun x _ h => .inl h
 have hlen : (u8l (outs (st8L d.st))).length = 32 := by rw [A0, ND]; rfl
 refine W.loadA HU ob.row hlen fun sc mc nc xc => ?_
 have hxc := hxb.trans xc hb (fun x _ h => .inr (.inl h)) fun x _ h => h.elim
 have ho2c : AT sc O2 0 32 := fun j hj => by
   obtain ⟨u, h⟩ := ho2a j hj
   refine ⟨u, (h.ext xb fun h => ?_).same mc nc⟩
   have h1 : O3 + 0 ≤ O2 + (0 + j) := h.1
   omega
 refine W.store HU hlen (BT _) ho2c fun se ne xe oe => ?_
 have hxe := hxc.trans xe hb (fun x _ h => .inr (.inr h)) fun x _ h => .inr h
 refine W.endC (r := 2) Gk_ (.inl JB_) (by omega) Tv CJ_ (hxe.cx.trans hcx) t2 ?_
 refine W.loadA HU oe.row hlen fun sf mf nf xf => ?_
 exact q sf (hxe.trans xf hb (fun x _ h => .inr (.inr h)) fun x _ h => h.elim)
theorem Dig.ext {F G : Nat → Prop} {s s' : St} {D : Nat} {d : DS} (h : Dig s D d) (e : Ext F G s s') (k : ∀ x, In D 0 74 x → ¬ G x) : Dig s' D d :=
 ⟨h.made.ext e (k _ ⟨by omega, by omega⟩), h.st.ext e fun i hi => k _ ⟨by omega, by rw [Dn] at hi; omega⟩, h.w.ext e fun i hi => k _ ⟨by omega, by rw [A0, h.len] at hi; omega⟩, h.n.ext e (k _ ⟨by omega, by omega⟩), h.len, h.byt, h.ok⟩
theorem AT.ext1 {F G : Nat → Prop} {s s' : St} {b o n : Nat} (h : AT s b o n) (e : Ext F G s s') (k : ∀ x, In b o n x → ¬ G x) : AT s' b o n := fun j hj => let ⟨u, hu⟩ := h j hj; ⟨u, hu.ext e (k _ ⟨by omega, by omega⟩)⟩
theorem Vz_ {E : Env} {t : Nat} {s : St} {sz b o n c : Nat} (h : slN E t = some sz) (hk : 0 < n) (Q : Value → St → Prop) : W (BJ E t (.slice (some ⟨b, o, none⟩) n c) (.int .i64 0)) s Q = Q (.pointer (some ⟨b, o + 0 * sz, none⟩)) s := Ck (k := 0) h hk Q
abbrev MidF (D O2 : Nat) : Nat → Prop := fun x => In D 0 74 x ∨ O2 ≤ x
theorem RO_ {D C O2 O3 n : Nat} {d : DS} {tm : T Value} {td : List Item} {s : St} {Q : Value × FrameMode → St → Prop} (hb : s.lim ≤ s.next) (hcx : s.cx = .cx none (some [])) (hmax : d.n ≤ 900000000) (hD2 : D + 74 ≤ O2) (h23 : O2 + 32 ≤ O3) (h3C : O3 + 32 ≤ C) (hCn : C + 74 ≤ s.next) (hd : Dig s D d) (hc : Dig s C d) (ho3 : AT s O3 0 32) (ho2 : AT s O2 0 32) (hn : 2000 ≤ n) (hT : skim 64 td = Io)
   (h0 : T.get tm 0 = some (.pointer (some ⟨D, 0, none⟩))) (h2 : T.get tm 2 = some (.pointer (some ⟨O2, 0, none⟩))) (h3 : T.get tm 3 = some (.pointer (some ⟨O3, 0, none⟩))) (h4 : T.get tm 4 = some (.pointer (some ⟨C, 0, none⟩)))
   (q : ∀ s1, Ext (MidF D O2) (fun x => O2 ≤ x) s s1 → Q (.agg (u8l d.sum).toArray, .run) s1) : W (runF envS n ⟨112, HQ, BW, tm, td, .run, .normal, none⟩) s Q := by
 refine Ls_.w hT (by omega) ?_
 simp -implicitDefEqProofs only [AG_, Ad, W_oS, Aa, W_mv, Ac, Bu, h0, B8 KP (by decide : 0 < 1)]
 refine W.load1 Ix hd.n.at' ?_
 have hxa : Ext (MidF D O2) (fun x => O2 ≤ x) s (s.rdN (D + (0 + 73))) := Ext.rdN (F := MidF D O2) s _ fun _ => .inl ⟨by omega, by omega⟩
 have hda : Dig (s.rdN (D + (0 + 73))) D d := hd.same rfl rfl
 have hca : Dig (s.rdN (D + (0 + 73))) C d := hc.same rfl rfl
 have ho3a : AT (s.rdN (D + (0 + 73))) O3 0 32 := fun j hj => let ⟨u, h⟩ := ho3 j hj; ⟨u, h.same rfl rfl⟩
 have ho2a : AT (s.rdN (D + (0 + 73))) O2 0 32 := fun j hj => let ⟨u, h⟩ := ho2 j hj; ⟨u, h.same rfl rfl⟩
 have na : (s.rdN (D + (0 + 73))).next = s.next := rfl
 generalize s.rdN (D + (0 + 73)) = sa at hxa hda hca ho3a ho2a na ⊢
 have hm : d.n % 64 < 64 := Nat.mod_lt _ (by decide)
 have e1 : wrap64 (119 - ((d.n % 64 : Nat) : Int)) = ((119 - d.n % 64 : Nat) : Int) := by
   rw [Bl (by omega) (by omega)]; omega
 have e2 : wrap64 (1 + (((119 - d.n % 64) % 64 : Nat) : Int)) = ((d.pad0.length : Nat) : Int) := by
   rw [Bl (by omega) (by omega), DS.pad0_len]; omega
 have hp0 : d.pad0.length ≤ 64 := by rw [DS.pad0_len]; omega
 simp -implicitDefEqProofs only [BY, Ep, SG, e1, e2]
 have hba : sa.lim ≤ sa.next := hxa.bnd hb
 refine W.mkSl (c := 80) E3 (by omega) (by decide) fun sb nb xb ob => ?_
 have hrl : (rep 80 [Value.int .u8 0]).length = 80 := by rw [IJ]; simp
 have hnew : s.next ≤ sa.next := hxa.nxt
 have hxb : Ext (MidF D O2) (fun x => O2 ≤ x) s sb := hxa.trans xb hb (fun _ _ h => h.elim) fun _ _ h => h.elim
 have hdb : Dig sb D d := hda.ext0 xb
 have hcb : Dig sb C d := hca.ext0 xb
 have ho3b : AT sb O3 0 32 := ho3a.ext1 xb fun _ _ h => h
 have ho2b : AT sb O2 0 32 := ho2a.ext1 xb fun _ _ h => h
 have hob : AT sb sa.next 0 80 := by
   have := Af.owned ob
   rw [hrl] at this
   exact this
 have hzb : Af sb sa.next 0 (List.replicate 80 (.int .u8 0)) := by rw [← IJ]; exact ob
 clear ob xb hda hca ho3a ho2a
 refine Jl_.w DZ_ (by omega) ?_
 simp -implicitDefEqProofs only [S9, Ad, W_oS, Aa, W_mv, T.get_set, reduceIte, ↓reduceIte, Vz_ A1 (show 0 < d.pad0.length by rw [DS.pad0_len]; omega)]
 obtain ⟨u0, hu0⟩ := hob 0 (by omega)
 refine W.store1 If rfl hu0 fun sc nc xc oc => ?_
 have sub : ∀ x, In sa.next (0 + 0 * 1) 1 x → In sa.next 0 80 x := fun x h => ⟨by have := h.1; omega, by have := h.2; omega⟩
 have up : ∀ x, In sa.next 0 80 x → O2 ≤ x := fun x h => by have := h.1; omega
 have nod : ∀ b m x, b + m ≤ s.next → In b 0 m x → ¬ In sa.next 0 80 x := fun b m x hbm h h' => by
   have g1 := h.2
   have g2 := h'.1
   omega
 have hxc : Ext (MidF D O2) (fun x => O2 ≤ x) s sc := hxb.trans xc hb (fun x _ h => .inr (up x (sub x h))) fun x _ h => up x (sub x h)
 have hdc : Dig sc D d := hdb.ext xc fun x h h' => nod D 74 x (by omega) h (sub x h')
 have hcc : Dig sc C d := hcb.ext xc fun x h h' => nod C 74 x (by omega) h (sub x h')
 have ho3c : AT sc O3 0 32 := ho3b.ext1 xc fun x h h' => nod O3 32 x (by omega) h (sub x h')
 have ho2c : AT sc O2 0 32 := ho2b.ext1 xc fun x h h' => nod O2 32 x (by omega) h (sub x h')
 have hwc : AT sc sa.next 0 80 := hob.ext (l := [.int .u8 128]) xc (Af.cons oc .nil)
 have hpc : Af sc sa.next 0 (u8l d.pad0) := by
   have e : u8l d.pad0 = .int .u8 128 :: List.replicate ((119 - d.n % 64) % 64) (.int .u8 0) := by
     unfold DS.pad0 u8l
     rw [List.map_cons, List.map_replicate]
     rfl
   rw [e]
   refine Af.cons oc fun i v hi => ?_
   rw [List.getElem?_replicate] at hi
   split at hi
   · rename_i hlt
     cases hi
     have := hzb (1 + i) (.int .u8 0) (by rw [List.getElem?_replicate, if_pos (by omega)])
     rw [← Nat.add_assoc] at this
     refine this.ext xc fun h => ?_
     have := h.2
     omega
   · cases hi
 clear hob hzb hu0 oc
 have hbc : sc.lim ≤ sc.next := hxc.bnd hb
 have hBn : sa.next + 80 ≤ sc.next := by
   have h1 : sb.next = sa.next + (rep 80 [Value.int .u8 0]).length + 1 := nb
   omega
 refine UQ_.w CS_ (by omega) ?_
 simp -implicitDefEqProofs only [YM, Aa, W_mv, Ac]
 refine TX_ (d := d) (a2 := .pointer (some ⟨O2, 0, none⟩)) (a3 := .pointer (some ⟨O3, 0, none⟩)) (a4 := .pointer (some ⟨C, 0, none⟩)) (by omega) hbc (.inl (show D + 74 ≤ sa.next by omega)) hBn 8 _ _ sc _ d.pad0 (Nat.le_refl _) (by omega) Nt_ (Ext.refl sc) hdc hpc hwc (by omega) (by simp [T.get_set, h0]) (by simp [T.get_set, h2]) (by simp [T.get_set, h3]) (by simp [T.get_set, h4]) (by simp [T.get_set]) (by simp [T.get_set]) fun n' tm' sd td' f1 f2 xd hdd hpd t0 t2 t3 t4 t5 => ?_
 have hxd : Ext (MidF D O2) (fun x => O2 ≤ x) s sd := hxc.trans xd hb (fun x _ h => by
   rcases h with h | h
   · exact .inl h
   · exact .inr (up x h)) fun x _ h => up x h
 have hcd : Dig sd C d := hcc.ext xd fun x h h' => nod C 74 x (by omega) h h'
 have ho3d : AT sd O3 0 32 := ho3c.ext1 xd fun x h h' => nod O3 32 x (by omega) h h'
 have ho2d : AT sd O2 0 32 := ho2c.ext1 xd fun x h h' => nod O2 32 x (by omega) h h'
 have hpl : d.pad.length = d.pad0.length + 8 := by unfold DS.pad; rw [List.length_append, Yn]
 rw [← hpl] at t5
 have hpd' : Af sd sa.next 0 (u8l d.pad) := hpd
 have hbn : Bn sd (.slice (some ⟨sa.next, 0, none⟩) d.pad.length 80) d.pad := ⟨sa.next, 0, 80, rfl, by rw [Nat.mod_eq_of_lt (BD (by decide))]; omega, J0 (BD (by decide)), hpd'.row⟩
 have hbd : sd.lim ≤ sd.next := hxd.bnd hb
 refine Xe_.w f2 (by omega) ?_
 simp -implicitDefEqProofs only [Yg, Ad, W_on, Aa, W_mv, Ap, Al, Ak, AW, t4, t5]
 refine BN_ hbd (fun x h h' => nod C 74 x (by omega) h' ⟨h.1, by have := h.2; omega⟩) hcd (by omega) (fun _ => hbn) hbn.bs d.pad_byt (by omega) fun se xe he => ?_
 have hxe : Ext (MidF D O2) (fun x => O2 ≤ x) s se := hxd.trans xe hb (fun x _ h => by
   rcases h with h | h
   · exact .inr (by have := h.1; omega)
   · exact .inr (up x ⟨h.1, by have := h.2; omega⟩)) fun x _ h => by have := h.1; omega
 have ho3e : AT se O3 0 32 := ho3d.ext1 xe fun x h h' => by have := h.2; have := h'.1; omega
 have ho2e : AT se O2 0 32 := ho2d.ext1 xe fun x h h' => by have := h.2; have := h'.1; omega
 have hbe : se.lim ≤ se.next := hxe.bnd hb
 refine Pq_ (C := C) hbe (hxe.cx.trans hcx) h23 he ho3e ho2e (by omega) WF_ t2 t3 t4 fun sf xf => q sf (hxe.trans xf hb (fun x _ h => ?_) fun x _ h => ?_)
 · rcases h with h | h | h
   · exact .inr (by have := h.1; omega)
   · exact .inr (by have := h.1; omega)
   · exact .inr (by have := h.1; omega)
 · rcases h with h | h
   · have := h.1; omega
   · have := h.1; omega
theorem Qs_ {D n : Nat} {d : DS} {s : St} {Q : Value → St → Prop} (hbd : s.lim ≤ s.next) (hd : Dig s D d) (hmax : d.n ≤ 900000000) (hn : 2500 ≤ n)
   (q : ∀ s1, Ext (In D 0 74) Non s s1 → Q (.agg (u8l d.sum).toArray) s1) : W (Au envS (runF envS n) 112 [.pointer (some ⟨D, 0, none⟩)]) s Q := by
 refine UR_ fun tm h0 => ?_
 have hD : D + 73 < s.next := by have := hd.n.1; omega
 have hd0 : Dig (s.cxN cxN) D d := hd.same rfl rfl
 refine JS_.w rfl (by omega) ?_
 simp -implicitDefEqProofs only [Vs, Ad, Aa, Ac]
 refine W.alloc MO fun sa na xa oa => ?_
 have na' : sa.next = s.next + 33 := na
 have hxa : Ext (In D 0 74) Non (s.cxN cxN) sa := (Ext.refl _).step xa hbd (fun _ _ h => h.elim) fun _ h => h.elim
 refine HM_.w No_ (by omega) ?_
 simp -implicitDefEqProofs only [TL, Ad, Aa, Ac]
 refine W.alloc MO fun sb nb xb ob => ?_
 have nb' : sb.next = sa.next + 33 := nb
 have hxb : Ext (In D 0 74) Non (s.cxN cxN) sb := hxa.step xb hbd (fun _ _ h => h.elim) fun _ h => h.elim
 have hdb : Dig sb D d := hd0.ext0 hxb
 have ho2 : AT sb s.next 0 32 := (Af.owned oa).ext1 xb fun _ _ h => h
 have ho3 : AT sb sa.next 0 32 := Af.owned ob
 refine Wu_.w XG_ (by omega) ?_
 simp -implicitDefEqProofs only [Cj_, Ad, W_oS, W_on, Aa, W_mv, Ac, T.get_set, reduceIte, AX, Bg, A7, Bh, AV, Bu, reduceCtorEq, ↓reduceIte, h0, U1 Ai_, B8 BL_ (by decide : 0 < 1)]
 refine W.load1 UM hdb.made.at' ?_
 simp -implicitDefEqProofs only [De]
 have hxc : Ext (In D 0 74) Non (s.cxN cxN) (sb.rdN (D + (0 + 0))) := hxb.step (Ext.rdN (F := In D 0 74) (G := Non) sb _ fun _ => ⟨by omega, by omega⟩) hbd (fun _ _ h => h) fun _ h => h.elim
 have hdc : Dig (sb.rdN (D + (0 + 0))) D d := hdb.same rfl rfl
 have ho2c : AT (sb.rdN (D + (0 + 0))) s.next 0 32 := fun j hj => let ⟨u, h⟩ := ho2 j hj; ⟨u, h.same rfl rfl⟩
 have ho3c : AT (sb.rdN (D + (0 + 0))) sa.next 0 32 := fun j hj => let ⟨u, h⟩ := ho3 j hj; ⟨u, h.same rfl rfl⟩
 have nc : (sb.rdN (D + (0 + 0))).next = sb.next := rfl
 refine W.cond (v := false) Re_ Ll_ (by simp [T.get_set]) (by omega) (fun h => by cases h) fun _ => ?_
 generalize sb.rdN (D + (0 + 0)) = sc at hxc hdc ho2c ho3c nc ⊢
 refine PK_.w Vv_ (by omega) ?_
 simp -implicitDefEqProofs only [UL, Ad, W_oS, Aa, W_mv, Ac, T.get_set, reduceIte, Bu, reduceCtorEq, ↓reduceIte, h0]
 refine W.loadA Z7 hdc.toRow.row (d.row_len hd.len) fun sd md nd xd => ?_
 have hxd : Ext (In D 0 74) Non (s.cxN cxN) sd := hxc.step xd hbd (fun _ _ h => h) fun _ h => h.elim
 refine W.alloc Wd_ fun se ne xe oe => ?_
 have ne' : se.next = sd.next + 75 := ne
 have hxe : Ext (In D 0 74) Non (s.cxN cxN) se := hxd.step xe hbd (fun _ _ h => h.elim) fun _ h => h.elim
 have hnd : sd.next = sc.next := nd
 refine W.store Z7 (d.row_len hd.len) d.row_one (fun i hi => oe.owned i (by simp; omega)) fun sf nf xf of => ?_
 have hnf : sf.next = se.next := nf
 have hG : ∀ x, In sd.next 0 74 x → s.next ≤ x := fun x h => by have := h.1; omega
 have hxf : Ext (In D 0 74) Non (s.cxN cxN) sf := hxe.step xf hbd (fun x hx h => by
   have h1 := hG x h
   have h2 : x < s.lim := hx
   omega) fun x h => hG x h
 have hbf : sf.lim ≤ sf.next := hxf.bnd hbd
 have hcf : Dig sf sd.next d := Dig.ofRow of hd.len hd.byt hd.ok
 have hdf : Dig sf D d := hd0.ext0 hxf
 have ho2f : AT sf s.next 0 32 := ((ho2c.ext1 xd fun _ _ h => h).ext1 xe fun _ _ h => h).ext1 xf fun x h h' => by
   have := h.2
   have := h'.1
   omega
 have ho3f : AT sf sa.next 0 32 := ((ho3c.ext1 xd fun _ _ h => h).ext1 xe fun _ _ h => h).ext1 xf fun x h h' => by
   have := h.2
   have := h'.1
   omega
 refine RO_ (D := D) (C := sd.next) (O2 := s.next) (O3 := sa.next) (d := d) hbf hxf.cx hmax (by omega) (by omega) (by omega) (by omega) hdf hcf ho3f ho2f (by omega) Xr_ (by simp [T.get_set, h0]) (by simp [T.get_set]) (by simp [T.get_set]) (by simp [T.get_set]) fun sg xg => ?_
 have hxg : Ext (In D 0 74) Non (s.cxN cxN) sg := hxf.step xg hbd (fun x hx h => by
   have h2 : x < s.lim := hx
   rcases h with h | h
   · exact h
   · omega) fun x h => h
 exact q _ hxg.cx'
theorem DS.write_n : ∀ (f : Nat) (d : DS) (b : List Nat), b.length ≤ f → (DS.write f d b).n = d.n + b.length
 | 0, d, b, h => by
   have : b.length = 0 := by omega
   unfold DS.write
   omega
 | f + 1, d, b, h => by
   unfold DS.write
   by_cases hb : b.length = 0
   · rw [if_pos hb]; omega
   · rw [if_neg hb]
     obtain ⟨hk1, hk2⟩ := d.k_le b
     have hm : d.n % 64 < 64 := Nat.mod_lt _ (by decide)
     have hk0 : 0 < d.k b := by
       unfold DS.k
       exact Nat.lt_min.2 ⟨by omega, by omega⟩
     rw [DS.write_n f _ _ (by rw [List.length_drop]; omega), List.length_drop]
     show d.n + d.k b + (b.length - d.k b) = _
     omega
def sumB (b : List Nat) : List Nat := (DS.write b.length DS.new b).sum
theorem Th (b : List Nat) : (sumB b).length = 32 := DS.sum_len _
theorem Hn_ (b : List Nat) : Byt (sumB b) := Ua _
theorem Bs.bn' {s : St} {v : Value} {b : List Nat} (h : Bs s v b) (hb : b ≠ []) : Bn s v b := by
 rcases h with ⟨_, h⟩ | h
 · exact absurd h hb
 · exact h
theorem MH_ {n : Nat} {v : Value} {b : List Nat} {s : St} {Q : Value → St → Prop} (hbd : s.lim ≤ s.next) (hbs : Bs s v b) (hlt : ∀ x, BsF v x → x < s.next) (hby : Byt b) (hmax : b.length ≤ 900000) (hn : 20 * b.length + 2600 ≤ n)
   (q : ∀ s1, Ext (BsF v) Non s s1 → Q (.agg (u8l (sumB b)).toArray) s1) : W (Au envS (runF envS n) 73 [v]) s Q := by
 refine GW_ fun tm h0 => ?_
 have hbs0 : Bs (s.cxN cxN) v b := hbs.same rfl rfl
 refine XP_.w rfl (by omega) ?_
 simp -implicitDefEqProofs only [W5, Ad, Aa, Ac]
 refine W.alloc MO fun sa na xa oa => ?_
 have na' : sa.next = s.next + 33 := na
 have hxa : Ext (BsF v) Non (s.cxN cxN) sa := (Ext.refl _).step xa hbd (fun _ _ h => h.elim) fun _ h => h.elim
 refine Qp_.w NG_ (by omega) ?_
 simp -implicitDefEqProofs only [ZE, Ad, W_on, Aa, W_mv, Ac, Al, AW]
 refine Rf_ (hxa.bnd hbd) (by omega) fun sb D hD1 hD2 xb hd => ?_
 have hxb : Ext (BsF v) Non (s.cxN cxN) sb := hxa.step xb hbd (fun _ _ h => h.elim) fun _ h => h.elim
 refine Lm_.w Jo_ (by omega) ?_
 simp -implicitDefEqProofs only [Up, Ad, W_on, Aa, W_mv, T.get_set, Ap, Al, Ak, AW, reduceIte, reduceCtorEq, ↓reduceIte, h0]
 have hbsb : Bs sb v b := hbs0.ext0 hxb
 refine BN_ (hxb.bnd hbd) (fun x h h' => by have := hlt x h; have := h'.1; omega) hd (show 0 + b.length ≤ 1000000000 by omega) (fun h => hbsb.bn' h) hbsb hby (by omega) fun sc xc hdc => ?_
 have hG : ∀ x, In D 0 74 x → s.next ≤ x := fun x h => by have := h.1; omega
 have hxc : Ext (BsF v) Non (s.cxN cxN) sc := hxb.step xc hbd (fun x hx h => by
   have h2 : x < s.lim := hx
   rcases h with h | h
   · have := hG x h; omega
   · exact h) fun x h => hG x h
 have hoc : AT sc s.next 0 32 := ((Af.owned oa).ext1 xb fun _ _ h => h).ext1 xc fun x h h' => by
   have h1 : x < s.next + 0 + 32 := h.2
   have := h'.1
   omega
 refine Ks_.w HR_ (by omega) ?_
 simp -implicitDefEqProofs only [SM, Ad, W_oS, W_on, Aa, W_mv, T.get_set, Ap, Al, Ak, AW, reduceIte, Nat.reduceEqDiff, ↓reduceIte]
 refine Qs_ (hxc.bnd hbd) hdc (by rw [DS.write_n _ _ _ (Nat.le_refl _)]; show 0 + b.length ≤ _; omega) (by omega) fun sd xd => ?_
 have hxd : Ext (BsF v) Non (s.cxN cxN) sd := hxc.step xd hbd (fun x hx h => by
   have h2 : x < s.lim := hx
   have := hG x h
   omega) fun _ h => h.elim
 have hod : AT sd s.next 0 32 := hoc.ext1 xd fun _ _ h => h
 have hlen : (u8l (DS.write b.length DS.new b).sum).length = 32 := by rw [A0]; exact DS.sum_len _
 refine W.store HU hlen (BT _) hod fun se ne xe oe => ?_
 have hG2 : ∀ x, In s.next 0 32 x → s.next ≤ x := fun x h => by have := h.1; omega
 have hxe : Ext (BsF v) Non (s.cxN cxN) se := hxd.step xe hbd (fun x hx h => by
   have h2 : x < s.lim := hx
   have := hG2 x h
   omega) hG2
 refine W.endC (r := 2) Ky_ (.inl Su_) (by omega) SP Nj_ hxe.cx (by simp [T.get_set]; rfl) ?_
 refine W.loadA HU oe.row hlen fun sf mf nf xf => ?_
 have hxf : Ext (BsF v) Non (s.cxN cxN) sf := hxe.step xf hbd (fun x hx h => by
   have h2 : x < s.lim := hx
   have := hG2 x h
   omega) fun _ h => h.elim
 exact q _ hxf.cx'
theorem Ob {E : Env} {t n sz l c : Nat} {a : Addr} {s : St} (h : arrN E t = some (n, sz)) (h1 : n ≤ l) (h2 : 0 < l) (Q : Value → St → Prop) : W (Dc E t (.slice (some a) l c)) s Q = Q (.pointer (some a)) s := by
 obtain ⟨i, e, ie, g1, g2, g3, g4⟩ := WR h
 refine Bc ?_
 unfold Dc
 rw [Ba (show ti E t s = .some i s by unfold ti; rw [g1]; rfl), g2]
 show M.chk (Nat.ble n l && Nat.blt 0 l) (M.pure (Value.pointer (some a))) s = _
 rw [Nat.ble_eq_true_of_le h1, B2 h2]
 rfl
theorem TG : arrN envS 26 = some (16, 1) := by kernel_rfl
theorem BP : tyS envS 26 = some (16, true) := by kernel_rfl
theorem DU : D6 envS 26 = some (List.replicate 16 (.int .u8 0)) := by kernel_rfl
def idB (b : List Nat) : List Nat := (sumB b).take 16
theorem B1 (b : List Nat) : (idB b).length = 16 := by unfold idB; rw [List.length_take, Th]; rfl
theorem Ud (b : List Nat) : Byt (idB b) := fun x hx => Hn_ b x (List.mem_of_mem_take hx)
theorem Ry {n : Nat} {v : Value} {b : List Nat} {s : St} {Q : Value → St → Prop} (hbd : s.lim ≤ s.next) (hbs : Bs s v b) (hlt : ∀ x, BsF v x → x < s.next) (hby : Byt b) (hmax : b.length ≤ 900000) (hn : 20 * b.length + 2700 ≤ n)
   (q : ∀ s1, Ext (BsF v) Non s s1 → Q (.agg (u8l (idB b)).toArray) s1) : W (Au envS (runF envS n) 32 [v]) s Q := by
 refine TT_ fun tm h0 => ?_
 have hbs0 : Bs (s.cxN cxN) v b := hbs.same rfl rfl
 refine PF_.w rfl (by omega) ?_
 simp -implicitDefEqProofs only [U2, Ad, Aa, Ac]
 refine W.alloc DU fun sa na xa oa => ?_
 have na' : sa.next = s.next + 17 := na
 have hxa : Ext (BsF v) Non (s.cxN cxN) sa := (Ext.refl _).step xa hbd (fun _ _ h => h.elim) fun _ h => h.elim
 refine Dn_.w HK_ (by omega) ?_
 simp -implicitDefEqProofs only [SD, Ad, W_oS, W_on, Aa, W_mv, Ac, T.get_set, Ap, Al, Ak, AW, reduceIte, reduceCtorEq, ↓reduceIte, h0]
 refine MH_ (hxa.bnd hbd) (hbs0.ext0 hxa) (fun x h => by have := hlt x h; omega) hby hmax (by omega) fun sb xb => ?_
 have hxb : Ext (BsF v) Non (s.cxN cxN) sb := hxa.step xb hbd (fun _ _ h => h) fun _ h => h.elim
 refine W.alloc MO fun sc nc xc oc => ?_
 have hxc : Ext (BsF v) Non (s.cxN cxN) sc := hxb.step xc hbd (fun _ _ h => h.elim) fun _ h => h.elim
 have hbn : sa.next ≤ sb.next := xb.nxt
 have hlen : (u8l (sumB b)).length = 32 := by rw [A0]; exact Th _
 refine W.store HU hlen (BT _) (fun i hi => oc.owned i (by simp; omega)) fun sd nd xd od => ?_
 have hG : ∀ x, In sb.next 0 32 x → s.next ≤ x := fun x h => by have := h.1; omega
 have hxd : Ext (BsF v) Non (s.cxN cxN) sd := hxc.step xd hbd (fun x hx h => by
   have h2 : x < s.lim := hx
   have := hG x h
   omega) hG
 have ho2 : AT sd s.next 0 16 := (((Af.owned oa).ext1 xb fun _ _ h => h).ext1 xc fun _ _ h => h).ext1 xd fun x h h' => by
   have h1 : x < s.next + 0 + 16 := h.2
   have := h'.1
   omega
 refine KJ_.w Wv_ (by omega) ?_
 simp -implicitDefEqProofs only [XO, Ad, W_oS, W_on, Aa, T.get_set, Ak, reduceIte, Nat.reduceEqDiff, ↓reduceIte]
 simp -implicitDefEqProofs only [Gl (lo := none) (hi := some (.int .i64 16)) (l := 0) (h := 16) SW (BD (by decide)) rfl rfl (Nat.zero_le _) (by decide), Ob TG (show 16 ≤ 16 - 0 by decide) (by decide), reduceIte, reduceCtorEq, ↓reduceIte]
 have hlen2 : (u8l (idB b)).length = 16 := by rw [A0]; exact B1 _
 have hod : Af sd sb.next 0 (u8l (idB b)) := by
   have := od.take (n := 16)
   show Af sd sb.next 0 (u8l ((sumB b).take 16))
   unfold u8l
   rw [List.map_take]
   exact this
 refine W.loadA BP hod.row hlen2 fun se me ne xe => ?_
 have hxe : Ext (BsF v) Non (s.cxN cxN) se := hxd.step xe hbd (fun x hx h => by
   have h2 : x < s.lim := hx
   have h3 : sb.next + (0 + 0 * 1) ≤ x := h.1
   omega) fun _ h => h.elim
 have ho2e : AT se s.next 0 16 := ho2.ext1 xe fun _ _ h => h
 refine W.store BP hlen2 (BT _) ho2e fun sf nf xf of => ?_
 have hG2 : ∀ x, In s.next 0 16 x → s.next ≤ x := fun x h => by have := h.1; omega
 have hxf : Ext (BsF v) Non (s.cxN cxN) sf := hxe.step xf hbd (fun x hx h => by
   have h2 : x < s.lim := hx
   have := hG2 x h
   omega) hG2
 refine W.endC (r := 2) OA_ (.inl UU_) (by omega) Ta Mg_ hxf.cx (by simp [T.get_set]; rfl) ?_
 refine W.loadA BP of.row hlen2 fun sg mg ng xg => ?_
 have hxg : Ext (BsF v) Non (s.cxN cxN) sg := hxf.step xg hbd (fun x hx h => by
   have h2 : x < s.lim := hx
   have := hG2 x h
   omega) fun _ h => h.elim
 exact q _ hxg.cx'
def Ie : Nat := Bt Try.f20
def Y3 : Code := Try.f20.body.getD .skip
theorem Mq : envS.fn.get 20 = some Try.f20 := by kernel_rfl
theorem Qw_ {a0 : Value} {n : Nat} {s : St} {Q : Value → St → Prop} (h : ∀ tm, T.get tm 0 = some a0 → W (runF envS n ⟨20, 11, Ie, tm, [.code Y3], .run, .normal, none⟩) (s.cxN cxN) fun p s1 => Q p.1 (s1.cxN s.cx)) : W (Au envS (runF envS n) 20 [a0]) s Q :=
 W.call (by kernel_rfl) (by kernel_rfl) Mq (by kernel_rfl) rfl rfl (by simp) (h _ (by kernel_rfl))
theorem Oc : Try.f20.results.toList = [.tmp 2] := by kernel_rfl
def Ou : List Item := skim 64 [.code Y3]
def Kt : List Item := skim 64 Ou.tail
theorem PC_ : skim 64 Ou.tail = Kt := by kernel_rfl
def Hm : List Item := skim 64 Kt.tail
theorem Sl : skim 64 Kt.tail = Hm := by kernel_rfl
def Ly : List Item := skim 64 (brT Hm)
theorem Bs_ : skim 64 (brT Hm) = Ly := by kernel_rfl
def LP : List Item := skim 64 (brF Hm)
theorem Gl_ : skim 64 (brF Hm) = LP := by kernel_rfl
def P9 : List Item := skim 64 Ly.tail
theorem UU : skim 64 Ly.tail = P9 := by kernel_rfl
def Rk : List Item := skim 64 LP.tail
theorem RB_ : skim 64 LP.tail = Rk := by kernel_rfl
def WY (E : Env) (call round : Ab) (tm : T Value) : M (T Value) :=
  mv (some (.int .i64 0)) fun v2 =>
  setF 2 v2 tm fun tm1 =>
  M.pure tm1
theorem Xw_ : RegEq 20 11 Ie Ou WY := ⟨by kernel_rfl, fun _ _ _ _ _ _ _ _ _ => by kernel_rfl⟩
def Vi (E : Env) (call round : Ab) (tm : T Value) : M (T Value) :=
  mv (T.get tm 0) fun v3 =>
  M.bind (oS (some v3) fun a => oS (some (.int .i64 1)) fun b => Cl.get (aBin E .lss 3 (.tmp 3) (.const (.int .i64 1))) a b) fun v4 =>
  mv (some v4) fun v5 =>
  M.bind (M.chk (isK v5) (M.if (isB v5 false) (oS (T.get tm 0) fun a => M.pure a) (M.pure undef))) fun v6 =>
  M.bind (M.chk (isK v5) (M.if (isB v5 false) (oS (some v6) fun a => oS (some (.int .i64 1024)) fun b => Cl.get (aBin E .gtr 3 (.tmp 6) (.const (.int .i64 1024))) a b) (M.pure undef))) fun v7 =>
  M.bind (M.on (some v5) fun a => M.on (some (.bool true)) fun b => M.on (some v7) fun c => BI a b c) fun v8 =>
  setF 8 v8 tm fun tm1 =>
  M.pure tm1
theorem CH_ : RegEq 20 11 Ie Kt Vi := ⟨by kernel_rfl, fun _ _ _ _ _ _ _ _ _ => by kernel_rfl⟩
theorem NZ : A2 Hm = some 8 := by kernel_rfl
def OB (E : Env) (call round : Ab) (tm : T Value) : M (T Value) :=
  mv (some (.int .i64 0)) fun v2 =>
  setF 2 v2 tm fun tm1 =>
  M.pure tm1
theorem XS : RegEq 20 11 Ie Ly OB := ⟨by kernel_rfl, fun _ _ _ _ _ _ _ _ _ => by kernel_rfl⟩
def Ap_ (E : Env) (call round : Ab) (tm : T Value) : M (T Value) :=
  mv (T.get tm 0) fun v9 =>
  M.bind (oS (some v9) fun a => oS (some (.int .i64 26)) fun b => Cl.get (aBin E .add 3 (.tmp 9) (.const (.int .i64 26))) a b) fun v10 =>
  mv (some v10) fun v2 =>
  setF 2 v2 tm fun tm1 =>
  M.pure tm1
theorem PH_ : RegEq 20 11 Ie LP Ap_ := ⟨by kernel_rfl, fun _ _ _ _ _ _ _ _ _ => by kernel_rfl⟩
theorem YD : ∃ k, P9 = .code .ret :: k := ⟨P9.tail, by kernel_rfl⟩
theorem Og_ : ∃ k, Rk = .code .ret :: k := ⟨Rk.tail, by kernel_rfl⟩
def Jm : Nat := Bt Try.f62
def Az_ : Code := Try.f62.body.getD .skip
theorem Wb : envS.fn.get 62 = some Try.f62 := by kernel_rfl
theorem Ul_ {a0 : Value} {n : Nat} {s : St} {Q : Value → St → Prop} (h : ∀ tm, T.get tm 0 = some a0 → W (runF envS n ⟨62, 31, Jm, tm, [.code Az_], .run, .normal, none⟩) (s.cxN cxN) fun p s1 => Q p.1 (s1.cxN s.cx)) : W (Au envS (runF envS n) 62 [a0]) s Q :=
 W.call (by kernel_rfl) (by kernel_rfl) Wb (by kernel_rfl) rfl rfl (by simp) (h _ (by kernel_rfl))
theorem HX_ : Try.f62.results.toList = [.cell 2 89] := by kernel_rfl
def R4 : List Item := skim 64 [.code Az_]
def Ki : List Item := skim 64 R4.tail
theorem Xk_ : skim 64 R4.tail = Ki := by kernel_rfl
def LY : List Item := skim 64 Ki.tail
theorem Mk_ : skim 64 Ki.tail = LY := by kernel_rfl
def KH : List Item := skim 64 LY.tail
theorem IX_ : skim 64 LY.tail = KH := by kernel_rfl
def QL : List Item := skim 64 KH.tail
theorem Wm_ : skim 64 KH.tail = QL := by kernel_rfl
def U0 (E : Env) (call round : Ab) (tm : T Value) : M (T Value) :=
  M.bind (BC E 89) fun v2 =>
  setF 2 v2 tm fun tm1 =>
  M.pure tm1
theorem Jc_ : RegEq 62 31 Jm R4 U0 := ⟨by kernel_rfl, fun _ _ _ _ _ _ _ _ _ => by kernel_rfl⟩
def AT_ (E : Env) (call round : Ab) (tm : T Value) : M (T Value) :=
  mv (T.get tm 0) fun v6 =>
  M.bind (oS (some v6) fun a => oS (some (.int .u64 8)) fun b => Cl.get (aBin E .shr 3 (.tmp 6) (.const (.int .u64 8))) a b) fun v7 =>
  M.bind (oS (some v7) fun a => BM E 3 5 a) fun v8 =>
  mv (T.get tm 0) fun v9 =>
  M.bind (oS (some v9) fun a => BM E 3 5 a) fun v10 =>
  mv (some v8) fun v3 =>
  setF 3 v3 tm fun tm1 =>
  mv (some v10) fun v4 =>
  setF 4 v4 tm1 fun tm2 =>
  M.pure tm2
theorem Rk_ : RegEq 62 31 Jm Ki AT_ := ⟨by kernel_rfl, fun _ _ _ _ _ _ _ _ _ => by kernel_rfl⟩
def Xl (E : Env) (call round : Ab) (tm : T Value) : M (T Value) :=
  mv (T.get tm 3) fun v11 =>
  mv (T.get tm 4) fun v12 =>
  mv (T.get tm 3) fun v13 =>
  M.bind (oS (some v13) fun a => kUn E.P .xor a) fun v14 =>
  mv (T.get tm 4) fun v15 =>
  M.bind (oS (some v15) fun a => kUn E.P .xor a) fun v16 =>
  M.bind (oS (seqP [(0, (some v11)), (1, (some v12)), (2, (some v14)), (3, (some v16))]) fun ps => Cj E 22 4 ps) fun v17 =>
  M.bind (M.on (some (.func (.func 105) #[] #[])) fun f => M.on (seqO [(some v17)]) fun l => AY call round f l) fun v18 =>
  mv (some v18) fun v5 =>
  setF 5 v5 tm fun tm1 =>
  M.pure tm1
theorem HN_ : RegEq 62 31 Jm LY Xl := ⟨by kernel_rfl, fun _ _ _ _ _ _ _ _ _ => by kernel_rfl⟩
def Ci_ (E : Env) (call round : Ab) (tm : T Value) : M (T Value) :=
  mv (T.get tm 3) fun v19 =>
  mv (T.get tm 4) fun v20 =>
  mv (T.get tm 3) fun v21 =>
  M.bind (oS (some v21) fun a => kUn E.P .xor a) fun v22 =>
  mv (T.get tm 4) fun v23 =>
  M.bind (oS (some v23) fun a => kUn E.P .xor a) fun v24 =>
  mv (T.get tm 5) fun v25 =>
  M.bind (oS (some v25) fun a => BM E 51 5 a) fun v26 =>
  mv (T.get tm 5) fun v27 =>
  M.bind (oS (some v27) fun a => oS (some (.int .u64 8)) fun b => Cl.get (aBin E .shr 51 (.tmp 27) (.const (.int .u64 8))) a b) fun v28 =>
  M.bind (oS (some v28) fun a => BM E 51 5 a) fun v29 =>
  M.bind (oS (seqP [(0, (some v19)), (1, (some v20)), (2, (some v22)), (3, (some v24)), (4, (some v26)), (5, (some v29))]) fun ps => Cb E 89 ps) fun v30 =>
  M.bind (oS (T.get tm 2) fun a => oS (some v30) fun b => A3 E 89 a b) fun _ =>
  M.pure tm
theorem Gj_ : RegEq 62 31 Jm KH Ci_ := ⟨by kernel_rfl, fun _ _ _ _ _ _ _ _ _ => by kernel_rfl⟩
theorem Ow_ : ∃ k, QL = .code .ret :: k := ⟨QL.tail, by kernel_rfl⟩
def Ed : Nat := Bt Try.f71
abbrev Dt_ : Nat := 45
def Z0 : Code := Try.f71.body.getD .skip
theorem JG : envS.fn.get 71 = some Try.f71 := by kernel_rfl
theorem Yo {a0 a1 : Value} {n : Nat} {s : St} {Q : Value → St → Prop} (h : ∀ tm, T.get tm 0 = some a0 → T.get tm 1 = some a1 → W (runF envS n ⟨71, 45, Ed, tm, [.code Z0], .run, .normal, none⟩) (s.cxN cxN) fun p s1 => Q p.1 (s1.cxN s.cx)) : W (Au envS (runF envS n) 71 [a0, a1]) s Q :=
 W.call (by kernel_rfl) (by kernel_rfl) JG (by kernel_rfl) rfl rfl (by simp) (h _ (by kernel_rfl) (by kernel_rfl))
theorem R6 : Try.f71.results.toList = [.tmp 4, .tmp 5] := by kernel_rfl
def Q1 : List Item := skim 64 [.code Z0]
def Kf : List Item := skim 64 Q1.tail
theorem AV_ : skim 64 Q1.tail = Kf := by kernel_rfl
def Hz : List Item := skim 64 Kf.tail
theorem Yc : skim 64 Kf.tail = Hz := by kernel_rfl
def Lq : List Item := skim 64 (brT Hz)
theorem Vp_ : skim 64 (brT Hz) = Lq := by kernel_rfl
def IH : List Item := skim 64 (brF Hz)
theorem GQ_ : skim 64 (brF Hz) = IH := by kernel_rfl
def RM : List Item := skim 64 Lq.tail
theorem Fy_ : skim 64 Lq.tail = RM := by kernel_rfl
def HD : List Item := skim 64 IH.tail
theorem NF_ : skim 64 IH.tail = HD := by kernel_rfl
def PT : List Item := skim 64 HD.tail
theorem XI : skim 64 HD.tail = PT := by kernel_rfl
def Rw (E : Env) (call round : Ab) (tm : T Value) : M (T Value) :=
  mv (some (.int .i64 0)) fun v4 =>
  setF 4 v4 tm fun tm1 =>
  mv (some (.bool false)) fun v5 =>
  setF 5 v5 tm1 fun tm2 =>
  M.pure tm2
theorem Bk_ : RegEq 71 45 Ed Q1 Rw := ⟨by kernel_rfl, fun _ _ _ _ _ _ _ _ _ => by kernel_rfl⟩
def Q5 (E : Env) (call round : Ab) (tm : T Value) : M (T Value) :=
  mv (T.get tm 1) fun v7 =>
  M.bind (oS (some v7) fun a => oS (some (.int .i64 0)) fun b => Cl.get (aBin E .lss 3 (.tmp 7) (.const (.int .i64 0))) a b) fun v8 =>
  mv (some v8) fun v9 =>
  M.bind (M.chk (isK v9) (M.if (isB v9 false) (oS (T.get tm 1) fun a => M.pure a) (M.pure undef))) fun v10 =>
  M.bind (M.chk (isK v9) (M.if (isB v9 false) (oS (T.get tm 0) fun a => M.pure a) (M.pure undef))) fun v11 =>
  M.bind (M.chk (isK v9) (M.if (isB v9 false) (oS (seqO [(some v11)]) fun l => AS E .len [22] l) (M.pure undef))) fun v12 =>
  M.bind (M.chk (isK v9) (M.if (isB v9 false) (oS (some v12) fun a => oS (some (.int .i64 6)) fun b => Cl.get (aBin E .sub 3 (.tmp 12) (.const (.int .i64 6))) a b) (M.pure undef))) fun v13 =>
  M.bind (M.chk (isK v9) (M.if (isB v9 false) (oS (some v10) fun a => oS (some v13) fun b => Cl.get (aBin E .gtr 3 (.tmp 10) (.tmp 13)) a b) (M.pure undef))) fun v14 =>
  M.bind (M.on (some v9) fun a => M.on (some (.bool true)) fun b => M.on (some v14) fun c => BI a b c) fun v15 =>
  setF 15 v15 tm fun tm1 =>
  M.pure tm1
theorem BC_ : RegEq 71 45 Ed Kf Q5 := ⟨by kernel_rfl, fun _ _ _ _ _ _ _ _ _ => by kernel_rfl⟩
theorem Bw_ : A2 Hz = some 15 := by kernel_rfl
def YE (E : Env) (call round : Ab) (tm : T Value) : M (T Value) :=
  mv (some (.int .i64 0)) fun v4 =>
  setF 4 v4 tm fun tm1 =>
  mv (some (.bool false)) fun v5 =>
  setF 5 v5 tm1 fun tm2 =>
  M.pure tm2
theorem NW_ : RegEq 71 45 Ed Lq YE := ⟨by kernel_rfl, fun _ _ _ _ _ _ _ _ _ => by kernel_rfl⟩
def ZB (E : Env) (call round : Ab) (tm : T Value) : M ((Rho × T Value) × List OpLog) :=
  M.bind (apartO (oS (T.get tm 0) fun a => M.pure a)) fun p0 =>
  M.bind (apartO (oS (T.get tm 1) fun a => M.pure a)) fun p1 =>
  M.bind (apartO (oS (some p0.1) fun a => oS (some p1.1) fun b => BJ E 22 a b)) fun p2 =>
  M.bind (apartO (oS (some p2.1) fun a => AQ E 5 a)) fun p3 =>
  M.bind (apartO (oS (some p3.1) fun a => BM E 5 3 a)) fun p4 =>
  M.bind (apartO (oS (some p4.1) fun a => oS (some (.int .u64 8)) fun b => Cl.get (aBin E .shl 3 (.tmp 20) (.const (.int .u64 8))) a b)) fun p5 =>
  M.bind (apartO (oS (T.get tm 0) fun a => M.pure a)) fun p6 =>
  M.bind (apartO (oS (T.get tm 1) fun a => M.pure a)) fun p7 =>
  M.bind (apartO (oS (some p7.1) fun a => oS (some (.int .i64 1)) fun b => Cl.get (aBin E .add 3 (.tmp 23) (.const (.int .i64 1))) a b)) fun p8 =>
  M.bind (apartO (oS (some p6.1) fun a => oS (some p8.1) fun b => BJ E 22 a b)) fun p9 =>
  M.bind (apartO (oS (some p9.1) fun a => AQ E 5 a)) fun p10 =>
  M.bind (apartO (oS (some p10.1) fun a => BM E 5 3 a)) fun p11 =>
  M.bind (apartO (oS (some p5.1) fun a => oS (some p11.1) fun b => Cl.get (aBin E .or 3 (.tmp 21) (.tmp 27)) a b)) fun p12 =>
  M.pure (([p12.1, p11.1, p10.1, p9.1, p8.1, p7.1, p6.1, p5.1, p4.1, p3.1, p2.1, p1.1, p0.1], tm), [p12.2, p11.2, p10.2, p9.2, p8.2, p7.2, p6.2, p5.2, p4.2, p3.2, p2.2, p1.2, p0.2])
theorem OQ_ : DrawEq 71 45 Ed IH [0, 0, 3, 7, 15, 31, 0, 0, 128, 448, 960, 1984, 4095, 8191] ZB := ⟨by kernel_rfl, by kernel_rfl, fun _ _ _ _ _ _ _ _ _ => by kernel_rfl⟩
theorem GH_ (E : Env) (call round : Ab) (x16 x17 x18 x19 x20 x21 x22 x23 x24 x25 x26 x27 x28 : Value) (tm : T Value) (s : St) : BF call round (Cq E Ed 45 (hdC IH)) [x28, x27, x26, x25, x24, x23, x22, x21, x20, x19, x18, x17, x16] tm s = (M.bind (oS (some x28) fun a => M.pure a) fun v6 => setT 6 v6 tm fun tm1 => M.pure tm1) s := by kernel_rfl
theorem IW_ : ∃ k, RM = .code .ret :: k := ⟨RM.tail, by kernel_rfl⟩
def Ue (E : Env) (call round : Ab) (tm : T Value) : M ((Rho × T Value) × List OpLog) :=
  M.bind (apartO (oS (T.get tm 6) fun a => M.pure a)) fun p0 =>
  M.bind (apartO (oS (T.get tm 6) fun a => M.pure a)) fun p1 =>
  M.bind (apartO (M.on (some (.func (.func 20) #[] #[])) fun f => M.on (seqO [(some p1.1)]) fun l => AY call round f l)) fun p2 =>
  M.bind (apartO (oS (some p2.1) fun a => oS (some (.int .i64 0)) fun b => Cl.get (aBin E .gtr 3 (.tmp 31) (.const (.int .i64 0))) a b)) fun p3 =>
  M.bind (apartO (oS (some p3.1) fun a => M.pure a)) fun p4 =>
  M.bind (apartO (M.chk (isK p4.1) (M.if (isB p4.1 true) (oS (T.get tm 0) fun a => M.pure a) (M.pure undef)))) fun p5 =>
  M.bind (apartO (M.chk (isK p4.1) (M.if (isB p4.1 true) (oS (T.get tm 1) fun a => M.pure a) (M.pure undef)))) fun p6 =>
  M.bind (apartO (M.chk (isK p4.1) (M.if (isB p4.1 true) (oS (T.get tm 1) fun a => M.pure a) (M.pure undef)))) fun p7 =>
  M.bind (apartO (M.chk (isK p4.1) (M.if (isB p4.1 true) (oS (some p7.1) fun a => oS (some (.int .i64 6)) fun b => Cl.get (aBin E .add 3 (.tmp 36) (.const (.int .i64 6))) a b) (M.pure undef)))) fun p8 =>
  M.bind (apartO (M.chk (isK p4.1) (M.if (isB p4.1 true) (M.on (some p5.1) fun a => M.on (onO (some p6.1) fun v => some (some v)) fun b => M.on (onO (some p8.1) fun v => some (some v)) fun c => Bv E 22 a b c) (M.pure undef)))) fun p9 =>
  M.bind (apartO (M.chk (isK p4.1) (M.if (isB p4.1 true) (oS (some p9.1) fun a => Dc E 89 a) (M.pure undef)))) fun p10 =>
  M.bind (apartO (M.chk (isK p4.1) (M.if (isB p4.1 true) (oS (some p10.1) fun a => AQ E 89 a) (M.pure undef)))) fun p11 =>
  M.bind (apartO (M.chk (isK p4.1) (M.if (isB p4.1 true) (oS (T.get tm 6) fun a => M.pure a) (M.pure undef)))) fun p12 =>
  M.bind (apartO (M.chk (isK p4.1) (M.if (isB p4.1 true) (M.on (some (.func (.func 62) #[] #[])) fun f => M.on (seqO [(some p12.1)]) fun l => AY call round f l) (M.pure undef)))) fun p13 =>
  M.bind (apartO (M.chk (isK p4.1) (M.if (isB p4.1 true) (oS (some p11.1) fun a => oS (some p13.1) fun b => Cl.get (aBin E .eql 89 (.tmp 40) (.tmp 42)) a b) (M.pure undef)))) fun p14 =>
  M.bind (apartO (M.on (some p4.1) fun a => M.on (some p14.1) fun b => M.on (some (.bool false)) fun c => BI a b c)) fun p15 =>
  M.bind (apartO (oS (some p0.1) fun a => M.pure a)) fun p16 =>
  setT 4 p16.1 tm fun tm1 =>
  M.pure (([p16.1, p15.1, p14.1, p13.1, p12.1, p11.1, p10.1, p9.1, p8.1, p7.1, p6.1, p5.1, p4.1, p3.1, p2.1, p1.1, p0.1], tm1), [p16.2, p15.2, p14.2, p13.2, p12.2, p11.2, p10.2, p9.2, p8.2, p7.2, p6.2, p5.2, p4.2, p3.2, p2.2, p1.2, p0.2])
theorem TL_ : DrawEq 71 45 Ed HD [0, 0, 2, 6, 14, 30, 30, 30, 158, 510, 1022, 2046, 30, 4126, 16382, 32766, 12319, 131071] Ue := ⟨by kernel_rfl, by kernel_rfl, fun _ _ _ _ _ _ _ _ _ => by kernel_rfl⟩
theorem WI (E : Env) (call round : Ab) (x29 x30 x31 x32 x33 x34 x35 x36 x37 x38 x39 x40 x41 x42 x43 x44 x4 : Value) (tm : T Value) (s : St) : BF call round (Cq E Ed 45 (hdC HD)) [x4, x44, x43, x42, x41, x40, x39, x38, x37, x36, x35, x34, x33, x32, x31, x30, x29] tm s = (M.bind (oS (some x44) fun a => M.pure a) fun v5 => setT 5 v5 tm fun tm1 => M.pure tm1) s := by kernel_rfl
theorem XQ : ∃ k, PT = .code .ret :: k := ⟨PT.tail, by kernel_rfl⟩
def DW : Nat := Bt Try.f72
abbrev WG : Nat := 39
def Af_ : Code := Try.f72.body.getD .skip
theorem Px : envS.fn.get 72 = some Try.f72 := by kernel_rfl
theorem CP_ {a0 a1 a2 : Value} {n : Nat} {s : St} {Q : Value → St → Prop} (h : ∀ tm, T.get tm 0 = some a0 → T.get tm 1 = some a1 → T.get tm 2 = some a2 → W (runF envS n ⟨72, 39, DW, tm, [.code Af_], .run, .normal, none⟩) (s.cxN cxN) fun p s1 => Q p.1 (s1.cxN s.cx)) : W (Au envS (runF envS n) 72 [a0, a1, a2]) s Q :=
 W.call (by kernel_rfl) (by kernel_rfl) Px (by kernel_rfl) rfl rfl (by simp) (h _ (by kernel_rfl) (by kernel_rfl) (by kernel_rfl))
theorem V8 : Try.f72.results.toList = [.cell 6 26, .tmp 7, .tmp 8] := by kernel_rfl
def Qa : List Item := skim 64 [.code Af_]
def JK : List Item := skim 64 Qa.tail
theorem Is_ : skim 64 Qa.tail = JK := by kernel_rfl
def Nk : List Item := skim 64 JK.tail
theorem Tu : skim 64 JK.tail = Nk := by kernel_rfl
def Hu : List Item := skim 64 Nk.tail
theorem TH : skim 64 Nk.tail = Hu := by kernel_rfl
def Km : List Item := skim 64 (brT Hu)
theorem RG_ : skim 64 (brT Hu) = Km := by kernel_rfl
def Lp : List Item := skim 64 (brF Hu)
theorem FA_ : skim 64 (brF Hu) = Lp := by kernel_rfl
def Oe : List Item := skim 64 Km.tail
theorem IY_ : skim 64 Km.tail = Oe := by kernel_rfl
def Ga : List Item := skim 64 Lp.tail
theorem PS_ : skim 64 Lp.tail = Ga := by kernel_rfl
def KM : List Item := skim 64 Ga.tail
theorem DT_ : skim 64 Ga.tail = KM := by kernel_rfl
def Ak_ (E : Env) (call round : Ab) (tm : T Value) : M (T Value) :=
  M.bind (BC E 26) fun v6 =>
  setF 6 v6 tm fun tm1 =>
  mv (some (.slice none 0 0)) fun v7 =>
  setF 7 v7 tm1 fun tm2 =>
  mv (some (.bool false)) fun v8 =>
  setF 8 v8 tm2 fun tm3 =>
  M.pure tm3
theorem FJ_ : RegEq 72 39 DW Qa Ak_ := ⟨by kernel_rfl, fun _ _ _ _ _ _ _ _ _ => by kernel_rfl⟩
def Vt (E : Env) (call round : Ab) (tm : T Value) : M (T Value) :=
  mv (T.get tm 0) fun v13 =>
  mv (T.get tm 1) fun v14 =>
  M.bind (oS (some v14) fun a => oS (some (.int .i64 6)) fun b => Cl.get (aBin E .add 3 (.tmp 14) (.const (.int .i64 6))) a b) fun v15 =>
  mv (T.get tm 1) fun v16 =>
  mv (T.get tm 2) fun v17 =>
  M.bind (M.on (some (.func (.func 20) #[] #[])) fun f => M.on (seqO [(some v17)]) fun l => AY call round f l) fun v18 =>
  M.bind (oS (some v16) fun a => oS (some v18) fun b => Cl.get (aBin E .add 3 (.tmp 16) (.tmp 18)) a b) fun v19 =>
  M.bind (M.on (some v13) fun a => M.on (onO (some v15) fun v => some (some v)) fun b => M.on (onO (some v19) fun v => some (some v)) fun c => Bv E 22 a b c) fun v20 =>
  M.bind (M.on (some (.func (.func 81) #[] #[])) fun f => M.on (seqO [(some v20)]) fun l => AY call round f l) fun v21 =>
  mv (some v21) fun v12 =>
  M.bind (oS (some v12) fun a => kExt 0 a) fun v22 =>
  M.bind (oS (some v12) fun a => kExt 1 a) fun v23 =>
  mv (some v22) fun v9 =>
  setF 9 v9 tm fun tm1 =>
  mv (some v23) fun v10 =>
  setF 10 v10 tm1 fun tm2 =>
  M.pure tm2
theorem WL_ : RegEq 72 39 DW JK Vt := ⟨by kernel_rfl, fun _ _ _ _ _ _ _ _ _ => by kernel_rfl⟩
def Py (E : Env) (call round : Ab) (tm : T Value) : M (T Value) :=
  mv (T.get tm 10) fun v24 =>
  M.bind (oS (some v24) fun a => oS (some (.int .i64 0)) fun b => Cl.get (aBin E .neq 27 (.tmp 24) (.const (.int .i64 0))) a b) fun v25 =>
  setF 25 v25 tm fun tm1 =>
  M.pure tm1
theorem VB : RegEq 72 39 DW Nk Py := ⟨by kernel_rfl, fun _ _ _ _ _ _ _ _ _ => by kernel_rfl⟩
theorem BG_ : A2 Hu = some 25 := by kernel_rfl
def Zz (E : Env) (call round : Ab) (tm : T Value) : M (T Value) :=
  M.bind (oS (seqP []) fun ps => Cb E 26 ps) fun v26 =>
  M.bind (oS (T.get tm 6) fun a => oS (some v26) fun b => A3 E 26 a b) fun _ =>
  mv (some (.slice none 0 0)) fun v7 =>
  setF 7 v7 tm fun tm1 =>
  mv (some (.bool false)) fun v8 =>
  setF 8 v8 tm1 fun tm2 =>
  M.pure tm2
theorem KS_ : RegEq 72 39 DW Km Zz := ⟨by kernel_rfl, fun _ _ _ _ _ _ _ _ _ => by kernel_rfl⟩
def Xc (E : Env) (call round : Ab) (tm : T Value) : M (T Value) :=
  mv (T.get tm 9) fun v27 =>
  M.bind (M.on (some v27) fun a => M.on (some none) fun b => M.on (onO (some (.int .i64 16)) fun v => some (some v)) fun c => Bv E 22 a b c) fun v28 =>
  M.bind (oS (some v28) fun a => Dc E 26 a) fun v29 =>
  M.bind (oS (some v29) fun a => AQ E 26 a) fun v30 =>
  M.bind (BC E 26) fun v11 =>
  setF 11 v11 tm fun tm1 =>
  M.bind (oS (some v11) fun a => oS (some v30) fun b => A3 E 26 a b) fun _ =>
  M.pure tm1
theorem Tf_ : RegEq 72 39 DW Lp Xc := ⟨by kernel_rfl, fun _ _ _ _ _ _ _ _ _ => by kernel_rfl⟩
theorem Nn_ : ∃ k, Oe = .code .ret :: k := ⟨Oe.tail, by kernel_rfl⟩
def Aj_ (E : Env) (call round : Ab) (tm : T Value) : M ((Rho × T Value) × List OpLog) :=
  M.bind (apartO (oS (T.get tm 11) fun a => AQ E 26 a)) fun p0 =>
  M.bind (apartO (oS (T.get tm 9) fun a => M.pure a)) fun p1 =>
  M.bind (apartO (M.on (some p1.1) fun a => M.on (onO (some (.int .i64 16)) fun v => some (some v)) fun b => M.on (some none) fun c => Bv E 22 a b c)) fun p2 =>
  M.bind (apartO (oS (T.get tm 9) fun a => M.pure a)) fun p3 =>
  M.bind (apartO (M.on (some p3.1) fun a => M.on (onO (some (.int .i64 16)) fun v => some (some v)) fun b => M.on (some none) fun c => Bv E 22 a b c)) fun p4 =>
  M.bind (apartO (M.on (some (.func (.func 32) #[] #[])) fun f => M.on (seqO [(some p4.1)]) fun l => AY call round f l)) fun p5 =>
  M.bind (apartO (oS (T.get tm 11) fun a => AQ E 26 a)) fun p6 =>
  M.bind (apartO (oS (some p5.1) fun a => oS (some p6.1) fun b => Cl.get (aBin E .eql 26 (.tmp 36) (.tmp 37)) a b)) fun p7 =>
  M.bind (apartO (oS (T.get tm 6) fun a => oS (some p0.1) fun b => A3 E 26 a b)) fun p8 =>
  M.bind (apartO (oS (some p2.1) fun a => M.pure a)) fun p9 =>
  setT 7 p9.1 tm fun tm1 =>
  M.pure (([p9.1, p7.1, p6.1, p5.1, p4.1, p3.1, p2.1, p1.1, p0.1], tm1), [p9.2, p8.2, p7.2, p6.2, p5.2, p4.2, p3.2, p2.2, p1.2, p0.2])
theorem MZ_ : DrawEq 72 39 DW Ga [0, 0, 2, 0, 8, 24, 0, 120, 57, 319, 1023] Aj_ := ⟨by kernel_rfl, by kernel_rfl, fun _ _ _ _ _ _ _ _ _ => by kernel_rfl⟩
theorem Ho_ (E : Env) (call round : Ab) (x31 x32 x33 x34 x35 x36 x37 x38 x7 : Value) (tm : T Value) (s : St) : BF call round (Cq E DW 39 (hdC Ga)) [x7, x38, x37, x36, x35, x34, x33, x32, x31] tm s = (M.bind (oS (some x38) fun a => M.pure a) fun v8 => setT 8 v8 tm fun tm1 => M.pure tm1) s := by kernel_rfl
theorem OL_ : ∃ k, KM = .code .ret :: k := ⟨KM.tail, by kernel_rfl⟩
def Dm : Nat := Bt Try.f17
abbrev Op_ : Nat := 31
def Ye : Code := Try.f17.body.getD .skip
theorem NU : envS.fn.get 17 = some Try.f17 := by kernel_rfl
theorem Ut_ {a0 : Value} {n : Nat} {s : St} {Q : Value → St → Prop} (h : ∀ tm, T.get tm 0 = some a0 → W (runF envS n ⟨17, 31, Dm, tm, [.code Ye], .run, .normal, none⟩) (s.cxN cxN) fun p s1 => Q p.1 (s1.cxN s.cx)) : W (Au envS (runF envS n) 17 [a0]) s Q :=
 W.call (by kernel_rfl) (by kernel_rfl) NU (by kernel_rfl) rfl rfl (by simp) (h _ (by kernel_rfl))
theorem BS_ : Try.f17.results.toList = [.tmp 2, .cell 3 26, .tmp 4] := by kernel_rfl
def Sh : List Item := skim 64 [.code Ye]
def JW : List Item := skim 64 Sh.tail
theorem Lo_ : skim 64 Sh.tail = JW := by kernel_rfl
def GB : List Item := skim 64 JW.tail
theorem XG : skim 64 JW.tail = GB := by kernel_rfl
def MI : List Item := skim 64 (brT GB)
theorem Jw_ : skim 64 (brT GB) = MI := by kernel_rfl
def NI : List Item := skim 64 (brF GB)
theorem Vs_ : skim 64 (brF GB) = NI := by kernel_rfl
def Jw : List Item := skim 64 MI.tail
theorem HO_ : skim 64 MI.tail = Jw := by kernel_rfl
def GJ : List Item := skim 64 NI.tail
theorem BF_ : skim 64 NI.tail = GJ := by kernel_rfl
def Pg : List Item := skim 64 (brT GJ)
theorem RP_ : skim 64 (brT GJ) = Pg := by kernel_rfl
def Lf : List Item := skim 64 (brF GJ)
theorem CN_ : skim 64 (brF GJ) = Lf := by kernel_rfl
theorem KI_ : skim 64 Pg.tail = Jw := by kernel_rfl
def GM : List Item := skim 64 Lf.tail
theorem HF_ : skim 64 Lf.tail = GM := by kernel_rfl
def So : List Item := skim 64 GM.tail
theorem KO_ : skim 64 GM.tail = So := by kernel_rfl
def VV (E : Env) (call round : Ab) (tm : T Value) : M (T Value) :=
  mv (some (.slice none 0 0)) fun v2 =>
  setF 2 v2 tm fun tm1 =>
  M.bind (BC E 26) fun v3 =>
  setF 3 v3 tm1 fun tm2 =>
  mv (some (.int .i64 0)) fun v4 =>
  setF 4 v4 tm2 fun tm3 =>
  M.pure tm3
theorem Dw_ : RegEq 17 31 Dm Sh VV := ⟨by kernel_rfl, fun _ _ _ _ _ _ _ _ _ => by kernel_rfl⟩
def AK_ (E : Env) (call round : Ab) (tm : T Value) : M (T Value) :=
  mv (T.get tm 0) fun v8 =>
  M.bind (oS (seqO [(some v8)]) fun l => AS E .len [22] l) fun v9 =>
  M.bind (oS (some v9) fun a => oS (some (.int .i64 0)) fun b => Cl.get (aBin E .eql 3 (.tmp 9) (.const (.int .i64 0))) a b) fun v10 =>
  mv (some v10) fun v7 =>
  setF 7 v7 tm fun tm1 =>
  M.pure tm1
theorem Vr_ : RegEq 17 31 Dm JW AK_ := ⟨by kernel_rfl, fun _ _ _ _ _ _ _ _ _ => by kernel_rfl⟩
theorem Vv : A2 GB = some 7 := by kernel_rfl
def YY (E : Env) (call round : Ab) (tm : T Value) : M (T Value) :=
  M.bind (oS (seqP []) fun ps => Cb E 26 ps) fun v11 =>
  mv (some (.slice none 0 0)) fun v2 =>
  setF 2 v2 tm fun tm1 =>
  M.bind (oS (T.get tm1 3) fun a => oS (some v11) fun b => A3 E 26 a b) fun _ =>
  mv (some (.int .i64 2)) fun v4 =>
  setF 4 v4 tm1 fun tm2 =>
  M.pure tm2
theorem KT_ : RegEq 17 31 Dm MI YY := ⟨by kernel_rfl, fun _ _ _ _ _ _ _ _ _ => by kernel_rfl⟩
def YN (E : Env) (call round : Ab) (tm : T Value) : M (T Value) :=
  mv (T.get tm 0) fun v13 =>
  M.bind (oS (seqO [(some v13)]) fun l => AS E .len [22] l) fun v14 =>
  M.bind (oS (some v14) fun a => oS (some (.int .i64 1024)) fun b => Cl.get (aBin E .gtr 3 (.tmp 14) (.const (.int .i64 1024))) a b) fun v15 =>
  mv (some v15) fun v12 =>
  setF 12 v12 tm fun tm1 =>
  M.pure tm1
theorem Ms_ : RegEq 17 31 Dm NI YN := ⟨by kernel_rfl, fun _ _ _ _ _ _ _ _ _ => by kernel_rfl⟩
theorem LW_ : ∃ k, Jw = .code .ret :: k := ⟨Jw.tail, by kernel_rfl⟩
theorem Xs : A2 GJ = some 12 := by kernel_rfl
def ZG (E : Env) (call round : Ab) (tm : T Value) : M (T Value) :=
  M.bind (oS (seqP []) fun ps => Cb E 26 ps) fun v16 =>
  mv (some (.slice none 0 0)) fun v2 =>
  setF 2 v2 tm fun tm1 =>
  M.bind (oS (T.get tm1 3) fun a => oS (some v16) fun b => A3 E 26 a b) fun _ =>
  mv (some (.int .i64 3)) fun v4 =>
  setF 4 v4 tm1 fun tm2 =>
  M.pure tm2
theorem Gu_ : RegEq 17 31 Dm Pg ZG := ⟨by kernel_rfl, fun _ _ _ _ _ _ _ _ _ => by kernel_rfl⟩
def Cr_ (E : Env) (call round : Ab) (tm : T Value) : M (T Value) :=
  mv (T.get tm 0) fun v17 =>
  M.bind (oS (seqO [(some v17)]) fun l => AS E .len [22] l) fun v18 =>
  M.bind (M.on (some (.func (.func 62) #[] #[])) fun f => M.on (seqO [(some v18)]) fun l => AY call round f l) fun v19 =>
  mv (T.get tm 0) fun v20 =>
  M.bind (M.on (some (.func (.func 32) #[] #[])) fun f => M.on (seqO [(some v20)]) fun l => AY call round f l) fun v21 =>
  M.bind (BC E 89) fun v5 =>
  setF 5 v5 tm fun tm1 =>
  M.bind (BC E 26) fun v6 =>
  setF 6 v6 tm1 fun tm2 =>
  M.bind (oS (some v5) fun a => oS (some v19) fun b => A3 E 89 a b) fun _ =>
  M.bind (oS (some v6) fun a => oS (some v21) fun b => A3 E 26 a b) fun _ =>
  M.pure tm2
theorem RD_ : RegEq 17 31 Dm Lf Cr_ := ⟨by kernel_rfl, fun _ _ _ _ _ _ _ _ _ => by kernel_rfl⟩
def Be_ (E : Env) (call round : Ab) (tm : T Value) : M ((Rho × T Value) × List OpLog) :=
  M.bind (apartO (M.on (T.get tm 5) fun a => M.on (some none) fun b => M.on (some none) fun c => Bv E 89 a b c)) fun p0 =>
  M.bind (apartO (M.on (T.get tm 6) fun a => M.on (some none) fun b => M.on (some none) fun c => Bv E 26 a b c)) fun p1 =>
  M.bind (apartO (oS (T.get tm 0) fun a => M.pure a)) fun p2 =>
  M.bind (apartO (oS (seqP [(0, (some p1.1)), (1, (some p2.1))]) fun ps => Cj E 43 2 ps)) fun p3 =>
  M.bind (apartO (M.on (some (.func (.func 63) #[] #[])) fun f => M.on (seqO [(some p3.1)]) fun l => AY call round f l)) fun p4 =>
  M.bind (apartO (M.on (some (.func (.func 64) #[] #[])) fun f => M.on (seqO [(some p4.1)]) fun l => AY call round f l)) fun p5 =>
  M.bind (apartO (oS (seqP [(0, (some p0.1)), (1, (some p5.1))]) fun ps => Cj E 43 2 ps)) fun p6 =>
  M.bind (apartO (M.on (some (.func (.func 63) #[] #[])) fun f => M.on (seqO [(some p6.1)]) fun l => AY call round f l)) fun p7 =>
  M.bind (apartO (oS (T.get tm 6) fun a => AQ E 26 a)) fun p8 =>
  M.bind (apartO (oS (some p7.1) fun a => M.pure a)) fun p9 =>
  setT 2 p9.1 tm fun tm1 =>
  M.bind (apartO (oS (T.get tm1 3) fun a => oS (some p8.1) fun b => A3 E 26 a b)) fun p10 =>
  M.pure (([p9.1, p8.1, p7.1, p6.1, p5.1, p4.1, p3.1, p2.1, p1.1, p0.1], tm1), [p10.2, p9.2, p8.2, p7.2, p6.2, p5.2, p4.2, p3.2, p2.2, p1.2, p0.2])
theorem EU_ : DrawEq 17 31 Dm GM [0, 0, 0, 6, 14, 30, 63, 127, 0, 255, 1023, 2047] Be_ := ⟨by kernel_rfl, by kernel_rfl, fun _ _ _ _ _ _ _ _ _ => by kernel_rfl⟩
theorem TU_ (E : Env) (call round : Ab) (x22 x23 x24 x25 x26 x27 x28 x29 x30 x2 : Value) (tm : T Value) (s : St) : BF call round (Cq E Dm 31 (hdC GM)) [x2, x30, x29, x28, x27, x26, x25, x24, x23, x22] tm s = (M.bind (oS (some (.int .i64 0)) fun a => M.pure a) fun v4 => setT 4 v4 tm fun tm1 => M.pure tm1) s := by kernel_rfl
theorem Uw_ : ∃ k, So = .code .ret :: k := ⟨So.tail, by kernel_rfl⟩
def CT : Nat := Bt Try.f27
abbrev Mu : Nat := 54
def Wj : Code := Try.f27.body.getD .skip
theorem KE : envS.fn.get 27 = some Try.f27 := by kernel_rfl
theorem XC_ {a0 a1 : Value} {n : Nat} {s : St} {Q : Value → St → Prop} (h : ∀ tm, T.get tm 0 = some a0 → T.get tm 1 = some a1 → W (runF envS n ⟨27, 54, CT, tm, [.code Wj], .run, .normal, none⟩) (s.cxN cxN) fun p s1 => Q p.1 (s1.cxN s.cx)) : W (Au envS (runF envS n) 27 [a0, a1]) s Q :=
 W.call (by kernel_rfl) (by kernel_rfl) KE (by kernel_rfl) rfl rfl (by simp) (h _ (by kernel_rfl) (by kernel_rfl))
theorem Su : Try.f27.results.toList = [.tmp 4, .tmp 5] := by kernel_rfl
def NW : List Item := skim 64 [.code Wj]
def Nn : List Item := skim 64 NW.tail
theorem EG_ : skim 64 NW.tail = Nn := by kernel_rfl
def FT : List Item := skim 64 Nn.tail
theorem XN_ : skim 64 Nn.tail = FT := by kernel_rfl
def Fc : List Item := skim 64 FT.tail
theorem Qj : skim 64 FT.tail = Fc := by kernel_rfl
def L7 : List Item := skim 64 (brT Fc)
theorem Gy_ : skim 64 (brT Fc) = L7 := by kernel_rfl
def Jf : List Item := skim 64 (brF Fc)
theorem ID_ : skim 64 (brF Fc) = Jf := by kernel_rfl
def Rq : List Item := skim 64 L7.tail
theorem Nz_ : skim 64 L7.tail = Rq := by kernel_rfl
def Ms : List Item := skim 64 Jf.tail
theorem Qo_ : skim 64 Jf.tail = Ms := by kernel_rfl
def Fv : List Item := skim 64 Ms.tail
theorem ZT : skim 64 Ms.tail = Fv := by kernel_rfl
def LI : List Item := skim 64 (brT Fv)
theorem SM_ : skim 64 (brT Fv) = LI := by kernel_rfl
def LB : List Item := skim 64 (brF Fv)
theorem Va_ : skim 64 (brF Fv) = LB := by kernel_rfl
def OZ : List Item := skim 64 LI.tail
theorem DV_ : skim 64 LI.tail = OZ := by kernel_rfl
def Qe : List Item := skim 64 LB.tail
theorem Lt_ : skim 64 LB.tail = Qe := by kernel_rfl
def Zm (E : Env) (call round : Ab) (tm : T Value) : M (T Value) :=
  M.bind (oS (T.get tm 1) fun a => kBox a) fun v3 =>
  setF 3 v3 tm fun tm1 =>
  mv (some (.slice none 0 0)) fun v4 =>
  setF 4 v4 tm1 fun tm2 =>
  mv (some (.int .i64 0)) fun v5 =>
  setF 5 v5 tm2 fun tm3 =>
  M.pure tm3
theorem Jq_ : RegEq 27 54 CT NW Zm := ⟨by kernel_rfl, fun _ _ _ _ _ _ _ _ _ => by kernel_rfl⟩
def WP (E : Env) (call round : Ab) (tm : T Value) : M (T Value) :=
  mv (T.get tm 0) fun v12 =>
  M.bind (oS (T.get tm 3) fun a => kFld E 35 a 1) fun v13 =>
  M.bind (oS (some v13) fun a => AQ E 3 a) fun v14 =>
  M.bind (M.on (some (.func (.func 71) #[] #[])) fun f => M.on (seqO [(some v12), (some v14)]) fun l => AY call round f l) fun v15 =>
  mv (some v15) fun v11 =>
  M.bind (oS (some v11) fun a => kExt 0 a) fun v16 =>
  M.bind (oS (some v11) fun a => kExt 1 a) fun v17 =>
  mv (some v16) fun v6 =>
  setF 6 v6 tm fun tm1 =>
  mv (some v17) fun v7 =>
  setF 7 v7 tm1 fun tm2 =>
  M.pure tm2
theorem PO_ : RegEq 27 54 CT Nn WP := ⟨by kernel_rfl, fun _ _ _ _ _ _ _ _ _ => by kernel_rfl⟩
def Ps (E : Env) (call round : Ab) (tm : T Value) : M ((Rho × T Value) × List OpLog) :=
  M.bind (apartO (oS (T.get tm 7) fun a => M.pure a)) fun p0 =>
  M.bind (apartO (oS (some p0.1) fun a => kUn E.P .not a)) fun p1 =>
  M.bind (apartO (oS (some p1.1) fun a => M.pure a)) fun p2 =>
  M.bind (apartO (M.chk (isK p2.1) (M.if (isB p2.1 false) (oS (T.get tm 6) fun a => M.pure a) (M.pure undef)))) fun p3 =>
  M.bind (apartO (M.chk (isK p2.1) (M.if (isB p2.1 false) (oS (T.get tm 3) fun a => kFld E 35 a 2) (M.pure undef)))) fun p4 =>
  M.bind (apartO (M.chk (isK p2.1) (M.if (isB p2.1 false) (oS (some p4.1) fun a => AQ E 3 a) (M.pure undef)))) fun p5 =>
  M.bind (apartO (M.chk (isK p2.1) (M.if (isB p2.1 false) (oS (some p3.1) fun a => oS (some p5.1) fun b => Cl.get (aBin E .neq 3 (.tmp 21) (.tmp 23)) a b) (M.pure undef)))) fun p6 =>
  M.bind (apartO (M.on (some p2.1) fun a => M.on (some (.bool true)) fun b => M.on (some p6.1) fun c => BI a b c)) fun p7 =>
  M.bind (apartO (oS (some p7.1) fun a => M.pure a)) fun p8 =>
  M.bind (apartO (M.chk (isK p8.1) (M.if (isB p8.1 false) (oS (T.get tm 0) fun a => M.pure a) (M.pure undef)))) fun p9 =>
  M.bind (apartO (M.chk (isK p8.1) (M.if (isB p8.1 false) (oS (seqO [(some p9.1)]) fun l => AS E .len [22] l) (M.pure undef)))) fun p10 =>
  M.bind (apartO (M.chk (isK p8.1) (M.if (isB p8.1 false) (oS (T.get tm 3) fun a => kFld E 35 a 1) (M.pure undef)))) fun p11 =>
  M.bind (apartO (M.chk (isK p8.1) (M.if (isB p8.1 false) (oS (some p11.1) fun a => AQ E 3 a) (M.pure undef)))) fun p12 =>
  M.bind (apartO (M.chk (isK p8.1) (M.if (isB p8.1 false) (oS (some p10.1) fun a => oS (some p12.1) fun b => Cl.get (aBin E .sub 3 (.tmp 28) (.tmp 30)) a b) (M.pure undef)))) fun p13 =>
  M.bind (apartO (M.chk (isK p8.1) (M.if (isB p8.1 false) (oS (T.get tm 6) fun a => M.pure a) (M.pure undef)))) fun p14 =>
  M.bind (apartO (M.chk (isK p8.1) (M.if (isB p8.1 false) (M.on (some (.func (.func 20) #[] #[])) fun f => M.on (seqO [(some p14.1)]) fun l => AY call round f l) (M.pure undef)))) fun p15 =>
  M.bind (apartO (M.chk (isK p8.1) (M.if (isB p8.1 false) (oS (some p13.1) fun a => oS (some p15.1) fun b => Cl.get (aBin E .lss 3 (.tmp 31) (.tmp 33)) a b) (M.pure undef)))) fun p16 =>
  M.pure (([p16.1, p15.1, p14.1, p13.1, p12.1, p11.1, p10.1, p9.1, p8.1, p7.1, p6.1, p5.1, p4.1, p3.1, p2.1, p1.1, p0.1], tm), [p16.2, p15.2, p14.2, p13.2, p12.2, p11.2, p10.2, p9.2, p8.2, p7.2, p6.2, p5.2, p4.2, p3.2, p2.2, p1.2, p0.2])
theorem Oe_ : DrawEq 27 54 CT FT [0, 1, 3, 7, 7, 23, 63, 127, 255, 511, 1023, 511, 2559, 8191, 511, 16895, 65535, 131071] Ps := ⟨by kernel_rfl, by kernel_rfl, fun _ _ _ _ _ _ _ _ _ => by kernel_rfl⟩
theorem Oa (E : Env) (call round : Ab) (x18 x19 x20 x21 x22 x23 x24 x25 x26 x27 x28 x29 x30 x31 x32 x33 x34 : Value) (tm : T Value) (s : St) : BF call round (Cq E CT 54 (hdC FT)) [x34, x33, x32, x31, x30, x29, x28, x27, x26, x25, x24, x23, x22, x21, x20, x19, x18] tm s = (M.bind (M.on (some x26) fun a => M.on (some (.bool true)) fun b => M.on (some x34) fun c => BI a b c) fun v35 => setT 35 v35 tm fun tm1 => M.pure tm1) s := by kernel_rfl
theorem At_ : A2 Fc = some 35 := by kernel_rfl
def Wm (E : Env) (call round : Ab) (tm : T Value) : M (T Value) :=
  mv (some (.slice none 0 0)) fun v4 =>
  setF 4 v4 tm fun tm1 =>
  mv (some (.int .i64 6)) fun v5 =>
  setF 5 v5 tm1 fun tm2 =>
  M.pure tm2
theorem Ei_ : RegEq 27 54 CT L7 Wm := ⟨by kernel_rfl, fun _ _ _ _ _ _ _ _ _ => by kernel_rfl⟩
def Bd_ (E : Env) (call round : Ab) (tm : T Value) : M (T Value) :=
  mv (T.get tm 0) fun v37 =>
  M.bind (oS (T.get tm 3) fun a => kFld E 35 a 1) fun v38 =>
  M.bind (oS (some v38) fun a => AQ E 3 a) fun v39 =>
  mv (T.get tm 6) fun v40 =>
  M.bind (M.on (some (.func (.func 72) #[] #[])) fun f => M.on (seqO [(some v37), (some v39), (some v40)]) fun l => AY call round f l) fun v41 =>
  mv (some v41) fun v36 =>
  M.bind (oS (some v36) fun a => kExt 0 a) fun v42 =>
  M.bind (oS (some v36) fun a => kExt 1 a) fun v43 =>
  M.bind (oS (some v36) fun a => kExt 2 a) fun v44 =>
  M.bind (BC E 26) fun v8 =>
  setF 8 v8 tm fun tm1 =>
  M.bind (oS (some v8) fun a => oS (some v42) fun b => A3 E 26 a b) fun _ =>
  mv (some v43) fun v9 =>
  setF 9 v9 tm1 fun tm2 =>
  mv (some v44) fun v10 =>
  setF 10 v10 tm2 fun tm3 =>
  M.pure tm3
theorem OR_ : RegEq 27 54 CT Jf Bd_ := ⟨by kernel_rfl, fun _ _ _ _ _ _ _ _ _ => by kernel_rfl⟩
theorem Im_ : ∃ k, Rq = .code .ret :: k := ⟨Rq.tail, by kernel_rfl⟩
def Rc (E : Env) (call round : Ab) (tm : T Value) : M (T Value) :=
  mv (T.get tm 10) fun v45 =>
  M.bind (oS (some v45) fun a => kUn E.P .not a) fun v46 =>
  mv (some v46) fun v47 =>
  M.bind (M.chk (isK v47) (M.if (isB v47 false) (oS (T.get tm 8) fun a => AQ E 26 a) (M.pure undef))) fun v48 =>
  M.bind (M.chk (isK v47) (M.if (isB v47 false) (oS (T.get tm 3) fun a => kFld E 35 a 0) (M.pure undef))) fun v49 =>
  M.bind (M.chk (isK v47) (M.if (isB v47 false) (oS (some v49) fun a => AQ E 26 a) (M.pure undef))) fun v50 =>
  M.bind (M.chk (isK v47) (M.if (isB v47 false) (oS (some v48) fun a => oS (some v50) fun b => Cl.get (aBin E .neq 26 (.tmp 48) (.tmp 50)) a b) (M.pure undef))) fun v51 =>
  M.bind (M.on (some v47) fun a => M.on (some (.bool true)) fun b => M.on (some v51) fun c => BI a b c) fun v52 =>
  setF 52 v52 tm fun tm1 =>
  M.pure tm1
theorem MQ_ : RegEq 27 54 CT Ms Rc := ⟨by kernel_rfl, fun _ _ _ _ _ _ _ _ _ => by kernel_rfl⟩
theorem UR : A2 Fv = some 52 := by kernel_rfl
def WC (E : Env) (call round : Ab) (tm : T Value) : M (T Value) :=
  mv (some (.slice none 0 0)) fun v4 =>
  setF 4 v4 tm fun tm1 =>
  mv (some (.int .i64 11)) fun v5 =>
  setF 5 v5 tm1 fun tm2 =>
  M.pure tm2
theorem Jy_ : RegEq 27 54 CT LI WC := ⟨by kernel_rfl, fun _ _ _ _ _ _ _ _ _ => by kernel_rfl⟩
def Am_ (E : Env) (call round : Ab) (tm : T Value) : M (T Value) :=
  mv (T.get tm 9) fun v53 =>
  mv (some v53) fun v4 =>
  setF 4 v4 tm fun tm1 =>
  mv (some (.int .i64 0)) fun v5 =>
  setF 5 v5 tm1 fun tm2 =>
  M.pure tm2
theorem Nk_ : RegEq 27 54 CT LB Am_ := ⟨by kernel_rfl, fun _ _ _ _ _ _ _ _ _ => by kernel_rfl⟩
theorem XT_ : ∃ k, OZ = .code .ret :: k := ⟨OZ.tail, by kernel_rfl⟩
theorem LF_ : ∃ k, Qe = .code .ret :: k := ⟨Qe.tail, by kernel_rfl⟩
def O9 : Nat := Bt Try.f68
def TF : Code := Try.f68.body.getD .skip
theorem Ve : envS.fn.get 68 = some Try.f68 := by kernel_rfl
theorem LE_ {a0 : Value} {n : Nat} {s : St} {Q : Value → St → Prop} (h : ∀ tm, T.get tm 0 = some a0 → W (runF envS n ⟨68, 4, O9, tm, [.code TF], .run, .normal, none⟩) (s.cxN cxN) fun p s1 => Q p.1 (s1.cxN s.cx)) : W (Au envS (runF envS n) 68 [a0]) s Q :=
 W.call (by kernel_rfl) (by kernel_rfl) Ve (by kernel_rfl) rfl rfl (by simp) (h _ (by kernel_rfl))
theorem Dh_ : Try.f68.results.toList = [.tmp 2] := by kernel_rfl
def Ql : List Item := skim 64 [.code TF]
def LM : List Item := skim 64 Ql.tail
theorem CT_ : skim 64 Ql.tail = LM := by kernel_rfl
def PS : List Item := skim 64 LM.tail
theorem NR_ : skim 64 LM.tail = PS := by kernel_rfl
def T1 (E : Env) (call round : Ab) (tm : T Value) : M (T Value) :=
  M.bind (oS (T.get tm 0) fun a => kBox a) fun v1 =>
  setF 1 v1 tm fun tm1 =>
  mv (some .nilFunc) fun v2 =>
  setF 2 v2 tm1 fun tm2 =>
  M.pure tm2
theorem Xh_ : RegEq 68 4 O9 Ql T1 := ⟨by kernel_rfl, fun _ _ _ _ _ _ _ _ _ => by kernel_rfl⟩
def Br_ (E : Env) (call round : Ab) (tm : T Value) : M (T Value) :=
  M.bind (oS (seqO []) fun a => oS (seqO [(T.get tm 1)]) fun b => M.pure (.func (.func 109) a.toArray b.toArray)) fun v3 =>
  mv (some v3) fun v2 =>
  setF 2 v2 tm fun tm1 =>
  M.pure tm1
theorem RY_ : RegEq 68 4 O9 LM Br_ := ⟨by kernel_rfl, fun _ _ _ _ _ _ _ _ _ => by kernel_rfl⟩
theorem Rt_ : ∃ k, PS = .code .ret :: k := ⟨PS.tail, by kernel_rfl⟩
def BU : Nat := Bt Try.f109
abbrev DY : Nat := 66
def S3 : Code := Try.f109.body.getD .skip
theorem Xr : envS.fn.get 109 = some Try.f109 := by kernel_rfl
theorem MP_ {a0 a1 : Value} {n : Nat} {s : St} {Q : Value → St → Prop} (h : ∀ tm, T.get tm 0 = some a0 → T.get tm 1 = some a1 → W (runF envS n ⟨109, 66, BU, tm, [.code S3], .run, .normal, none⟩) (s.cxN cxN) fun p s1 => Q p.1 (s1.cxN s.cx)) : W (Au envS (runF envS n) 109 [a0, a1]) s Q :=
 W.call (by kernel_rfl) (by kernel_rfl) Xr (by kernel_rfl) rfl rfl (by simp) (h _ (by kernel_rfl) (by kernel_rfl))
theorem MS_ : Try.f109.results.toList = [] := by kernel_rfl
def PB : List Item := skim 64 [.code S3]
def EO : List Item := skim 64 PB.tail
theorem CA_ : skim 64 PB.tail = EO := by kernel_rfl
def LE : List Item := skim 64 EO.tail
theorem XV : skim 64 EO.tail = LE := by kernel_rfl
def LH : List Item := skim 64 LE.tail
theorem UO : skim 64 LE.tail = LH := by kernel_rfl
def HA : List Item := skim 64 LH.tail
theorem Qd : skim 64 LH.tail = HA := by kernel_rfl
def MY : List Item := skim 64 (brT HA)
theorem Cv_ : skim 64 (brT HA) = MY := by kernel_rfl
def NM : List Item := skim 64 (brF HA)
theorem PB_ : skim 64 (brF HA) = NM := by kernel_rfl
def E8 : List Item := skim 64 MY.tail
theorem Ag_ : skim 64 MY.tail = E8 := by kernel_rfl
def FX : List Item := skim 64 NM.tail
theorem V2 : skim 64 NM.tail = FX := by kernel_rfl
def Bu_ : List Item := skim 64 E8.tail
theorem HE_ : skim 64 E8.tail = Bu_ := by kernel_rfl
def ES : List Item := skim 64 (brT FX)
theorem DG_ : skim 64 (brT FX) = ES := by kernel_rfl
def Iv : List Item := skim 64 (brF FX)
theorem Ea_ : skim 64 (brF FX) = Iv := by kernel_rfl
def MB : List Item := skim 64 (brT ES)
theorem Ct_ : skim 64 (brT ES) = MB := by kernel_rfl
def My : List Item := skim 64 (brF ES)
theorem TX : skim 64 (brF ES) = My := by kernel_rfl
theorem TR : skim 64 Iv.tail = ES := by kernel_rfl
theorem FW_ : skim 64 MB.tail = E8 := by kernel_rfl
def JA : List Item := skim 64 My.tail
theorem Zd : skim 64 My.tail = JA := by kernel_rfl
def GA : List Item := skim 64 (brT JA)
theorem Mu_ : skim 64 (brT JA) = GA := by kernel_rfl
theorem VZ_ : skim 64 (brF JA) = E8 := by kernel_rfl
def ID : List Item := skim 64 GA.tail
theorem WX_ : skim 64 GA.tail = ID := by kernel_rfl
def KW : List Item := skim 64 ID.tail
theorem OV_ : skim 64 ID.tail = KW := by kernel_rfl
def N4 : List Item := skim 64 (brF KW)
theorem WD_ : skim 64 (brF KW) = N4 := by kernel_rfl
theorem JR_ : skim 64 N4.tail = EO := by kernel_rfl
def TJ (E : Env) (call round : Ab) (tm : T Value) : M (T Value) :=
  mv (some (.int .i64 0)) fun v3 =>
  setF 3 v3 tm fun tm1 =>
  M.pure tm1
theorem KW_ : RegEq 109 66 BU PB TJ := ⟨by kernel_rfl, fun _ _ _ _ _ _ _ _ _ => by kernel_rfl⟩
def Pw (E : Env) (call round : Ab) (tm : T Value) : M (T Value) :=
  M.bind (oS (T.get tm 1) fun a => AQ E 22 a) fun v11 =>
  mv (T.get tm 3) fun v12 =>
  M.bind (M.on (some (.func (.func 71) #[] #[])) fun f => M.on (seqO [(some v11), (some v12)]) fun l => AY call round f l) fun v13 =>
  mv (some v13) fun v10 =>
  M.bind (oS (some v10) fun a => kExt 0 a) fun v14 =>
  M.bind (oS (some v10) fun a => kExt 1 a) fun v15 =>
  mv (some v14) fun v4 =>
  setF 4 v4 tm fun tm1 =>
  mv (some v15) fun v5 =>
  setF 5 v5 tm1 fun tm2 =>
  M.pure tm2
theorem Cs_ : RegEq 109 66 BU EO Pw := ⟨by kernel_rfl, fun _ _ _ _ _ _ _ _ _ => by kernel_rfl⟩
def RB (E : Env) (call round : Ab) (tm : T Value) : M (T Value) :=
  mv (some (.int .i64 2)) fun v6 =>
  setF 6 v6 tm fun tm1 =>
  M.pure tm1
theorem Yi : RegEq 109 66 BU LE RB := ⟨by kernel_rfl, fun _ _ _ _ _ _ _ _ _ => by kernel_rfl⟩
def Pr (E : Env) (call round : Ab) (tm : T Value) : M (T Value) :=
  mv (T.get tm 3) fun v17 =>
  M.bind (oS (T.get tm 1) fun a => AQ E 22 a) fun v18 =>
  M.bind (oS (seqO [(some v18)]) fun l => AS E .len [22] l) fun v19 =>
  M.bind (oS (some v17) fun a => oS (some v19) fun b => Cl.get (aBin E .eql 3 (.tmp 17) (.tmp 19)) a b) fun v20 =>
  mv (some v20) fun v16 =>
  setF 16 v16 tm fun tm1 =>
  M.pure tm1
theorem SU : RegEq 109 66 BU LH Pr := ⟨by kernel_rfl, fun _ _ _ _ _ _ _ _ _ => by kernel_rfl⟩
theorem Sn : A2 HA = some 16 := by kernel_rfl
def OT (E : Env) (call round : Ab) (tm : T Value) : M (T Value) :=
  mv (some (.int .i64 0)) fun v6 =>
  setF 6 v6 tm fun tm1 =>
  M.pure tm1
theorem T8 : RegEq 109 66 BU MY OT := ⟨by kernel_rfl, fun _ _ _ _ _ _ _ _ _ => by kernel_rfl⟩
def X7 (E : Env) (call round : Ab) (tm : T Value) : M (T Value) :=
  M.bind (oS (T.get tm 1) fun a => AQ E 22 a) fun v22 =>
  M.bind (oS (seqO [(some v22)]) fun l => AS E .len [22] l) fun v23 =>
  mv (T.get tm 3) fun v24 =>
  M.bind (oS (some v23) fun a => oS (some v24) fun b => Cl.get (aBin E .sub 3 (.tmp 23) (.tmp 24)) a b) fun v25 =>
  M.bind (oS (some v25) fun a => oS (some (.int .i64 6)) fun b => Cl.get (aBin E .lss 3 (.tmp 25) (.const (.int .i64 6))) a b) fun v26 =>
  mv (some v26) fun v21 =>
  setF 21 v21 tm fun tm1 =>
  M.pure tm1
theorem Dr_ : RegEq 109 66 BU NM X7 := ⟨by kernel_rfl, fun _ _ _ _ _ _ _ _ _ => by kernel_rfl⟩
def Av_ (E : Env) (call round : Ab) (tm : T Value) : M (T Value) :=
  mv (T.get tm 0) fun v61 =>
  mv (T.get tm 3) fun v62 =>
  mv (T.get tm 6) fun v63 =>
  M.bind (oS (seqP [(2, (some v63))]) fun ps => Cb E 97 ps) fun v64 =>
  M.bind (M.on (some v61) fun f => M.on (seqO [(some v62), (some v64)]) fun l => AY call round f l) fun v65 =>
  M.pure tm
theorem IR_ : RegEq 109 66 BU E8 Av_ := ⟨by kernel_rfl, fun _ _ _ _ _ _ _ _ _ => by kernel_rfl⟩
theorem ZV : A2 FX = some 21 := by kernel_rfl
theorem MC : A2 ES = some 21 := by kernel_rfl
def RX (E : Env) (call round : Ab) (tm : T Value) : M ((Rho × T Value) × List OpLog) :=
  M.bind (apartO (oS (T.get tm 5) fun a => M.pure a)) fun p0 =>
  M.bind (apartO (oS (some p0.1) fun a => M.pure a)) fun p1 =>
  M.bind (apartO (M.chk (isK p1.1) (M.if (isB p1.1 true) (oS (T.get tm 1) fun a => AQ E 22 a) (M.pure undef)))) fun p2 =>
  M.bind (apartO (M.chk (isK p1.1) (M.if (isB p1.1 true) (oS (seqO [(some p2.1)]) fun l => AS E .len [22] l) (M.pure undef)))) fun p3 =>
  M.bind (apartO (M.chk (isK p1.1) (M.if (isB p1.1 true) (oS (T.get tm 3) fun a => M.pure a) (M.pure undef)))) fun p4 =>
  M.bind (apartO (M.chk (isK p1.1) (M.if (isB p1.1 true) (oS (some p3.1) fun a => oS (some p4.1) fun b => Cl.get (aBin E .sub 3 (.tmp 30) (.tmp 31)) a b) (M.pure undef)))) fun p5 =>
  M.bind (apartO (M.chk (isK p1.1) (M.if (isB p1.1 true) (oS (T.get tm 4) fun a => M.pure a) (M.pure undef)))) fun p6 =>
  M.bind (apartO (M.chk (isK p1.1) (M.if (isB p1.1 true) (M.on (some (.func (.func 20) #[] #[])) fun f => M.on (seqO [(some p6.1)]) fun l => AY call round f l) (M.pure undef)))) fun p7 =>
  M.bind (apartO (M.chk (isK p1.1) (M.if (isB p1.1 true) (oS (some p5.1) fun a => oS (some p7.1) fun b => Cl.get (aBin E .lss 3 (.tmp 32) (.tmp 34)) a b) (M.pure undef)))) fun p8 =>
  M.bind (apartO (M.on (some p1.1) fun a => M.on (some p8.1) fun b => M.on (some (.bool false)) fun c => BI a b c)) fun p9 =>
  M.pure (([p9.1, p8.1, p7.1, p6.1, p5.1, p4.1, p3.1, p2.1, p1.1, p0.1], tm), [p9.2, p8.2, p7.2, p6.2, p5.2, p4.2, p3.2, p2.2, p1.2, p0.2])
theorem HD_ : DrawEq 109 66 BU Iv [0, 1, 3, 7, 3, 31, 3, 67, 255, 511, 1023] RX := ⟨by kernel_rfl, by kernel_rfl, fun _ _ _ _ _ _ _ _ _ => by kernel_rfl⟩
theorem UA (E : Env) (call round : Ab) (x27 x28 x29 x30 x31 x32 x33 x34 x35 x36 : Value) (tm : T Value) (s : St) : BF call round (Cq E BU 66 (hdC Iv)) [x36, x35, x34, x33, x32, x31, x30, x29, x28, x27] tm s = (M.bind (oS (some x36) fun a => M.pure a) fun v21 => setT 21 v21 tm fun tm1 => M.pure tm1) s := by kernel_rfl
def VE (E : Env) (call round : Ab) (tm : T Value) : M (T Value) :=
  mv (some (.int .i64 1)) fun v6 =>
  setF 6 v6 tm fun tm1 =>
  M.pure tm1
theorem IF_ : RegEq 109 66 BU MB VE := ⟨by kernel_rfl, fun _ _ _ _ _ _ _ _ _ => by kernel_rfl⟩
def RJ (E : Env) (call round : Ab) (tm : T Value) : M (T Value) :=
  mv (T.get tm 5) fun v38 =>
  mv (some v38) fun v37 =>
  setF 37 v37 tm fun tm1 =>
  M.pure tm1
theorem Zx : RegEq 109 66 BU My RJ := ⟨by kernel_rfl, fun _ _ _ _ _ _ _ _ _ => by kernel_rfl⟩
theorem Aw_ : A2 JA = some 37 := by kernel_rfl
def Ub (E : Env) (call round : Ab) (tm : T Value) : M (T Value) :=
  M.bind (oS (T.get tm 1) fun a => AQ E 22 a) fun v40 =>
  mv (T.get tm 3) fun v41 =>
  mv (T.get tm 4) fun v42 =>
  M.bind (M.on (some (.func (.func 72) #[] #[])) fun f => M.on (seqO [(some v40), (some v41), (some v42)]) fun l => AY call round f l) fun v43 =>
  mv (some v43) fun v39 =>
  M.bind (oS (some v39) fun a => kExt 0 a) fun v44 =>
  M.bind (oS (some v39) fun a => kExt 1 a) fun v45 =>
  M.bind (oS (some v39) fun a => kExt 2 a) fun v46 =>
  M.bind (BC E 26) fun v7 =>
  setF 7 v7 tm fun tm1 =>
  M.bind (oS (some v7) fun a => oS (some v44) fun b => A3 E 26 a b) fun _ =>
  mv (some v45) fun v8 =>
  mv (some v46) fun v9 =>
  setF 9 v9 tm1 fun tm2 =>
  M.pure tm2
theorem Hx_ : RegEq 109 66 BU GA Ub := ⟨by kernel_rfl, fun _ _ _ _ _ _ _ _ _ => by kernel_rfl⟩
def Ad_ (E : Env) (call round : Ab) (tm : T Value) : M (T Value) :=
  mv (T.get tm 0) fun v47 =>
  mv (T.get tm 3) fun v48 =>
  M.bind (oS (T.get tm 7) fun a => AQ E 26 a) fun v49 =>
  mv (T.get tm 3) fun v50 =>
  mv (T.get tm 4) fun v51 =>
  M.bind (oS (seqP [(0, (some v49)), (1, (some v50)), (2, (some v51))]) fun ps => Cb E 35 ps) fun v52 =>
  mv (T.get tm 9) fun v53 =>
  M.bind (oS (seqP [(0, (some v52)), (1, (some v53)), (2, (some (.int .i64 (-1))))]) fun ps => Cb E 97 ps) fun v54 =>
  M.bind (M.on (some v47) fun f => M.on (seqO [(some v48), (some v54)]) fun l => AY call round f l) fun v55 =>
  M.bind (oS (some v55) fun a => kUn E.P .not a) fun v56 =>
  setF 56 v56 tm fun tm1 =>
  M.pure tm1
theorem EN_ : RegEq 109 66 BU ID Ad_ := ⟨by kernel_rfl, fun _ _ _ _ _ _ _ _ _ => by kernel_rfl⟩
theorem VJ_ : A2 KW = some 56 := by kernel_rfl
def VY (E : Env) (call round : Ab) (tm : T Value) : M (T Value) :=
  mv (T.get tm 3) fun v57 =>
  mv (T.get tm 4) fun v58 =>
  M.bind (M.on (some (.func (.func 20) #[] #[])) fun f => M.on (seqO [(some v58)]) fun l => AY call round f l) fun v59 =>
  M.bind (oS (some v57) fun a => oS (some v59) fun b => Cl.get (aBin E .add 3 (.tmp 57) (.tmp 59)) a b) fun v60 =>
  mv (some v60) fun v3 =>
  setF 3 v3 tm fun tm1 =>
  M.pure tm1
theorem RF_ : RegEq 109 66 BU N4 VY := ⟨by kernel_rfl, fun _ _ _ _ _ _ _ _ _ => by kernel_rfl⟩
def BO : Nat := Bt Try.f24
abbrev EE : Nat := 33
def XK : Code := Try.f24.body.getD .skip
theorem AB_ : envS.fn.get 24 = some Try.f24 := by kernel_rfl
theorem CX_ {a0 : Value} {n : Nat} {s : St} {Q : Value → St → Prop} (h : ∀ tm, T.get tm 0 = some a0 → W (runF envS n ⟨24, 33, BO, tm, [.code XK], .run, .normal, none⟩) (s.cxN cxN) fun p s1 => Q p.1 (s1.cxN s.cx)) : W (Au envS (runF envS n) 24 [a0]) s Q :=
 W.call (by kernel_rfl) (by kernel_rfl) AB_ (by kernel_rfl) rfl rfl (by simp) (h _ (by kernel_rfl))
theorem HL_ : Try.f24.results.toList = [.cell 2 36, .cell 3 3, .cell 4 3, .cell 5 3] := by kernel_rfl
def Qo : List Item := skim 64 [.code XK]
def KY : List Item := skim 64 Qo.tail
theorem RQ_ : skim 64 Qo.tail = KY := by kernel_rfl
def Do : List Item := skim 64 KY.tail
theorem Pe_ : skim 64 KY.tail = Do := by kernel_rfl
def Ma : Code := asC Do
def Mg : Code := bdC Do
theorem Hq_ : rfP Do = some (9, [10, 11], Ma, Mg) := by kernel_rfl
theorem Ep_ : OX Do = [.code Ma, .beginRound, .code Mg] := by kernel_rfl
def Gh : List Item := skim 64 Do.tail
theorem DS_ : skim 64 Do.tail = Gh := by kernel_rfl
def Jq : List Item := skim 64 (OX Do)
theorem SK_ : skim 64 (OX Do) = Jq := by kernel_rfl
def RZ : List Item := skim 64 Gh.tail
theorem OC_ : skim 64 Gh.tail = RZ := by kernel_rfl
def Kn : List Item := skim 64 Jq.tail
theorem Oo_ : skim 64 Jq.tail = Kn := by kernel_rfl
def GN : List Item := skim 64 Kn.tail
theorem Es_ : skim 64 Kn.tail = GN := by kernel_rfl
def LD : List Item := skim 64 GN.tail
theorem Vc_ : skim 64 GN.tail = LD := by kernel_rfl
def HO : List Item := skim 64 LD.tail
theorem TK : skim 64 LD.tail = HO := by kernel_rfl
def GW : List Item := skim 64 (brT HO)
theorem UC_ : skim 64 (brT HO) = GW := by kernel_rfl
def K6 : List Item := skim 64 (brF HO)
theorem Lg_ : skim 64 (brF HO) = K6 := by kernel_rfl
def Hj : List Item := skim 64 GW.tail
theorem HU_ : skim 64 GW.tail = Hj := by kernel_rfl
def Hi : List Item := skim 64 K6.tail
theorem BU_ : skim 64 K6.tail = Hi := by kernel_rfl
def Ln : List Item := skim 64 (brT Hi)
theorem Xa_ : skim 64 (brT Hi) = Ln := by kernel_rfl
def Mz : List Item := skim 64 (brF Hi)
theorem PZ_ : skim 64 (brF Hi) = Mz := by kernel_rfl
theorem Cn_ : skim 64 Ln.tail = Hj := by kernel_rfl
theorem GG_ : skim 64 Mz.tail = Hj := by kernel_rfl
def Zl (E : Env) (call round : Ab) (tm : T Value) : M (T Value) :=
  M.bind (BC E 36) fun v2 =>
  setF 2 v2 tm fun tm1 =>
  M.bind (BC E 3) fun v3 =>
  setF 3 v3 tm1 fun tm2 =>
  M.bind (BC E 3) fun v4 =>
  setF 4 v4 tm2 fun tm3 =>
  M.bind (BC E 3) fun v5 =>
  setF 5 v5 tm3 fun tm4 =>
  M.pure tm4
theorem Wt_ : RegEq 24 33 BO Qo Zl := ⟨by kernel_rfl, fun _ _ _ _ _ _ _ _ _ => by kernel_rfl⟩
def AQ_ (E : Env) (call round : Ab) (tm : T Value) : M (T Value) :=
  mv (T.get tm 0) fun v8 =>
  M.bind (M.on (some (.func (.func 68) #[] #[])) fun f => M.on (seqO [(some v8)]) fun l => AY call round f l) fun v9 =>
  setF 9 v9 tm fun tm1 =>
  M.pure tm1
theorem PT_ : RegEq 24 33 BO KY AQ_ := ⟨by kernel_rfl, fun _ _ _ _ _ _ _ _ _ => by kernel_rfl⟩
def AC_ (E : Env) (call round : Ab) (tm : T Value) : M ((Rho × T Value) × List OpLog) :=
  M.bind (apartO (oS (T.get tm 2) fun a => AQ E 36 a)) fun p0 =>
  M.bind (apartO (oS (T.get tm 3) fun a => AQ E 3 a)) fun p1 =>
  M.bind (apartO (oS (T.get tm 4) fun a => AQ E 3 a)) fun p2 =>
  M.bind (apartO (oS (T.get tm 5) fun a => AQ E 3 a)) fun p3 =>
  M.bind (apartO (oS (T.get tm 2) fun a => oS (some p0.1) fun b => A3 E 36 a b)) fun p4 =>
  M.bind (apartO (oS (T.get tm 3) fun a => oS (some p1.1) fun b => A3 E 3 a b)) fun p5 =>
  M.bind (apartO (oS (T.get tm 4) fun a => oS (some p2.1) fun b => A3 E 3 a b)) fun p6 =>
  M.pure (([p3.1, p2.1, p1.1, p0.1], tm), [p6.2, p5.2, p4.2, p3.2, p2.2, p1.2, p0.2])
theorem FS_ : DrawEq 24 33 BO Gh [0, 0, 0, 0, 1, 19, 55, 127] AC_ := ⟨by kernel_rfl, by kernel_rfl, fun _ _ _ _ _ _ _ _ _ => by kernel_rfl⟩
theorem Fc_ (E : Env) (call round : Ab) (x29 x30 x31 x32 : Value) (tm : T Value) (s : St) : BF call round (Cq E BO 33 (hdC Gh)) [x32, x31, x30, x29] tm s = (M.bind (oS (T.get tm 5) fun a => oS (some x32) fun b => A3 E 3 a b) fun _ => M.pure tm) s := by kernel_rfl
def Bh_ (E : Env) (call round : Ab) (tm : T Value) : M (T Value) :=
  mv (T.get tm 10) fun v6 =>
  setF 6 v6 tm fun tm1 =>
  M.pure tm1
theorem OD_ : RegEq 24 33 BO Jq Bh_ := ⟨by kernel_rfl, fun _ _ _ _ _ _ _ _ _ => by kernel_rfl⟩
theorem Jn_ : ∃ k, RZ = .code .ret :: k := ⟨RZ.tail, by kernel_rfl⟩
def Cb_ (E : Env) (call round : Ab) (tm : T Value) : M (T Value) :=
  M.bind (BC E 97) fun v7 =>
  setF 7 v7 tm fun tm1 =>
  M.bind (oS (some v7) fun a => oS (T.get tm1 11) fun b => A3 E 97 a b) fun _ =>
  M.pure tm1
theorem Wj_ : RegEq 24 33 BO Kn Cb_ := ⟨by kernel_rfl, fun _ _ _ _ _ _ _ _ _ => by kernel_rfl⟩
theorem HT_ : GN = .beginRound :: GN.tail := by kernel_rfl
def ZY (E : Env) (call round : Ab) (tm : T Value) : M (T Value) :=
  M.bind (oS (T.get tm 7) fun a => kFld E 97 a 2) fun v15 =>
  M.bind (oS (some v15) fun a => AQ E 3 a) fun v16 =>
  M.bind (oS (some v16) fun a => oS (some (.int .i64 0)) fun b => Cl.get (aBin E .geq 3 (.tmp 16) (.const (.int .i64 0))) a b) fun v17 =>
  mv (some v17) fun v14 =>
  setF 14 v14 tm fun tm1 =>
  M.pure tm1
theorem LV_ : RegEq 24 33 BO LD ZY := ⟨by kernel_rfl, fun _ _ _ _ _ _ _ _ _ => by kernel_rfl⟩
theorem Xi : A2 HO = some 14 := by kernel_rfl
def XZ (E : Env) (call round : Ab) (tm : T Value) : M ((Rho × T Value) × List OpLog) :=
  M.bind (apartO (oS (T.get tm 6) fun a => M.pure a)) fun p0 =>
  M.bind (apartO (oS (T.get tm 7) fun a => kFld E 97 a 2)) fun p1 =>
  M.bind (apartO (oS (some p1.1) fun a => AQ E 3 a)) fun p2 =>
  M.bind (apartO (oS (T.get tm 3) fun a => oS (some p0.1) fun b => A3 E 3 a b)) fun p3 =>
  M.pure (([p2.1, p1.1, p0.1], tm), [p3.2, p2.2, p1.2, p0.2])
theorem ES_ : DrawEq 24 33 BO GW [0, 0, 2, 1, 15] XZ := ⟨by kernel_rfl, by kernel_rfl, fun _ _ _ _ _ _ _ _ _ => by kernel_rfl⟩
theorem QM_ (E : Env) (call round : Ab) (x18 x19 x20 : Value) (tm : T Value) (s : St) : BF call round (Cq E BO 33 (hdC GW)) [x20, x19, x18] tm s = (M.bind (oS (T.get tm 5) fun a => oS (some x20) fun b => A3 E 3 a b) fun _ => M.pure tm) s := by kernel_rfl
def YZ (E : Env) (call round : Ab) (tm : T Value) : M (T Value) :=
  M.bind (oS (T.get tm 7) fun a => kFld E 97 a 1) fun v22 =>
  M.bind (oS (some v22) fun a => AQ E 4 a) fun v23 =>
  mv (some v23) fun v21 =>
  setF 21 v21 tm fun tm1 =>
  M.pure tm1
theorem Ge_ : RegEq 24 33 BO K6 YZ := ⟨by kernel_rfl, fun _ _ _ _ _ _ _ _ _ => by kernel_rfl⟩
theorem YK : A2 Hi = some 21 := by kernel_rfl
def Y2 (E : Env) (call round : Ab) (tm : T Value) : M (T Value) :=
  M.bind (oS (T.get tm 2) fun a => AQ E 36 a) fun v24 =>
  M.bind (oS (T.get tm 7) fun a => kFld E 97 a 0) fun v25 =>
  M.bind (oS (some v25) fun a => AQ E 35 a) fun v26 =>
  M.bind (oS (seqP [(0, (some v26))]) fun ps => Cj E 36 1 ps) fun v27 =>
  M.bind (oS (seqO [(some v24), (some v27)]) fun l => AS E .append [36, 36] l) fun v28 =>
  M.bind (oS (T.get tm 2) fun a => oS (some v28) fun b => A3 E 36 a b) fun _ =>
  M.pure tm
theorem Sn_ : RegEq 24 33 BO Ln Y2 := ⟨by kernel_rfl, fun _ _ _ _ _ _ _ _ _ => by kernel_rfl⟩
def AW_ (E : Env) (call round : Ab) (tm : T Value) : M (T Value) :=
  M.bind (oS (T.get tm 4) fun a => AQ E 3 a) fun v12 =>
  M.bind (oS (some v12) fun a => oS (some (.int .i64 1)) fun b => Cl.get (aBin E .add 3 (.tmp 12) (.const (.int .i64 1))) a b) fun v13 =>
  M.bind (oS (T.get tm 4) fun a => oS (some v13) fun b => A3 E 3 a b) fun _ =>
  M.pure tm
theorem LZ_ : RegEq 24 33 BO Mz AW_ := ⟨by kernel_rfl, fun _ _ _ _ _ _ _ _ _ => by kernel_rfl⟩
end Go.Proofs.Ytofanlcjeohcjaa.Am
end
