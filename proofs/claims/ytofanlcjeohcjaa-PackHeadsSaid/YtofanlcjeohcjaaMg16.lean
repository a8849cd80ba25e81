import Derived.Test.YtofanlcjeohcjaaMg15
import Derived.Test.YtofanlcjeohcjaaMg07
import Derived.Test.YtofanlcjeohcjaaMg14
import Derived.KernelRfl
noncomputable section
namespace Go.Proofs.Ytofanlcjeohcjaa.Am
open Go.RowKit
abbrev DigF (D : Nat) (v : Value) : Nat → Prop := fun x => In D 0 74 x ∨ BsF v x
theorem Dig.setN {F : Nat → Prop} {s s2 : St} {D : Nat} {d : DS} (h : Dig s D d) {m : Nat} (x : Ext F (In D 73 1) s s2) (o : Own s2 D 73 (.int .i64 (m : Nat))) : Dig s2 D ⟨d.st, d.w, m⟩ :=
 ⟨h.made.ext x fun q => by have := q.1; omega, h.st.ext x fun i hi q => by have h3 : i < 8 := hi; have := q.1; omega, h.w.ext x fun i hi q => by rw [Ar_, h.len] at hi; have := q.1; omega, o, h.len, h.byt, h.ok⟩
theorem Dig.setSt {F : Nat → Prop} {s s2 : St} {D : Nat} {d : DS} (h : Dig s D d) {r : Sha.St8} (hr : r.Ok) (x : Ext F (In D 1 8) s s2) (o : OwnRow s2 D 1 (st8V r).toList) : Dig s2 D ⟨r, d.w, d.n⟩ :=
 ⟨h.made.ext x fun q => by have := q.1; omega, o, h.w.ext x fun i hi q => by have := q.2; omega, h.n.ext x fun q => by have := q.2; omega, h.len, h.byt, hr⟩
theorem Row.same' {s s' : St} {b o : Nat} {l : List Value} (h : Row s b o l) (hm : s'.mem = s.mem) (hn : s'.next = s.next) : Row s' b o l := fun i v e => (h i v e).same hm hn
theorem Ajw_ {D : Nat} {v0 : Value} {Q : Value × FrameMode → St → Prop} {s0 : St} (hb0 : s0.lim ≤ s0.next) (hcx : s0.cx = .cx none (some [])) (hdis : ∀ x, BsF v0 x → ¬ In D 0 74 x) : ∀ (f n : Nat) (tm : T Value) (s : St) (td : List Item) (d : DS) (b : List Nat) (v : Value), b.length ≤ f → 20 * f + 60 ≤ n → skim 64 td = BA_ → Ext (DigF D v0) (In D 0 74) s0 s → Dig s D d → d.n + b.length ≤ 1000000000 → (b ≠ [] → Bn s v b) → Bs s v b → Byt b → (∀ x, BsF v x → BsF v0 x) →
   T.get tm 0 = some (.pointer (some ⟨D, 0, none⟩)) → T.get tm 1 = some v → (∀ s1, Ext (DigF D v0) (In D 0 74) s0 s1 → Dig s1 D (DS.write f d b) → Q (.tuple #[], .run) s1) →
   W (runF envS n ⟨111, Ud_, Bf_, tm, td, .run, .normal, none⟩) s Q := by
 intro f
 induction f with
 | zero =>
   intro n tm s td d b v hf hn hT hx hd hmax hbn hbs hbyt hv h0 h1 q
   have hb : b = [] := List.eq_nil_of_length_eq_zero (by omega)
   subst hb
   refine EZ_.w hT (by omega) ?_
   simp -implicitDefEqProofs only [Dr_, Ag_, W_oS, Aa_, W_mv, Ac_, Ae_, Ah_, Ab_, Er_, h1, hbs.len AL_]
   refine W.cond (v := false) DI_ Fw_ (by simp [T.get_set]) (by omega) (fun h => by cases h) fun _ => ?_
   refine W.end' (rs := []) (vs := []) Hl_ (.inr (by kernel_rfl)) (by omega) Fn_ Iy_ (hx.cx.trans hcx) rfl ?_
   exact q s hx hd
 | succ f ih =>
   intro n tm s td d b v hf hn hT hx hd hmax hbn hbs hbyt hv h0 h1 q
   by_cases hbe : b.length = 0
   · have hb : b = [] := List.eq_nil_of_length_eq_zero hbe
     subst hb
     refine EZ_.w hT (by omega) ?_
     simp -implicitDefEqProofs only [Dr_, Ag_, W_oS, Aa_, W_mv, Ac_, Ae_, Ah_, Ab_, Er_, h1, hbs.len AL_]
     refine W.cond (v := false) DI_ Fw_ (by simp [T.get_set]) (by omega) (fun h => by cases h) fun _ => ?_
     refine W.end' (rs := []) (vs := []) Hl_ (.inr (by kernel_rfl)) (by omega) Fn_ Iy_ (hx.cx.trans hcx) rfl ?_
     exact q s hx hd
   · have hbne : b ≠ [] := fun e => hbe (by rw [e]; rfl)
     obtain ⟨hk1, hk2⟩ := d.k_le b
     have hm : d.n % 64 < 64 := Nat.mod_lt _ (by decide)
     have hk0 : 0 < d.k b := by
       unfold DS.k
       exact Nat.lt_min.2 ⟨by omega, by omega⟩
     refine EZ_.w hT (by omega) ?_
     simp -implicitDefEqProofs only [Dr_, Ag_, W_oS, Aa_, W_mv, Ac_, Ae_, Ah_, Ab_, Er_, h1, hbs.len AL_]
     refine W.cond (v := true) DI_ Fw_ (by simp [T.get_set]; omega) (by omega) (fun _ => ?_) fun h => by cases h
     refine UG_.w OT_ (by omega) ?_
     simp -implicitDefEqProofs only [Jm_, Ag_, W_oS, Aa_, W_mv, Ac_, T.get_set, reduceIte, Cn_, reduceCtorEq, ↓reduceIte, h0, GW_ ApV_ (by decide : 0 < 1)]
     refine W.load1 OG_ hd.n.at' ?_
     have hxa : Ext (DigF D v0) (In D 0 74) s0 (s.rdN (D + (0 + 73))) := hx.trans (Ext.rdN (F := DigF D v0) s _ fun _ => .inl ⟨by omega, by omega⟩) hb0 (fun _ _ h => h) fun _ _ h => h
     have hda : Dig (s.rdN (D + (0 + 73))) D d := hd.same rfl rfl
     have hba : Bn (s.rdN (D + (0 + 73))) v b := (hbn hbne).same rfl rfl
     generalize s.rdN (D + (0 + 73)) = sa at hxa hda hba ⊢
     simp -implicitDefEqProofs only [Ahg_]
     refine Tw_.w Pz_ (by omega) ?_
     simp -implicitDefEqProofs only [IP_, Ag_, W_oS, W_on, Aa_, W_mv, Ac_, T.get_set, Ae_, Ah_, Ab_, reduceIte, Cn_, Nat.reduceEqDiff, Nat.reduceEqDiff, reduceCtorEq, ↓reduceIte, h0, h1, GW_ Aui_ (by decide : 0 < 64), Pp_ (lo := some (.int .i64 ((d.n % 64 : Nat) : Int))) (hi := none) (l := d.n % 64) (h := 64) AqC_ (Bi_ (by decide)) rfl rfl (by omega) (Nat.le_refl _)]
     rw [if_neg (by omega)]
     obtain ⟨p, c, rfl⟩ := hba.bs.sl
     refine W.copy Kt_ rfl (hba.bs.srcK hk1) (by rw [Ar_, List.length_take]; show Nat.min (d.k b) b.length = d.k b * 1; rw [Nat.mul_one]; exact Nat.min_eq_left hk1) (Br_ _) (fun i hi => ?_) fun sb nb xb rb => ?_
     · have hi' : i < d.k b * 1 := hi
       have := hda.w (d.n % 64 + i) (u8 (d.w[d.n % 64 + i]'(by rw [hda.len]; omega))) (by rw [List.getElem?_map, List.getElem?_eq_getElem (by rw [hda.len]; omega)]; rfl)
       exact ⟨_, by rw [show 0 + 9 + d.n % 64 * 1 + i = 9 + (d.n % 64 + i) by omega]; exact this⟩
     have hdisb : ∀ x, BsF (.slice p b.length c) x → ¬ In D 0 74 x := fun x hx' => hdis x (hv x hx')
     have hxb : Ext (DigF D v0) (In D 0 74) s0 sb := hxa.trans xb hb0 (fun x _ h => by
       rcases h with h | h
       · exact .inr (hv x h)
       · exact .inl ⟨by have := h.1; omega, by have := h.2; have h3 : d.k b ≤ 64 := by omega
                                               have h4 : x < D + (0 + 9 + d.n % 64 * 1) + d.k b * 1 := h.2
                                               omega⟩) fun x _ h => ⟨by have := h.1; omega, by have h4 : x < D + (0 + 9 + d.n % 64 * 1) + d.k b * 1 := h.2
                                                                                               omega⟩
     have hdb : Dig sb D ⟨d.st, d.w' b, d.n⟩ := hda.lay xb rb hbyt
     have hbb : Bn sb (.slice p b.length c) b := hba.ext xb fun x hx' h => hdisb x hx' ⟨by have := h.1; omega, by have h4 : x < D + (0 + 9 + d.n % 64 * 1) + d.k b * 1 := h.2
                                                                                                                  omega⟩
     clear xb rb hda hba hxa nb
     have hkmin : Nat.min (64 - d.n % 64) b.length = d.k b := rfl
     simp -implicitDefEqProofs only [hkmin]
     refine UQ_.w Pl_ (by omega) ?_
     simp -implicitDefEqProofs only [Kd_, Ag_, W_on, Aa_, W_mv, Ac_, T.get_set, Ab_, reduceIte, Nat.reduceEqDiff, Nat.reduceEqDiff, ↓reduceIte, h1]
     refine W.cut hbb AL_ (i := d.k b) (j := b.length) rfl rfl hk1 (Nat.le_refl _) fun v1 hv1 hF1 => ?_
     rw [List.take_length] at hv1
     refine TM_.w OV_ (by omega) ?_
     simp -implicitDefEqProofs only [JR_, Ag_, W_oS, Aa_, W_mv, T.get_set, reduceIte, Cn_, Nat.reduceEqDiff, Nat.reduceEqDiff, reduceCtorEq, ↓reduceIte, h0, GW_ ApV_ (by decide : 0 < 1)]
     refine W.load1 OG_ hdb.n.at' ?_
     have en : wrap64 ((d.n : Nat) + (d.k b : Nat) : Int) = ((d.n + d.k b : Nat) : Int) := by
       rw [AK_ (by omega) (by omega)]; simp
     simp -implicitDefEqProofs only [BC_, en]
     have hxb1 : Ext (DigF D v0) (In D 0 74) s0 (sb.rdN (D + (0 + 73))) := hxb.trans (Ext.rdN (F := DigF D v0) sb _ fun _ => .inl ⟨by omega, by omega⟩) hb0 (fun _ _ h => h) fun _ _ h => h
     have hdb1 : Dig (sb.rdN (D + (0 + 73))) D ⟨d.st, d.w' b, d.n⟩ := hdb.same rfl rfl
     have hv2 : Bn (sb.rdN (D + (0 + 73))) v1 (b.drop (d.k b)) := hv1.same rfl rfl
     generalize sb.rdN (D + (0 + 73)) = sc at hxb1 hdb1 hv2 ⊢
     refine W.store1 OG_ rfl hdb1.n fun se ne xe oe => ?_
     have hxe : Ext (DigF D v0) (In D 0 74) s0 se := hxb1.trans xe hb0 (fun x _ h => .inl ⟨by have := h.1; omega, by have := h.2; omega⟩) fun x _ h => ⟨by have := h.1; omega, by have := h.2; omega⟩
     have hde : Dig se D ⟨d.st, d.w' b, d.n + d.k b⟩ := hdb1.setN xe oe
     have hve : Bn se v1 (b.drop (d.k b)) := hv2.ext xe fun x hx' h => hdisb x (hF1 x hx') ⟨by have := h.1; omega, by have := h.2; omega⟩
     clear xe oe hdb1 hv2 hxb1 hdb hxb
     refine Se_.w Nn_ (by omega) ?_
     have ea : wrap64 ((d.n % 64 : Nat) + (d.k b : Nat) : Int) = ((d.n % 64 + d.k b : Nat) : Int) := by
       rw [AK_ (by omega) (by omega)]; simp
     simp -implicitDefEqProofs only [IF_, Ag_, W_oS, Aa_, W_mv, Ac_, T.get_set, reduceIte, Nat.reduceEqDiff, Nat.reduceEqDiff, ↓reduceIte, BC_, Jb_, ea]
     have hlen1 : (b.drop (d.k b)).length ≤ f := by rw [List.length_drop]; omega
     have hmax1 : d.n + d.k b + (b.drop (d.k b)).length ≤ 1000000000 := by rw [List.length_drop]; omega
     have hby1 : Byt (b.drop (d.k b)) := fun x hx' => hbyt x (List.mem_of_mem_drop hx')
     by_cases hfull : d.n % 64 + d.k b = 64
     · refine W.cond (v := true) Fd_ Iz_ (by simp [T.get_set]; omega) (by omega) (fun _ => ?_) fun h => by cases h
       refine RU_.w MQ_ (by omega) ?_
       have hde' : Dig (dSt se.mem se.next) D ⟨d.st, d.w' b, d.n + d.k b⟩ := hde.same rfl rfl
       simp -implicitDefEqProofs only [IA_, T.get_set, Nat.reduceEqDiff, ↓reduceIte, h0, Ce_, Ex_, AV_]
       rw [W_dq fun s Q => Cn_ (s := s) ⟨D, 0, none⟩ Q, W_dq fun s Q => GW_ (s := s) AsA_ (by decide : 0 < 8) Q]
       refine W.dloadA AkA_ hde'.st.row (Fi_ _) fun mem1 rd1 hm1 hr1 => ?_
       rw [hm1]
       simp -implicitDefEqProofs only [AV_]
       rw [W_dq fun s Q => Cn_ (s := s) ⟨D, 0, none⟩ Q, W_dq fun s Q => GW_ (s := s) Aui_ (by decide : 0 < 64) Q, W_dq fun s Q => Pp_ (s := s) (lo := none) (hi := none) (l := 0) (h := 64) AqC_ (Bi_ (by decide)) rfl rfl (Nat.zero_le _) (Nat.le_refl _) Q]
       simp -implicitDefEqProofs only [Ae_, Ah_, Ab_, Ex_]
       refine W.dop ?_
       rw [AB_]
       refine W.orc (m := nextM) (by kernel_rfl) ?_
       refine W.next hde.ok (hde'.w.row.same' rfl rfl) hde'.len hde'.byt fun s1 m1 n1 x1 => ⟨In D 9 64, x1, fun rd2 hr2 => ?_⟩
       have m1' : s1.mem = se.mem := m1
       have n1' : s1.next = se.next := n1
       rw [m1', n1']
       simp -implicitDefEqProofs only [AV_]
       rw [W_dq fun s Q => Cn_ (s := s) ⟨D, 0, none⟩ Q, W_dq fun s Q => GW_ (s := s) AsA_ (by decide : 0 < 8) Q]
       rw [Aa_]
       refine ⟨Ge_ (by simp) (by simp), ?_⟩
       refine W.cast (RM_ _ _ _ _ _ _ _ _ _ _ _ _ _ _ _ _ _) ?_
       simp -implicitDefEqProofs only [Ag_, W_oS, Aa_]
       generalize hs' : (⟨(dSt se.mem se.next).mem, (dSt se.mem se.next).next, se.lim, _, _, se.cx⟩ : St) = s'
       have hx' : Ext (DigF D v0) (In D 0 74) s0 s' := by
         rw [← hs']
         refine hxe.trans (Ext.draw (F := fun x => In D 0 74 x) (Nat.le_refl _) (fun _ _ => rfl) (by simp) (by
           simp -implicitDefEqProofs only [List.mem_cons, List.not_mem_nil, or_false]
           rintro m (rfl | rfl | rfl | rfl | rfl | rfl | rfl | rfl | rfl | rfl | rfl | rfl) x hx _ <;> first | (have h3 := hr1 _ hx; exact ⟨by have := h3.1; omega, by have := h3.2; omega⟩) | (have h3 := (hr2 _ hx).2; exact ⟨by have := h3.1; omega, by have := h3.2; omega⟩) | (cases hx))) hb0 (fun _ _ h => .inl h) fun _ _ h => h.elim
       have hdf : Dig s' D ⟨d.st, d.w' b, d.n + d.k b⟩ := by rw [← hs']; exact hde.same rfl rfl
       have hvf : Bn s' v1 (b.drop (d.k b)) := by rw [← hs']; exact hve.same rfl rfl
       clear hs' hr1 hr2 hm1 m1 n1 m1' n1' x1
       have hr : (Sha.next d.st fun j => (d.w' b).getD j 0).Ok := Sha.plus_ok _ _
       have hst : d.step b = ⟨Sha.next d.st fun j => (d.w' b).getD j 0, d.w' b, d.n + d.k b⟩ := by unfold DS.step; rw [if_pos hfull]
       generalize (Sha.next d.st fun j => (d.w' b).getD j 0) = r at hr hst ⊢
       refine W.store AkA_ rfl rfl (fun i hi => ⟨_, by rw [show 0 + 1 + i = 1 + i by omega]; exact hdf.st i _ (List.getElem?_eq_getElem hi)⟩) fun sf nf xf rf => ?_
       have hxf : Ext (DigF D v0) (In D 0 74) s0 sf := hx'.trans xf hb0 (fun x _ h => .inl ⟨by have := h.1; omega, by have := h.2; omega⟩) fun x _ h => ⟨by have := h.1; omega, by have := h.2; omega⟩
       have hdg : Dig sf D ⟨r, d.w' b, d.n + d.k b⟩ := hdf.setSt hr xf rf
       have hvg : Bn sf v1 (b.drop (d.k b)) := hvf.ext xf fun x hx' h => hdisb x (hF1 x hx') ⟨by have := h.1; omega, by have := h.2; omega⟩
       refine ih _ _ _ _ ⟨r, d.w' b, d.n + d.k b⟩ (b.drop (d.k b)) v1 hlen1 (by omega) OP_ hxf hdg hmax1 (fun _ => hvg) hvg.bs hby1 (fun x hx' => hv x (hF1 x hx')) (by simp [T.get_set, h0]) (by simp [T.get_set]) fun s1 x1 d1 => q s1 x1 ?_
       unfold DS.write
       rw [if_neg hbe, hst]
       exact d1
     · refine W.cond (v := false) Fd_ Iz_ (by simp [T.get_set]; omega) (by omega) (fun h => by cases h) fun _ => ?_
       refine ih _ _ _ _ ⟨d.st, d.w' b, d.n + d.k b⟩ (b.drop (d.k b)) v1 hlen1 (by omega) Oy_ hxe hde hmax1 (fun _ => hve) hve.bs hby1 (fun x hx' => hv x (hF1 x hx')) (by simp [T.get_set, h0]) (by simp [T.get_set]) fun s1 x1 d1 => q s1 x1 ?_
       have : d.step b = ⟨d.st, d.w' b, d.n + d.k b⟩ := by unfold DS.step; rw [if_neg hfull]
       unfold DS.write
       rw [if_neg hbe, this]
       exact d1
end Go.Proofs.Ytofanlcjeohcjaa.Am
namespace Go.Proofs.Ytofanlcjeohcjaa.Am
open Go.RowKit
theorem Hf_ {D n : Nat} {v : Value} {Q : Value → St → Prop} {s : St} {d : DS} {b : List Nat} (hbd : s.lim ≤ s.next) (hdis : ∀ x, BsF v x → ¬ In D 0 74 x) (hd : Dig s D d) (hmax : d.n + b.length ≤ 1000000000) (hbn : b ≠ [] → Bn s v b) (hbs : Bs s v b) (hbyt : Byt b) (hn : 20 * b.length + 100 ≤ n)
   (q : ∀ s1, Ext (DigF D v) (In D 0 74) s s1 → Dig s1 D (DS.write b.length d b) → Q (.tuple #[]) s1) : W (callW envS (runF envS n) 111 [.pointer (some ⟨D, 0, none⟩), v]) s Q := by
 refine Wh_ fun tm h0 h1 => ?_
 have hd' : Dig (s.cxN cxN) D d := hd.same rfl rfl
 refine Tr_.w rfl (by omega) ?_
 simp -implicitDefEqProofs only [Kn_, Ag_, W_oS, W_on, Aa_, W_mv, Ac_, reduceIte, Aw_, Bm_, Bx_, BR_, AQ_, Cn_, reduceCtorEq, ↓reduceIte, h0, AgY_ Auf_, GW_ AtO_ (by decide : 0 < 1)]
 refine W.load1 Abr_ hd'.made.at' ?_
 simp -implicitDefEqProofs only [Un_]
 refine W.cond (v := false) Pf_ Vu_ (by simp [T.get_set]) (by omega) (fun h => by cases h) fun _ => ?_
 refine Ajw_ (s0 := s.cxN cxN) (v0 := v) hbd rfl hdis b.length _ _ _ _ d b v (Nat.le_refl _) (by omega) PB_ (Ext.rdN (F := DigF D v) _ _ fun _ => .inl ⟨by omega, by omega⟩) (hd'.same rfl rfl) hmax (fun h => (hbn h).same rfl rfl) (hbs.same rfl rfl) hbyt (fun x h => h) (by simp [T.get_set, h0]) (by simp [T.get_set, h1]) fun s1 x1 d1 => q _ x1.cx' (d1.same rfl rfl)
end Go.Proofs.Ytofanlcjeohcjaa.Am
namespace Go.Proofs.Ytofanlcjeohcjaa.Am
open Go.RowKit
theorem Atv_ : zeroL envS 163 = some (List.replicate 8 (.int .u32 0)) := by kernel_rfl
theorem AtU_ (r : Sha.St8) : buildN envS 167 [(0, .bool true), (1, .agg (st8V r))] = some (.bool true :: ((st8V r).toList ++ (u8l (List.replicate 64 0) ++ [.int .i64 ((0 : Nat) : Int)]))) := by kernel_rfl
theorem Arj_ : buildN envS 163 [(0, .int .u32 1779033703), (1, .int .u32 3144134277), (2, .int .u32 1013904242), (3, .int .u32 2773480762), (4, .int .u32 1359893119), (5, .int .u32 2600822924), (6, .int .u32 528734635), (7, .int .u32 1541459225)] = some (st8V first8).toList := by kernel_rfl
theorem Pe_ {n : Nat} {s : St} {Q : Value → St → Prop} (hbd : s.lim ≤ s.next) (hn : 10 ≤ n) (q : ∀ s1, Ext Non Non s s1 → Q (.agg (st8V first8)) s1) : W (callW envS (runF envS n) 133 []) s Q := by
 refine Xd_ fun tm => ?_
 refine TC_.w rfl (by omega) ?_
 simp -implicitDefEqProofs only [IW_, Ag_, Aa_, Ac_]
 refine W.alloc Atv_ fun sa na xa oa => ?_
 refine Ve_.w OZ_ (by omega) ?_
 simp -implicitDefEqProofs only [JY_, Ag_, W_oS, Aa_, T.get_set, AC_, AG_, Ab_, reduceIte, ↓reduceIte, GY_ Arj_]
 refine W.store AkA_ rfl rfl (fun i hi => ⟨.int .u32 0, by rw [Nat.zero_add]; have := oa i (.int .u32 0) (by rw [List.getElem?_replicate]; rw [if_pos hi]); rw [Nat.zero_add] at this; exact this⟩) fun sb nb xb ob => ?_
 refine W.endC (r := 0) (t := 163) Ps_ (.inl UZ_) (by omega) JJ_ Sl_ (xb.cx.trans xa.cx) (by simp [T.get_set]; rfl) ?_
 refine W.loadA AkA_ ob.row rfl fun sc mc nc xc => ?_
 have x : Ext Non Non s (sc.cxN s.cx) := ((xa.trans xb hbd (fun x h g => by have g1 : s.next + 0 ≤ x := g.1; have h1 : x < s.lim := h; omega) fun x h g => by have g1 : s.next + 0 ≤ x := g.1; have h1 : x < s.next := h; omega).trans xc hbd (fun x h g => by have g1 : s.next + 0 ≤ x := g.1; have h1 : x < s.lim := h; omega) fun x h g => g.elim).cx'
 exact q _ x
def DS.new : DS := ⟨first8, List.replicate 64 0, 0⟩
theorem Tu_ {n : Nat} {s : St} {Q : Value → St → Prop} (hbd : s.lim ≤ s.next) (hn : 30 ≤ n) (q : ∀ s1 D, s.next ≤ D → D + 74 ≤ s1.next → Ext Non Non s s1 → Dig s1 D DS.new → Q (.pointer (some ⟨D, 0, none⟩)) s1) : W (callW envS (runF envS n) 110 []) s Q := by
 refine AbE_ fun tm => ?_
 refine ZL_.w rfl (by omega) ?_
 simp -implicitDefEqProofs only [Oc_, Aa_, W_mv, Ac_]
 refine Yz_.w UY_ (by omega) ?_
 simp -implicitDefEqProofs only [NV_, Ag_, W_oS, W_on, Aa_, W_mv, Ac_, Ah_, AC_, AG_, Ab_, AB_]
 refine Pe_ (s := s.cxN cxN) hbd (by omega) fun sa xa => ?_
 simp -implicitDefEqProofs only [GY_ (AtU_ first8)]
 refine W.box fun sb nb xb ob => ?_
 refine W.end' (rs := [0]) (vs := [.pointer (some ⟨sa.next, 0, none⟩)]) Vt_ (.inl AaI_) (by omega) Om_ Xi_ (xb.cx.trans xa.cx) (by simp [T.get_set]) ?_
 have hx : Ext Non Non s (sb.cxN s.cx) := (xa.trans xb hbd (fun x h g => g) fun x h g => g).cx'
 have ob' : OwnRow (sb.cxN s.cx) sa.next 0 (.bool true :: ((st8V first8).toList ++ (u8l (List.replicate 64 0) ++ [.int .i64 ((0 : Nat) : Int)]))) := fun i v e => (ob i v e).same rfl rfl
 refine q _ sa.next xa.nxt ?_ hx ⟨?_, ?_, ?_, ?_, rfl, ?_, AoP_⟩
 · have h : (sb.cxN s.cx).next = sa.next + 74 + 1 := nb
   omega
 · exact ob' 0 _ rfl
 · intro i v e
   have e : (st8V first8).toList[i]? = some v := e
   have hi := (List.getElem?_eq_some_iff.1 e).1
   have := ob' (1 + i) v (by rw [Nat.add_comm, List.getElem?_cons_succ, List.getElem?_append_left hi]; exact e)
   rw [Nat.zero_add] at this
   exact this
 · intro i v e
   have e : (u8l (List.replicate 64 0))[i]? = some v := e
   have hi := (List.getElem?_eq_some_iff.1 e).1
   have := ob' (9 + i) v (by rw [show 9 + i = (8 + i) + 1 by omega, List.getElem?_cons_succ, List.getElem?_append_right (by rw [Fi_]; omega), Fi_, show 8 + i - 8 = i by omega, List.getElem?_append_left hi]; exact e)
   rw [Nat.zero_add] at this
   exact this
 · exact ob' 73 _ rfl
 · intro x hx
   have hx : x ∈ List.replicate 64 0 := hx
   rw [List.mem_replicate] at hx
   omega
end Go.Proofs.Ytofanlcjeohcjaa.Am
namespace Go.Proofs.Ytofanlcjeohcjaa.Am
open Go.RowKit
theorem AhA_ : hasT envS 3 = true := by kernel_rfl
def tl8 (N : Nat) : Nat → List Nat
  | 0 => []
  | k + 1 => (N >>> (8 * k)) % 256 :: tl8 N k
theorem AlE_ (N : Nat) : ∀ k, (tl8 N k).length = k
 | 0 => rfl
 | k + 1 => by unfold tl8; rw [List.length_cons, AlE_ N k]
theorem AkJ_ (N : Nat) : ∀ k, Byt (tl8 N k)
 | 0 => fun x hx => by cases hx
 | k + 1 => fun x hx => by
   unfold tl8 at hx
   rcases List.mem_cons.1 hx with rfl | hx
   · exact Nat.mod_lt _ (by decide)
   · exact AkJ_ N k x hx
abbrev PadF (D B : Nat) : Nat → Prop := fun x => In D 0 74 x ∨ In B 0 80 x
theorem AnA_ {D B : Nat} {a2 a3 a4 : Value} {d : DS} {Q : Value × FrameMode → St → Prop} {s0 : St} (hmax : 8 * d.n ≤ 9223372036854775807) (hb0 : s0.lim ≤ s0.next) (hdis : D + 74 ≤ B ∨ B + 80 ≤ D) (hB : B + 80 ≤ s0.next) : ∀ (k n : Nat) (tm : T Value) (s : St) (td : List Item) (p : List Nat), k ≤ 8 → 10 * k + 20 ≤ n → skim 64 td = BS_ → Ext (PadF D B) (In B 0 80) s0 s → Dig s D d → OwnRow s B 0 (u8l p) → Owned s B 0 80 → p.length + k ≤ 80 →
   T.get tm 0 = some (.pointer (some ⟨D, 0, none⟩)) → T.get tm 2 = some a2 → T.get tm 3 = some a3 → T.get tm 4 = some a4 → T.get tm 5 = some (.slice (some ⟨B, 0, none⟩) p.length 80) → T.get tm 6 = some (.int .i64 (8 * ((k : Nat) : Int) - 8)) →
   (∀ n' tm' s1 td', n ≤ n' + 10 * k + 5 → skim 64 td' = Cj_ → Ext (PadF D B) (In B 0 80) s0 s1 → Dig s1 D d → OwnRow s1 B 0 (u8l (p ++ tl8 (8 * d.n) k)) → T.get tm' 0 = some (.pointer (some ⟨D, 0, none⟩)) → T.get tm' 2 = some a2 → T.get tm' 3 = some a3 → T.get tm' 4 = some a4 → T.get tm' 5 = some (.slice (some ⟨B, 0, none⟩) (p.length + k) 80) → W (runF envS n' ⟨112, Ca_, Az_, tm', td', .run, .normal, none⟩) s1 Q) →
   W (runF envS n ⟨112, Ca_, Az_, tm, td, .run, .normal, none⟩) s Q := by
 intro k
 induction k with
 | zero =>
   intro n tm s td p hk hn hT hx hd ho hw hl h0 h2 h3 h4 h5 h6 q
   refine JI_.w hT (by omega) ?_
   simp -implicitDefEqProofs only [Fk_, Ag_, W_oS, Aa_, W_mv, Ac_, Afg_, h6]
   refine W.cond (v := false) FH_ Js_ (by simp [T.get_set]) (by omega) (fun h => by cases h) fun _ => ?_
   refine q _ _ _ _ (by omega) NQ_ hx hd ?_ (by simp [T.get_set, h0]) (by simp [T.get_set, h2]) (by simp [T.get_set, h3]) (by simp [T.get_set, h4]) (by simp [T.get_set, h5])
   rw [show tl8 (8 * d.n) 0 = [] from rfl, List.append_nil]
   exact ho
 | succ k ih =>
   intro n tm s td p hk hn hT hx hd ho hw hl h0 h2 h3 h4 h5 h6 q
   have ec : (8 * ((k + 1 : Nat) : Int) - 8) = ((8 * k : Nat) : Int) := by omega
   rw [ec] at h6
   refine JI_.w hT (by omega) ?_
   simp -implicitDefEqProofs only [Fk_, Ag_, W_oS, Aa_, W_mv, Ac_, Afg_, h6]
   refine W.cond (v := true) FH_ Js_ (by simp [T.get_set]; omega) (by omega) (fun _ => ?_) fun h => by cases h
   refine TV_.w Nv_ (by omega) ?_
   simp -implicitDefEqProofs only [JU_, Ag_, W_oS, Aa_, W_mv, Ac_, T.get_set, Ae_, Ah_, AC_, AG_, Ab_, reduceIte, Cn_, Nat.reduceEqDiff, Nat.reduceEqDiff, reduceCtorEq, ↓reduceIte, h0, h5, h6, GW_ ApV_ (by decide : 0 < 1)]
   refine W.load1 OG_ hd.n.at' ?_
   have hxa : Ext (PadF D B) (In B 0 80) s0 (s.rdN (D + (0 + 73))) := hx.trans (Ext.rdN (F := PadF D B) s _ fun _ => .inl ⟨by omega, by omega⟩) hb0 (fun _ _ h => h) fun _ _ h => h
   have hda : Dig (s.rdN (D + (0 + 73))) D d := hd.same rfl rfl
   have hoa : OwnRow (s.rdN (D + (0 + 73))) B 0 (u8l p) := fun i v e => (ho i v e).same rfl rfl
   have hwa : Owned (s.rdN (D + (0 + 73))) B 0 80 := fun j hj => let ⟨u, h⟩ := hw j hj; ⟨u, h.same rfl rfl⟩
   generalize s.rdN (D + (0 + 73)) = sa at hxa hda hoa hwa ⊢
   simp -implicitDefEqProofs only [Auv_ hmax, AnM_ (k := .i64) (kk := .i64) (n := 8 * k) (show 8 * k ≤ 64 by omega), Ur_ AhA_ Vm_, wrap_u8]
   have hba : sa.lim ≤ sa.next := hxa.bnd hb0
   refine W.buildS hba (r := u8l [(8 * d.n) >>> (8 * k) % 256]) Kt_ (by decide) rfl (Bi_ (by decide)) fun sb nb xb rb => ?_
   have hxb : Ext (PadF D B) (In B 0 80) s0 sb := hxa.trans xb hb0 (fun _ _ h => h.elim) fun _ _ h => h.elim
   have hBs : Bs sb (.slice (some ⟨sa.next, 0, none⟩) 1 1) [(8 * d.n) >>> (8 * k) % 256] := OwnRow.bn rb (Bi_ (by simp))
   have hob : OwnRow sb B 0 (u8l p) := hoa.ext0 xb
   have hwb : Owned sb B 0 80 := fun j hj => let ⟨u, h⟩ := hwa j hj; ⟨u, h.ext0 xb⟩
   simp -implicitDefEqProofs only [Aen_]
   refine W.appIn (n := 1) TI_ hBs.src.g (by rw [Nat.mod_eq_of_lt (Bi_ (by decide))]; omega) rfl (Br_ _) (fun i hi => ?_) fun sc nc xc rc => ?_
   · have := hwb (p.length + i) (by omega)
     rw [show 0 + p.length * 1 + i = 0 + (p.length + i) by omega]
     exact this
   have sub : ∀ x, In B (0 + p.length * 1) (1 * 1) x → In B 0 80 x := fun x h => ⟨by have := h.1; omega, by
     have h4 : x < B + (0 + p.length * 1) + 1 * 1 := h.2
     omega⟩
   have nod : ∀ i, i < 74 → ¬ In B (0 + p.length * 1) (1 * 1) (D + i) := fun i hi h => by
     have h3 : B + (0 + p.length * 1) ≤ D + i := h.1
     have h4 : D + i < B + (0 + p.length * 1) + 1 * 1 := h.2
     omega
   have hxc : Ext (PadF D B) (In B 0 80) s0 sc := hxb.trans xc hb0 (fun x hx' h => by
     rcases h with h | h
     · have h1 : sa.next + 0 ≤ x := h.1
       have h2 := hxa.nxt
       omega
     · exact .inr (sub x h)) fun x _ h => sub x h
   have hdc : Dig sc D d := ⟨hda.made.ext0 xb |>.ext xc (nod 0 (by decide)), (hda.st.ext0 xb).ext xc fun i hi => nod (1 + i) (by rw [Fi_] at hi; omega), (hda.w.ext0 xb).ext xc fun i hi => nod (9 + i) (by rw [Ar_, hda.len] at hi; omega), (hda.n.ext0 xb).ext xc (nod 73 (by decide)), hda.len, hda.byt, hda.ok⟩
   have hoc : OwnRow sc B 0 (u8l (p ++ [(8 * d.n) >>> (8 * k) % 256])) := by
     have e : u8l (p ++ [(8 * d.n) >>> (8 * k) % 256]) = u8l p ++ u8l [(8 * d.n) >>> (8 * k) % 256] := List.map_append
     rw [e]
     refine OwnRow.append (hob.ext xc fun i hi h => ?_) ?_
     · rw [Ar_] at hi
       have h1 : B + (0 + p.length * 1) ≤ B + (0 + i) := h.1
       omega
     · rw [Ar_, show 0 + p.length = 0 + p.length * 1 by omega]
       exact rc
   have hwc : Owned sc B 0 80 := hwb.ext xc rc
   have hlp : (p ++ [(8 * d.n) >>> (8 * k) % 256]).length = p.length + 1 := by simp
   refine UO_.w NC_ (by omega) ?_
   have e8 : wrap64 (((8 * k : Nat) : Int) - 8) = 8 * ((k : Nat) : Int) - 8 := by
     rw [AK_ (by omega) (by omega)]; omega
   simp -implicitDefEqProofs only [Jh_, Ag_, W_oS, Aa_, W_mv, Ac_, T.get_set, reduceIte, Nat.reduceEqDiff, Nat.reduceEqDiff, ↓reduceIte, HU_, h6, e8]
   refine ih _ _ sc _ (p ++ [(8 * d.n) >>> (8 * k) % 256]) (by omega) (by omega) NH_ hxc hdc hoc hwc (by omega) (by simp [T.get_set, h0]) (by simp [T.get_set, h2]) (by simp [T.get_set, h3]) (by simp [T.get_set, h4]) (by simp [T.get_set]) (by simp [T.get_set]) fun n' tm' s1 td' e1 e2 e3 e4 e5 e6 e7 e8 e9 e10 => q n' tm' s1 td' (by omega) e2 e3 e4 ?_ e6 e7 e8 e9 ?_
   · rw [List.append_assoc] at e5
     exact e5
   · rw [hlp] at e10
     rw [e10, show p.length + 1 + k = p.length + (k + 1) by omega]
end Go.Proofs.Ytofanlcjeohcjaa.Am
namespace Go.Proofs.Ytofanlcjeohcjaa.Am
open Go.RowKit
theorem AqH_ : arrN envS 101 = some (32, 1) := by kernel_rfl
theorem Atw_ : arrU envS 163 = some 8 := by kernel_rfl
def be4 (x : Nat) : List Nat := [x >>> 24 % 256, x >>> 16 % 256, x >>> 8 % 256, x % 256]
def outs : List Nat → List Nat
  | [] => []
  | x :: l => be4 x ++ outs l
theorem Sv_ : ∀ l : List Nat, (outs l).length = 4 * l.length
 | [] => rfl
 | x :: l => by
   unfold outs
   rw [List.length_append, Sv_ l, List.length_cons]
   show 4 + _ = _
   omega
theorem AdU_ (x : Nat) : ∀ l : List Nat, outs (l ++ [x]) = outs l ++ be4 x
 | [] => by show be4 x ++ [] = _; rw [List.append_nil]; rfl
 | y :: l => by
   show be4 y ++ outs (l ++ [x]) = (be4 y ++ outs l) ++ be4 x
   rw [AdU_ x l, List.append_assoc]
theorem Aov_ {O : Nat} {a2 : Value} {cs : Array Value} {l : List Nat} (hl8 : l.length = 8) (hcs : ∀ i (h : i < l.length), cs.toList[i]? = some (.int .u32 (l[i] : Nat))) {Q : Value × FrameMode → St → Prop} {s0 : St} (hb0 : s0.lim ≤ s0.next) : ∀ (k i n : Nat) (tm : T Value) (s : St) (td : List Item), i + k = 8 → 10 * k + 20 ≤ n → skim 64 td = BP_ → Ext (In O 0 32) (In O 0 32) s0 s → OwnRow s O 0 (u8l (outs (l.take i))) → Owned s O 0 32 →
   T.get tm 2 = some a2 → T.get tm 3 = some (.pointer (some ⟨O, 0, none⟩)) → T.get tm 51 = some (.agg cs) → T.get tm 52 = some (.int .i64 (i : Nat)) →
   (∀ n' tm' s1 td', n ≤ n' + 10 * k + 5 → skim 64 td' = Cq_ → Ext (In O 0 32) (In O 0 32) s0 s1 → OwnRow s1 O 0 (u8l (outs l)) → T.get tm' 2 = some a2 → T.get tm' 3 = some (.pointer (some ⟨O, 0, none⟩)) → W (runF envS n' ⟨112, Ca_, Az_, tm', td', .run, .normal, none⟩) s1 Q) →
   W (runF envS n ⟨112, Ca_, Az_, tm, td, .run, .normal, none⟩) s Q := by
 intro k
 induction k with
 | zero =>
   intro i n tm s td hi hn hT hx ho hw h2 h3 h51 h52 q
   refine Jr_.w hT (by omega) ?_
   simp -implicitDefEqProofs only [Ft_, Ag_, W_oS, Aa_, Ac_, h52, show (8 : Int) = ((8 : Nat) : Int) from rfl]
   simp -implicitDefEqProofs only [Bh_]
   refine W.cond (v := false) Gs_ JF_ (by simp [T.get_set]; omega) (by omega) (fun h => by cases h) fun _ => ?_
   rw [show i = l.length by omega, List.take_length] at ho
   exact q _ _ _ _ (by omega) NJ_ hx ho (by simp [T.get_set, h2]) (by simp [T.get_set, h3])
 | succ k ih =>
   intro i n tm s td hi hn hT hx ho hw h2 h3 h51 h52 q
   have hil : i < l.length := by omega
   refine Jr_.w hT (by omega) ?_
   simp -implicitDefEqProofs only [Ft_, Ag_, W_oS, Aa_, Ac_, h52]
   simp -implicitDefEqProofs only [Bh_]
   refine W.cond (v := true) Gs_ JF_ (by simp [T.get_set]; omega) (by omega) (fun _ => ?_) fun h => by cases h
   refine ST_.w Ox_ (by omega) ?_
   simp -implicitDefEqProofs only [Ky_, Ag_, W_oS, Aa_, W_mv, Ac_, T.get_set, reduceIte, Nat.reduceEqDiff, Nat.reduceEqDiff, ↓reduceIte, h51, h52, Aut_ Atw_ (show i < 8 by omega) (hcs i hil)]
   refine Uk_.w Ng_ (by omega) ?_
   generalize hxe : l[i] = x
   simp -implicitDefEqProofs only [JE_, Ag_, W_oS, W_on, Aa_, W_mv, T.get_set, Ae_, Ah_, AC_, AG_, Ab_, reduceIte, Nat.reduceEqDiff, Nat.reduceEqDiff, ↓reduceIte, h3, AtP_ (show 4 * i ≤ 9223372036854775807 by omega), Pp_ (lo := some (.int .i64 ((4 * i : Nat) : Int))) (hi := none) (l := 4 * i) (h := 32) AqH_ (Bi_ (by decide)) rfl rfl (by omega) (Nat.le_refl _)]
   rw [if_neg (by omega)]
   simp -implicitDefEqProofs only [Ur_ YS_ Vm_, wrap_u8, Ahy_ (k := .u32) (by decide), AkT_ (k := .u32) (by decide), Akj_ (k := .u32) (by decide)]
   have hba : s.lim ≤ s.next := hx.bnd hb0
   refine W.buildS hba (r := u8l (be4 x)) Kt_ (by decide) rfl (Bi_ (by decide)) fun sb nb xb rb => ?_
   have hxb : Ext (In O 0 32) (In O 0 32) s0 sb := hx.trans xb hb0 (fun _ _ h => h.elim) fun _ _ h => h.elim
   have hBs : Bs sb (.slice (some ⟨s.next, 0, none⟩) 4 4) (be4 x) := OwnRow.bn rb (Bi_ (by simp [be4]))
   have hob : OwnRow sb O 0 (u8l (outs (l.take i))) := ho.ext0 xb
   have hwb : Owned sb O 0 32 := fun j hj => let ⟨u, h⟩ := hw j hj; ⟨u, h.ext0 xb⟩
   refine W.copy (k := 4) (l := u8l (be4 x)) Kt_ (Nat.min_eq_right (show 4 ≤ 32 - 4 * i by omega)).symm (hBs.srcK (k := 4) (Nat.le_refl _)) rfl (Br_ _) (fun j hj => ?_) fun sc nc xc rc => ?_
   · have := hwb (4 * i + j) (by omega)
     rw [show 0 + 4 * i * 1 + j = 0 + (4 * i + j) by omega]
     exact this
   have sub : ∀ y, In O (0 + 4 * i * 1) (4 * 1) y → In O 0 32 y := fun y h => ⟨by have := h.1; omega, by
     have h4 : y < O + (0 + 4 * i * 1) + 4 * 1 := h.2
     omega⟩
   have hxc : Ext (In O 0 32) (In O 0 32) s0 sc := hxb.trans xc hb0 (fun y hy h => by
     rcases h with h | h
     · have h1 : s.next + 0 ≤ y := h.1
       have h2 := hx.nxt
       omega
     · exact sub y h) fun y _ h => sub y h
   have hlt : (outs (l.take i)).length = 4 * i := by rw [Sv_, List.length_take]; omega
   have hoc : OwnRow sc O 0 (u8l (outs (l.take (i + 1)))) := by
     have e : u8l (outs (l.take (i + 1))) = u8l (outs (l.take i)) ++ u8l (be4 x) := by
       rw [List.take_add_one, List.getElem?_eq_getElem hil, hxe]
       show u8l (outs (l.take i ++ [x])) = _
       rw [AdU_]
       exact List.map_append
     rw [e]
     refine OwnRow.append (hob.ext xc fun j hj h => ?_) ?_
     · rw [Ar_, hlt] at hj
       have h1 : O + (0 + 4 * i * 1) ≤ O + (0 + j) := h.1
       omega
     · rw [Ar_, hlt, show 0 + 4 * i = 0 + 4 * i * 1 by omega]
       exact rc
   have hwc : Owned sc O 0 32 := hwb.ext xc rc
   refine Uj_.w NK_ (by omega) ?_
   have ei : wrap64 ((i : Nat) + 1 : Int) = ((i + 1 : Nat) : Int) := by
     rw [AK_ (by omega) (by omega)]; simp
   simp -implicitDefEqProofs only [Jl_, Ag_, W_oS, Aa_, W_mv, Ac_, T.get_set, reduceIte, Nat.reduceEqDiff, Nat.reduceEqDiff, ↓reduceIte, BC_, h52, ei]
   exact ih (i + 1) _ _ sc _ (by omega) (by omega) NS_ hxc hoc hwc (by simp [T.get_set, h2]) (by simp [T.get_set, h3]) (by simp [T.get_set, h51]) (by simp [T.get_set]) fun n' tm' s1 td' e1 => q n' tm' s1 td' (by omega)
end Go.Proofs.Ytofanlcjeohcjaa.Am
namespace Go.Proofs.Ytofanlcjeohcjaa.Am
open Go.RowKit
theorem AqB_ : tyS envS 167 = some (74, true) := by kernel_rfl
theorem AsS_ : zeroL envS 167 = some (.bool false :: (List.replicate 8 (.int .u32 0) ++ (List.replicate 64 (.int .u8 0) ++ [.int .i64 0]))) := by kernel_rfl
theorem Le_ : tyS envS 101 = some (32, true) := by kernel_rfl
theorem Sx_ : zeroL envS 101 = some (List.replicate 32 (.int .u8 0)) := by kernel_rfl
def DS.row (d : DS) : List Value := .bool true :: ((st8V d.st).toList ++ (u8l d.w ++ [.int .i64 (d.n : Nat)]))
theorem DS.row_len (d : DS) (h : d.w.length = 64) : d.row.length = 74 := by
 unfold DS.row
 rw [List.length_cons, List.length_append, Fi_, List.length_append, Ar_, h]
 rfl
theorem DS.row_one (d : DS) : d.row.all oneCell = true := by
 have h1 : (st8V d.st).toList.all oneCell = true := rfl
 unfold DS.row
 rw [List.all_cons, List.all_append, List.all_append, Br_, h1]
 rfl
theorem OwnRow.app_l {s : St} {b o : Nat} {l l' : List Value} (h : OwnRow s b o (l ++ l')) : OwnRow s b o l := fun i v e => h i v (by rw [List.getElem?_append_left (List.getElem?_eq_some_iff.1 e).1]; exact e)
theorem OwnRow.app_r {s : St} {b o : Nat} {l l' : List Value} (h : OwnRow s b o (l ++ l')) : OwnRow s b (o + l.length) l' := fun i v e => by
 have := h (l.length + i) v (by rw [List.getElem?_append_right (by omega), show l.length + i - l.length = i by omega]; exact e)
 rw [← Nat.add_assoc] at this
 exact this
theorem OwnRow.cons_l {s : St} {b o : Nat} {v : Value} {l : List Value} (h : OwnRow s b o (v :: l)) : Own s b o v := h 0 v rfl
theorem OwnRow.cons_r {s : St} {b o : Nat} {v : Value} {l : List Value} (h : OwnRow s b o (v :: l)) : OwnRow s b (o + 1) l := fun i x e => by
 have := h (i + 1) x (by simpa using e)
 rw [show o + 1 + i = o + (i + 1) by omega]
 exact this
theorem OwnRow.cons {s : St} {b o : Nat} {v : Value} {l : List Value} (h : Own s b o v) (k : OwnRow s b (o + 1) l) : OwnRow s b o (v :: l) := fun i x e => by
 cases i with
 | zero => simp at e; subst e; exact h
 | succ i =>
   have := k i x (by simpa using e)
   rw [show o + (i + 1) = o + 1 + i by omega]
   exact this
theorem OwnRow.nil {s : St} {b o : Nat} : OwnRow s b o [] := fun i x e => by simp at e
theorem Dig.toRow {s : St} {D : Nat} {d : DS} (h : Dig s D d) : OwnRow s D 0 d.row := by
 unfold DS.row
 refine OwnRow.cons h.made (OwnRow.append h.st (OwnRow.append ?_ ?_))
 · rw [Fi_]; exact h.w
 · rw [Fi_, Ar_, h.len]
   exact OwnRow.cons h.n .nil
theorem Dig.ofRow {s : St} {D : Nat} {d : DS} (h : OwnRow s D 0 d.row) (h1 : d.w.length = 64) (h2 : Byt d.w) (h3 : d.st.Ok) : Dig s D d := by
 unfold DS.row at h
 have h4 := h.cons_r
 have h5 := h4.app_r
 have h6 := h5.app_r
 rw [Fi_] at h5
 rw [Fi_, Ar_, h1] at h6
 exact ⟨h.cons_l, h4.app_l, h5.app_l, h6.cons_l, h1, h2, h3⟩
def DS.pad0 (d : DS) : List Nat := 128 :: List.replicate ((119 - d.n % 64) % 64) 0
def DS.pad (d : DS) : List Nat := d.pad0 ++ tl8 (8 * d.n) 8
def DS.fin (d : DS) : DS := DS.write d.pad.length d d.pad
def st8L (r : Sha.St8) : List Nat := [r.a, r.b, r.c, r.d, r.e, r.f, r.g, r.h]
def DS.sum (d : DS) : List Nat := outs (st8L d.fin.st)
theorem DS.pad0_len (d : DS) : d.pad0.length = (119 - d.n % 64) % 64 + 1 := by unfold DS.pad0; rw [List.length_cons, List.length_replicate]
theorem DS.pad0_byt (d : DS) : Byt d.pad0 := fun x hx => by
 unfold DS.pad0 at hx
 rcases List.mem_cons.1 hx with rfl | hx
 · decide
 · rw [List.mem_replicate] at hx; omega
theorem DS.pad_byt (d : DS) : Byt d.pad := fun x hx => by
 rcases List.mem_append.1 hx with hx | hx
 · exact d.pad0_byt x hx
 · exact AkJ_ _ _ x hx
theorem DS.sum_len (d : DS) : d.sum.length = 32 := Sv_ _
theorem Agx_ : ∀ l : List Nat, Byt (outs l)
 | [] => fun x hx => by cases hx
 | y :: l => fun x hx => by
   rcases List.mem_append.1 hx with hx | hx
   · simp -implicitDefEqProofs only [be4, List.mem_cons, List.not_mem_nil, or_false] at hx
     omega
   · exact Agx_ l x hx
theorem Ark_ (r : Sha.St8) (i : Nat) (h : i < (st8L r).length) : (st8V r).toList[i]? = some (.int .u32 ((st8L r)[i] : Nat)) := by
 have h8 : i < 8 := h
 match i, h8 with
 | 0, _ => rfl
 | 1, _ => rfl
 | 2, _ => rfl
 | 3, _ => rfl
 | 4, _ => rfl
 | 5, _ => rfl
 | 6, _ => rfl
 | 7, _ => rfl
end Go.Proofs.Ytofanlcjeohcjaa.Am
namespace Go.Proofs.Ytofanlcjeohcjaa.Am
open Go.RowKit
theorem AnV_ {C O2 O3 n : Nat} {d : DS} {tm : T Value} {td : List Item} {s : St} {Q : Value × FrameMode → St → Prop} (hb : s.lim ≤ s.next) (hcx : s.cx = .cx none (some [])) (h23 : O2 + 32 ≤ O3) (hd : Dig s C d) (ho3 : Owned s O3 0 32) (ho2 : Owned s O2 0 32) (hn : 120 ≤ n) (hT : skim 64 td = Cr_)
   (h2 : T.get tm 2 = some (.pointer (some ⟨O2, 0, none⟩))) (h3 : T.get tm 3 = some (.pointer (some ⟨O3, 0, none⟩))) (h4 : T.get tm 4 = some (.pointer (some ⟨C, 0, none⟩)))
   (q : ∀ s1, Ext (fun x => In C 0 74 x ∨ In O3 0 32 x ∨ In O2 0 32 x) (fun x => In O3 0 32 x ∨ In O2 0 32 x) s s1 → Q (.agg (u8l (outs (st8L d.st))).toArray, .run) s1) : W (runF envS n ⟨112, Ca_, Az_, tm, td, .run, .normal, none⟩) s Q := by
 refine Vo_.w hT (by omega) ?_
 simp -implicitDefEqProofs only [Jw_, Ag_, W_oS, Aa_, W_mv, Ac_, h4, GW_ AsA_ (by decide : 0 < 8)]
 refine W.loadA AkA_ hd.st.row (Fi_ _) fun sa ma na xa => ?_
 have hxa : Ext (fun x => In C 0 74 x ∨ In O3 0 32 x ∨ In O2 0 32 x) (fun x => In O3 0 32 x ∨ In O2 0 32 x) s sa := xa.weak hb (fun x _ h => .inl ⟨by have := h.1; omega, by have := h.2; omega⟩) fun _ _ h => h.elim
 have ho3a : Owned sa O3 0 32 := fun j hj => let ⟨u, h⟩ := ho3 j hj; ⟨u, h.same ma na⟩
 have ho2a : Owned sa O2 0 32 := fun j hj => let ⟨u, h⟩ := ho2 j hj; ⟨u, h.same ma na⟩
 have hba : sa.lim ≤ sa.next := xa.bnd hb
 refine Aov_ (l := st8L d.st) (cs := (st8V d.st).toList.toArray) rfl (fun i h => Ark_ d.st i h) hba 8 0 _ _ sa _ rfl (by omega) Oq_ (Ext.refl sa) (fun i v e => by simp [outs, u8l] at e) ho3a (by simp [T.get_set, h2]; rfl) (by simp [T.get_set, h3]) (by simp [T.get_set]) (by simp [T.get_set]) fun n' tm' sb td' e1 e2 xb ob t2 t3 => ?_
 refine Vq_.w e2 (by omega) ?_
 simp -implicitDefEqProofs only [JA_, Ag_, W_oS, Aa_, t2, t3]
 have hxb := hxa.trans xb hb (fun x _ h => .inr (.inl h)) fun x _ h => .inl h
 have hlen : (u8l (outs (st8L d.st))).length = 32 := by rw [Ar_, Sv_]; rfl
 refine W.loadA Le_ ob.row hlen fun sc mc nc xc => ?_
 have hxc := hxb.trans xc hb (fun x _ h => .inr (.inl h)) fun x _ h => h.elim
 have ho2c : Owned sc O2 0 32 := fun j hj => by
   obtain ⟨u, h⟩ := ho2a j hj
   refine ⟨u, (h.ext xb fun h => ?_).same mc nc⟩
   have h1 : O3 + 0 ≤ O2 + (0 + j) := h.1
   omega
 refine W.store Le_ hlen (Br_ _) ho2c fun se ne xe oe => ?_
 have hxe := hxc.trans xe hb (fun x _ h => .inr (.inr h)) fun x _ h => .inr h
 refine W.endC (r := 2) Nh_ (.inl TW_) (by omega) LU_ Uf_ (hxe.cx.trans hcx) t2 ?_
 refine W.loadA Le_ oe.row hlen fun sf mf nf xf => ?_
 exact q sf (hxe.trans xf hb (fun x _ h => .inr (.inr h)) fun x _ h => h.elim)
end Go.Proofs.Ytofanlcjeohcjaa.Am
namespace Go.Proofs.Ytofanlcjeohcjaa.Am
open Go.RowKit
theorem Dig.ext {F G : Nat → Prop} {s s' : St} {D : Nat} {d : DS} (h : Dig s D d) (e : Ext F G s s') (k : ∀ x, In D 0 74 x → ¬ G x) : Dig s' D d :=
 ⟨h.made.ext e (k _ ⟨by omega, by omega⟩), h.st.ext e fun i hi => k _ ⟨by omega, by rw [Fi_] at hi; omega⟩, h.w.ext e fun i hi => k _ ⟨by omega, by rw [Ar_, h.len] at hi; omega⟩, h.n.ext e (k _ ⟨by omega, by omega⟩), h.len, h.byt, h.ok⟩
theorem Owned.ext1 {F G : Nat → Prop} {s s' : St} {b o n : Nat} (h : Owned s b o n) (e : Ext F G s s') (k : ∀ x, In b o n x → ¬ G x) : Owned s' b o n := fun j hj => let ⟨u, hu⟩ := h j hj; ⟨u, hu.ext e (k _ ⟨by omega, by omega⟩)⟩
theorem Aoe_ {E : Env} {t : Nat} {s : St} {sz b o n c : Nat} (h : slN E t = some sz) (hk : 0 < n) (Q : Value → St → Prop) : W (kIdxA E t (.slice (some ⟨b, o, none⟩) n c) (.int .i64 0)) s Q = Q (.pointer (some ⟨b, o + 0 * sz, none⟩)) s := Cg_ (k := 0) h hk Q
abbrev MidF (D O2 : Nat) : Nat → Prop := fun x => In D 0 74 x ∨ O2 ≤ x
theorem AsD_ {D C O2 O3 n : Nat} {d : DS} {tm : T Value} {td : List Item} {s : St} {Q : Value × FrameMode → St → Prop} (hb : s.lim ≤ s.next) (hcx : s.cx = .cx none (some [])) (hmax : d.n ≤ 900000000) (hD2 : D + 74 ≤ O2) (h23 : O2 + 32 ≤ O3) (h3C : O3 + 32 ≤ C) (hCn : C + 74 ≤ s.next) (hd : Dig s D d) (hc : Dig s C d) (ho3 : Owned s O3 0 32) (ho2 : Owned s O2 0 32) (hn : 2000 ≤ n) (hT : skim 64 td = CE_)
   (h0 : T.get tm 0 = some (.pointer (some ⟨D, 0, none⟩))) (h2 : T.get tm 2 = some (.pointer (some ⟨O2, 0, none⟩))) (h3 : T.get tm 3 = some (.pointer (some ⟨O3, 0, none⟩))) (h4 : T.get tm 4 = some (.pointer (some ⟨C, 0, none⟩)))
   (q : ∀ s1, Ext (MidF D O2) (fun x => O2 ≤ x) s s1 → Q (.agg (u8l d.sum).toArray, .run) s1) : W (runF envS n ⟨112, Ca_, Az_, tm, td, .run, .normal, none⟩) s Q := by
 refine XB_.w hT (by omega) ?_
 simp -implicitDefEqProofs only [Mn_, Ag_, W_oS, Aa_, W_mv, Ac_, Cn_, h0, GW_ ApV_ (by decide : 0 < 1)]
 refine W.load1 OG_ hd.n.at' ?_
 have hxa : Ext (MidF D O2) (fun x => O2 ≤ x) s (s.rdN (D + (0 + 73))) := Ext.rdN (F := MidF D O2) s _ fun _ => .inl ⟨by omega, by omega⟩
 have hda : Dig (s.rdN (D + (0 + 73))) D d := hd.same rfl rfl
 have hca : Dig (s.rdN (D + (0 + 73))) C d := hc.same rfl rfl
 have ho3a : Owned (s.rdN (D + (0 + 73))) O3 0 32 := fun j hj => let ⟨u, h⟩ := ho3 j hj; ⟨u, h.same rfl rfl⟩
 have ho2a : Owned (s.rdN (D + (0 + 73))) O2 0 32 := fun j hj => let ⟨u, h⟩ := ho2 j hj; ⟨u, h.same rfl rfl⟩
 have na : (s.rdN (D + (0 + 73))).next = s.next := rfl
 generalize s.rdN (D + (0 + 73)) = sa at hxa hda hca ho3a ho2a na ⊢
 have hm : d.n % 64 < 64 := Nat.mod_lt _ (by decide)
 have e1 : wrap64 (119 - ((d.n % 64 : Nat) : Int)) = ((119 - d.n % 64 : Nat) : Int) := by
   rw [AK_ (by omega) (by omega)]; omega
 have e2 : wrap64 (1 + (((119 - d.n % 64) % 64 : Nat) : Int)) = ((d.pad0.length : Nat) : Int) := by
   rw [AK_ (by omega) (by omega), DS.pad0_len]; omega
 have hp0 : d.pad0.length ≤ 64 := by rw [DS.pad0_len]; omega
 simp -implicitDefEqProofs only [BC_, HU_, Ahg_, e1, e2]
 have hba : sa.lim ≤ sa.next := hxa.bnd hb
 refine W.mkSl (c := 80) Kt_ (by omega) (by decide) fun sb nb xb ob => ?_
 have hrl : (rep 80 [Value.int .u8 0]).length = 80 := by rw [AcS_]; simp
 have hnew : s.next ≤ sa.next := hxa.nxt
 have hxb : Ext (MidF D O2) (fun x => O2 ≤ x) s sb := hxa.trans xb hb (fun _ _ h => h.elim) fun _ _ h => h.elim
 have hdb : Dig sb D d := hda.ext0 xb
 have hcb : Dig sb C d := hca.ext0 xb
 have ho3b : Owned sb O3 0 32 := ho3a.ext1 xb fun _ _ h => h
 have ho2b : Owned sb O2 0 32 := ho2a.ext1 xb fun _ _ h => h
 have hob : Owned sb sa.next 0 80 := by
   have := OwnRow.owned ob
   rw [hrl] at this
   exact this
 have hzb : OwnRow sb sa.next 0 (List.replicate 80 (.int .u8 0)) := by rw [← AcS_]; exact ob
 clear ob xb hda hca ho3a ho2a
 refine WE_.w Sh_ (by omega) ?_
 simp -implicitDefEqProofs only [LZ_, Ag_, W_oS, Aa_, W_mv, T.get_set, reduceIte, ↓reduceIte, Aoe_ AL_ (show 0 < d.pad0.length by rw [DS.pad0_len]; omega)]
 obtain ⟨u0, hu0⟩ := hob 0 (by omega)
 refine W.store1 MY_ rfl hu0 fun sc nc xc oc => ?_
 have sub : ∀ x, In sa.next (0 + 0 * 1) 1 x → In sa.next 0 80 x := fun x h => ⟨by have := h.1; omega, by have := h.2; omega⟩
 have up : ∀ x, In sa.next 0 80 x → O2 ≤ x := fun x h => by have := h.1; omega
 have nod : ∀ b m x, b + m ≤ s.next → In b 0 m x → ¬ In sa.next 0 80 x := fun b m x hbm h h' => by
   have g1 := h.2
   have g2 := h'.1
   omega
 have hxc : Ext (MidF D O2) (fun x => O2 ≤ x) s sc := hxb.trans xc hb (fun x _ h => .inr (up x (sub x h))) fun x _ h => up x (sub x h)
 have hdc : Dig sc D d := hdb.ext xc fun x h h' => nod D 74 x (by omega) h (sub x h')
 have hcc : Dig sc C d := hcb.ext xc fun x h h' => nod C 74 x (by omega) h (sub x h')
 have ho3c : Owned sc O3 0 32 := ho3b.ext1 xc fun x h h' => nod O3 32 x (by omega) h (sub x h')
 have ho2c : Owned sc O2 0 32 := ho2b.ext1 xc fun x h h' => nod O2 32 x (by omega) h (sub x h')
 have hwc : Owned sc sa.next 0 80 := hob.ext (l := [.int .u8 128]) xc (OwnRow.cons oc .nil)
 have hpc : OwnRow sc sa.next 0 (u8l d.pad0) := by
   have e : u8l d.pad0 = .int .u8 128 :: List.replicate ((119 - d.n % 64) % 64) (.int .u8 0) := by
     unfold DS.pad0 u8l
     rw [List.map_cons, List.map_replicate]
     rfl
   rw [e]
   refine OwnRow.cons oc fun i v hi => ?_
   rw [List.getElem?_replicate] at hi
   split at hi
   · rename_i hlt
     cases hi
     have := hzb (1 + i) (.int .u8 0) (by rw [List.getElem?_replicate, if_pos (by omega)])
     rw [← Nat.add_assoc] at this
     refine this.ext xc fun h => ?_
     have := h.2
     omega
   · cases hi
 clear hob hzb hu0 oc
 have hbc : sc.lim ≤ sc.next := hxc.bnd hb
 have hBn : sa.next + 80 ≤ sc.next := by
   have h1 : sb.next = sa.next + (rep 80 [Value.int .u8 0]).length + 1 := nb
   omega
 refine Xl_.w RX_ (by omega) ?_
 simp -implicitDefEqProofs only [Md_, Aa_, W_mv, Ac_]
 refine AnA_ (d := d) (a2 := .pointer (some ⟨O2, 0, none⟩)) (a3 := .pointer (some ⟨O3, 0, none⟩)) (a4 := .pointer (some ⟨C, 0, none⟩)) (by omega) hbc (.inl (show D + 74 ≤ sa.next by omega)) hBn 8 _ _ sc _ d.pad0 (Nat.le_refl _) (by omega) Px_ (Ext.refl sc) hdc hpc hwc (by omega) (by simp [T.get_set, h0]) (by simp [T.get_set, h2]) (by simp [T.get_set, h3]) (by simp [T.get_set, h4]) (by simp [T.get_set]) (by simp [T.get_set]) fun n' tm' sd td' f1 f2 xd hdd hpd t0 t2 t3 t4 t5 => ?_
 have hxd : Ext (MidF D O2) (fun x => O2 ≤ x) s sd := hxc.trans xd hb (fun x _ h => by
   rcases h with h | h
   · exact .inl h
   · exact .inr (up x h)) fun x _ h => up x h
 have hcd : Dig sd C d := hcc.ext xd fun x h h' => nod C 74 x (by omega) h h'
 have ho3d : Owned sd O3 0 32 := ho3c.ext1 xd fun x h h' => nod O3 32 x (by omega) h h'
 have ho2d : Owned sd O2 0 32 := ho2c.ext1 xd fun x h h' => nod O2 32 x (by omega) h h'
 have hpl : d.pad.length = d.pad0.length + 8 := by unfold DS.pad; rw [List.length_append, AlE_]
 rw [← hpl] at t5
 have hpd' : OwnRow sd sa.next 0 (u8l d.pad) := hpd
 have hbn : Bn sd (.slice (some ⟨sa.next, 0, none⟩) d.pad.length 80) d.pad := ⟨sa.next, 0, 80, rfl, by rw [Nat.mod_eq_of_lt (Bi_ (by decide))]; omega, FG_ (Bi_ (by decide)), hpd'.row⟩
 have hbd : sd.lim ≤ sd.next := hxd.bnd hb
 refine Ts_.w f2 (by omega) ?_
 simp -implicitDefEqProofs only [KA_, Ag_, W_on, Aa_, W_mv, Ae_, Ah_, Ab_, AB_, t4, t5]
 refine Hf_ hbd (fun x h h' => nod C 74 x (by omega) h' ⟨h.1, by have := h.2; omega⟩) hcd (by omega) (fun _ => hbn) hbn.bs d.pad_byt (by omega) fun se xe he => ?_
 have hxe : Ext (MidF D O2) (fun x => O2 ≤ x) s se := hxd.trans xe hb (fun x _ h => by
   rcases h with h | h
   · exact .inr (by have := h.1; omega)
   · exact .inr (up x ⟨h.1, by have := h.2; omega⟩)) fun x _ h => by have := h.1; omega
 have ho3e : Owned se O3 0 32 := ho3d.ext1 xe fun x h h' => by have := h.2; have := h'.1; omega
 have ho2e : Owned se O2 0 32 := ho2d.ext1 xe fun x h h' => by have := h.2; have := h'.1; omega
 have hbe : se.lim ≤ se.next := hxe.bnd hb
 refine AnV_ (C := C) hbe (hxe.cx.trans hcx) h23 he ho3e ho2e (by omega) Ol_ t2 t3 t4 fun sf xf => q sf (hxe.trans xf hb (fun x _ h => ?_) fun x _ h => ?_)
 · rcases h with h | h | h
   · exact .inr (by have := h.1; omega)
   · exact .inr (by have := h.1; omega)
   · exact .inr (by have := h.1; omega)
 · rcases h with h | h
   · have := h.1; omega
   · have := h.1; omega
end Go.Proofs.Ytofanlcjeohcjaa.Am
namespace Go.Proofs.Ytofanlcjeohcjaa.Am
open Go.RowKit
theorem Aly_ {D n : Nat} {d : DS} {s : St} {Q : Value → St → Prop} (hbd : s.lim ≤ s.next) (hd : Dig s D d) (hmax : d.n ≤ 900000000) (hn : 2500 ≤ n)
   (q : ∀ s1, Ext (In D 0 74) Non s s1 → Q (.agg (u8l d.sum).toArray) s1) : W (callW envS (runF envS n) 112 [.pointer (some ⟨D, 0, none⟩)]) s Q := by
 refine YJ_ fun tm h0 => ?_
 have hD : D + 73 < s.next := by have := hd.n.1; omega
 have hd0 : Dig (s.cxN cxN) D d := hd.same rfl rfl
 refine XA_.w rfl (by omega) ?_
 simp -implicitDefEqProofs only [Mf_, Ag_, Aa_, Ac_]
 refine W.alloc Sx_ fun sa na xa oa => ?_
 have na' : sa.next = s.next + 33 := na
 have hxa : Ext (In D 0 74) Non (s.cxN cxN) sa := (Ext.refl _).step xa hbd (fun _ _ h => h.elim) fun _ h => h.elim
 refine WR_.w RS_ (by omega) ?_
 simp -implicitDefEqProofs only [Mh_, Ag_, Aa_, Ac_]
 refine W.alloc Sx_ fun sb nb xb ob => ?_
 have nb' : sb.next = sa.next + 33 := nb
 have hxb : Ext (In D 0 74) Non (s.cxN cxN) sb := hxa.step xb hbd (fun _ _ h => h.elim) fun _ h => h.elim
 have hdb : Dig sb D d := hd0.ext0 hxb
 have ho2 : Owned sb s.next 0 32 := (OwnRow.owned oa).ext1 xb fun _ _ h => h
 have ho3 : Owned sb sa.next 0 32 := OwnRow.owned ob
 refine WX_.w RO_ (by omega) ?_
 simp -implicitDefEqProofs only [Lu_, Ag_, W_oS, W_on, Aa_, W_mv, Ac_, T.get_set, reduceIte, Aw_, Bm_, Bx_, BR_, AQ_, Cn_, reduceCtorEq, ↓reduceIte, h0, AgY_ Auf_, GW_ AtO_ (by decide : 0 < 1)]
 refine W.load1 Abr_ hdb.made.at' ?_
 simp -implicitDefEqProofs only [Un_]
 have hxc : Ext (In D 0 74) Non (s.cxN cxN) (sb.rdN (D + (0 + 0))) := hxb.step (Ext.rdN (F := In D 0 74) (G := Non) sb _ fun _ => ⟨by omega, by omega⟩) hbd (fun _ _ h => h) fun _ h => h.elim
 have hdc : Dig (sb.rdN (D + (0 + 0))) D d := hdb.same rfl rfl
 have ho2c : Owned (sb.rdN (D + (0 + 0))) s.next 0 32 := fun j hj => let ⟨u, h⟩ := ho2 j hj; ⟨u, h.same rfl rfl⟩
 have ho3c : Owned (sb.rdN (D + (0 + 0))) sa.next 0 32 := fun j hj => let ⟨u, h⟩ := ho3 j hj; ⟨u, h.same rfl rfl⟩
 have nc : (sb.rdN (D + (0 + 0))).next = sb.next := rfl
 refine W.cond (v := false) RJ_ Wc_ (by simp [T.get_set]) (by omega) (fun h => by cases h) fun _ => ?_
 generalize sb.rdN (D + (0 + 0)) = sc at hxc hdc ho2c ho3c nc ⊢
 refine WQ_.w Sq_ (by omega) ?_
 simp -implicitDefEqProofs only [Mi_, Ag_, W_oS, Aa_, W_mv, Ac_, T.get_set, reduceIte, Cn_, reduceCtorEq, ↓reduceIte, h0]
 refine W.loadA AqB_ hdc.toRow.row (d.row_len hd.len) fun sd md nd xd => ?_
 have hxd : Ext (In D 0 74) Non (s.cxN cxN) sd := hxc.step xd hbd (fun _ _ h => h) fun _ h => h.elim
 refine W.alloc AsS_ fun se ne xe oe => ?_
 have ne' : se.next = sd.next + 75 := ne
 have hxe : Ext (In D 0 74) Non (s.cxN cxN) se := hxd.step xe hbd (fun _ _ h => h.elim) fun _ h => h.elim
 have hnd : sd.next = sc.next := nd
 refine W.store AqB_ (d.row_len hd.len) d.row_one (fun i hi => oe.owned i (by simp; omega)) fun sf nf xf of => ?_
 have hnf : sf.next = se.next := nf
 have hG : ∀ x, In sd.next 0 74 x → s.next ≤ x := fun x h => by have := h.1; omega
 have hxf : Ext (In D 0 74) Non (s.cxN cxN) sf := hxe.step xf hbd (fun x hx h => by
   have h1 := hG x h
   have h2 : x < s.lim := hx
   omega) fun x h => hG x h
 have hbf : sf.lim ≤ sf.next := hxf.bnd hbd
 have hcf : Dig sf sd.next d := Dig.ofRow of hd.len hd.byt hd.ok
 have hdf : Dig sf D d := hd0.ext0 hxf
 have ho2f : Owned sf s.next 0 32 := ((ho2c.ext1 xd fun _ _ h => h).ext1 xe fun _ _ h => h).ext1 xf fun x h h' => by
   have := h.2
   have := h'.1
   omega
 have ho3f : Owned sf sa.next 0 32 := ((ho3c.ext1 xd fun _ _ h => h).ext1 xe fun _ _ h => h).ext1 xf fun x h h' => by
   have := h.2
   have := h'.1
   omega
 refine AsD_ (D := D) (C := sd.next) (O2 := s.next) (O3 := sa.next) (d := d) hbf hxf.cx hmax (by omega) (by omega) (by omega) (by omega) hdf hcf ho3f ho2f (by omega) RR_ (by simp [T.get_set, h0]) (by simp [T.get_set]) (by simp [T.get_set]) (by simp [T.get_set]) fun sg xg => ?_
 have hxg : Ext (In D 0 74) Non (s.cxN cxN) sg := hxf.step xg hbd (fun x hx h => by
   have h2 : x < s.lim := hx
   rcases h with h | h
   · exact h
   · omega) fun x h => h
 exact q _ hxg.cx'
end Go.Proofs.Ytofanlcjeohcjaa.Am
namespace Go.Proofs.Ytofanlcjeohcjaa.Am
open Go.RowKit
theorem DS.write_n : ∀ (f : Nat) (d : DS) (b : List Nat), b.length ≤ f → (DS.write f d b).n = d.n + b.length
 | 0, d, b, h => by
   have : b.length = 0 := by omega
   unfold DS.write
   omega
 | f + 1, d, b, h => by
   unfold DS.write
   by_cases hb : b.length = 0
   · rw [if_pos hb]; omega
   · rw [if_neg hb]
     obtain ⟨hk1, hk2⟩ := d.k_le b
     have hm : d.n % 64 < 64 := Nat.mod_lt _ (by decide)
     have hk0 : 0 < d.k b := by
       unfold DS.k
       exact Nat.lt_min.2 ⟨by omega, by omega⟩
     rw [DS.write_n f _ _ (by rw [List.length_drop]; omega), List.length_drop]
     show d.n + d.k b + (b.length - d.k b) = _
     omega
def sumB (b : List Nat) : List Nat := (DS.write b.length DS.new b).sum
theorem AhU_ (b : List Nat) : (sumB b).length = 32 := DS.sum_len _
theorem Aqb_ (b : List Nat) : Byt (sumB b) := Agx_ _
theorem Bs.bn' {s : St} {v : Value} {b : List Nat} (h : Bs s v b) (hb : b ≠ []) : Bn s v b := by
 rcases h with ⟨_, h⟩ | h
 · exact absurd h hb
 · exact h
theorem TA_ {n : Nat} {v : Value} {b : List Nat} {s : St} {Q : Value → St → Prop} (hbd : s.lim ≤ s.next) (hbs : Bs s v b) (hlt : ∀ x, BsF v x → x < s.next) (hby : Byt b) (hmax : b.length ≤ 900000) (hn : 20 * b.length + 2600 ≤ n)
   (q : ∀ s1, Ext (BsF v) Non s s1 → Q (.agg (u8l (sumB b)).toArray) s1) : W (callW envS (runF envS n) 73 [v]) s Q := by
 refine Aba_ fun tm h0 => ?_
 have hbs0 : Bs (s.cxN cxN) v b := hbs.same rfl rfl
 refine AaP_.w rfl (by omega) ?_
 simp -implicitDefEqProofs only [Oo_, Ag_, Aa_, Ac_]
 refine W.alloc Sx_ fun sa na xa oa => ?_
 have na' : sa.next = s.next + 33 := na
 have hxa : Ext (BsF v) Non (s.cxN cxN) sa := (Ext.refl _).step xa hbd (fun _ _ h => h.elim) fun _ h => h.elim
 refine ZH_.w Tb_ (by omega) ?_
 simp -implicitDefEqProofs only [OR_, Ag_, W_on, Aa_, W_mv, Ac_, Ah_, AB_]
 refine Tu_ (hxa.bnd hbd) (by omega) fun sb D hD1 hD2 xb hd => ?_
 have hxb : Ext (BsF v) Non (s.cxN cxN) sb := hxa.step xb hbd (fun _ _ h => h.elim) fun _ h => h.elim
 refine AaV_.w Uo_ (by omega) ?_
 simp -implicitDefEqProofs only [NF_, Ag_, W_on, Aa_, W_mv, T.get_set, Ae_, Ah_, Ab_, AB_, reduceIte, reduceCtorEq, ↓reduceIte, h0]
 have hbsb : Bs sb v b := hbs0.ext0 hxb
 refine Hf_ (hxb.bnd hbd) (fun x h h' => by have := hlt x h; have := h'.1; omega) hd (show 0 + b.length ≤ 1000000000 by omega) (fun h => hbsb.bn' h) hbsb hby (by omega) fun sc xc hdc => ?_
 have hG : ∀ x, In D 0 74 x → s.next ≤ x := fun x h => by have := h.1; omega
 have hxc : Ext (BsF v) Non (s.cxN cxN) sc := hxb.step xc hbd (fun x hx h => by
   have h2 : x < s.lim := hx
   rcases h with h | h
   · have := hG x h; omega
   · exact h) fun x h => hG x h
 have hoc : Owned sc s.next 0 32 := ((OwnRow.owned oa).ext1 xb fun _ _ h => h).ext1 xc fun x h h' => by
   have h1 : x < s.next + 0 + 32 := h.2
   have := h'.1
   omega
 refine ZN_.w UA_ (by omega) ?_
 simp -implicitDefEqProofs only [Oa_, Ag_, W_oS, W_on, Aa_, W_mv, T.get_set, Ae_, Ah_, Ab_, AB_, reduceIte, Nat.reduceEqDiff, Nat.reduceEqDiff, ↓reduceIte]
 refine Aly_ (hxc.bnd hbd) hdc (by rw [DS.write_n _ _ _ (Nat.le_refl _)]; show 0 + b.length ≤ _; omega) (by omega) fun sd xd => ?_
 have hxd : Ext (BsF v) Non (s.cxN cxN) sd := hxc.step xd hbd (fun x hx h => by
   have h2 : x < s.lim := hx
   have := hG x h
   omega) fun _ h => h.elim
 have hod : Owned sd s.next 0 32 := hoc.ext1 xd fun _ _ h => h
 have hlen : (u8l (DS.write b.length DS.new b).sum).length = 32 := by rw [Ar_]; exact DS.sum_len _
 refine W.store Le_ hlen (Br_ _) hod fun se ne xe oe => ?_
 have hG2 : ∀ x, In s.next 0 32 x → s.next ≤ x := fun x h => by have := h.1; omega
 have hxe : Ext (BsF v) Non (s.cxN cxN) se := hxd.step xe hbd (fun x hx h => by
   have h2 : x < s.lim := hx
   have := hG2 x h
   omega) hG2
 refine W.endC (r := 2) UF_ (.inl Aah_) (by omega) Np_ WI_ hxe.cx (by simp [T.get_set]; rfl) ?_
 refine W.loadA Le_ oe.row hlen fun sf mf nf xf => ?_
 have hxf : Ext (BsF v) Non (s.cxN cxN) sf := hxe.step xf hbd (fun x hx h => by
   have h2 : x < s.lim := hx
   have := hG2 x h
   omega) fun _ h => h.elim
 exact q _ hxf.cx'
end Go.Proofs.Ytofanlcjeohcjaa.Am
namespace Go.Proofs.Ytofanlcjeohcjaa.Am
open Go.RowKit
theorem AaL_ {E : Env} {t n sz l c : Nat} {a : Addr} {s : St} (h : arrN E t = some (n, sz)) (h1 : n ≤ l) (h2 : 0 < l) (Q : Value → St → Prop) : W (kSlArr E t (.slice (some a) l c)) s Q = Q (.pointer (some a)) s := by
 obtain ⟨i, e, ie, g1, g2, g3, g4⟩ := Ahc_ h
 refine BK_ ?_
 unfold kSlArr
 rw [AM_ (show ti E t s = .some i s by unfold ti; rw [g1]; rfl), g2]
 show M.chk (Nat.ble n l && Nat.blt 0 l) (M.pure (Value.pointer (some a))) s = _
 rw [Nat.ble_eq_true_of_le h1, Fx_ h2]
 rfl
theorem Auh_ : arrN envS 26 = some (16, 1) := by kernel_rfl
theorem Bn_ : tyS envS 26 = some (16, true) := by kernel_rfl
theorem GI_ : zeroL envS 26 = some (List.replicate 16 (.int .u8 0)) := by kernel_rfl
def idB (b : List Nat) : List Nat := (sumB b).take 16
theorem Bz_ (b : List Nat) : (idB b).length = 16 := by unfold idB; rw [List.length_take, AhU_]; rfl
theorem AjN_ (b : List Nat) : Byt (idB b) := fun x hx => Aqb_ b x (List.mem_of_mem_take hx)
theorem Me_ {n : Nat} {v : Value} {b : List Nat} {s : St} {Q : Value → St → Prop} (hbd : s.lim ≤ s.next) (hbs : Bs s v b) (hlt : ∀ x, BsF v x → x < s.next) (hby : Byt b) (hmax : b.length ≤ 900000) (hn : 20 * b.length + 2700 ≤ n)
   (q : ∀ s1, Ext (BsF v) Non s s1 → Q (.agg (u8l (idB b)).toArray) s1) : W (callW envS (runF envS n) 32 [v]) s Q := by
 refine Aft_ fun tm h0 => ?_
 have hbs0 : Bs (s.cxN cxN) v b := hbs.same rfl rfl
 refine Adb_.w rfl (by omega) ?_
 simp -implicitDefEqProofs only [QC_, Ag_, Aa_, Ac_]
 refine W.alloc GI_ fun sa na xa oa => ?_
 have na' : sa.next = s.next + 17 := na
 have hxa : Ext (BsF v) Non (s.cxN cxN) sa := (Ext.refl _).step xa hbd (fun _ _ h => h.elim) fun _ h => h.elim
 refine AbC_.w WJ_ (by omega) ?_
 simp -implicitDefEqProofs only [Qb_, Ag_, W_oS, W_on, Aa_, W_mv, Ac_, T.get_set, Ae_, Ah_, Ab_, AB_, reduceIte, reduceCtorEq, ↓reduceIte, h0]
 refine TA_ (hxa.bnd hbd) (hbs0.ext0 hxa) (fun x h => by have := hlt x h; omega) hby hmax (by omega) fun sb xb => ?_
 have hxb : Ext (BsF v) Non (s.cxN cxN) sb := hxa.step xb hbd (fun _ _ h => h) fun _ h => h.elim
 refine W.alloc Sx_ fun sc nc xc oc => ?_
 have hxc : Ext (BsF v) Non (s.cxN cxN) sc := hxb.step xc hbd (fun _ _ h => h.elim) fun _ h => h.elim
 have hbn : sa.next ≤ sb.next := xb.nxt
 have hlen : (u8l (sumB b)).length = 32 := by rw [Ar_]; exact AhU_ _
 refine W.store Le_ hlen (Br_ _) (fun i hi => oc.owned i (by simp; omega)) fun sd nd xd od => ?_
 have hG : ∀ x, In sb.next 0 32 x → s.next ≤ x := fun x h => by have := h.1; omega
 have hxd : Ext (BsF v) Non (s.cxN cxN) sd := hxc.step xd hbd (fun x hx h => by
   have h2 : x < s.lim := hx
   have := hG x h
   omega) hG
 have ho2 : Owned sd s.next 0 16 := (((OwnRow.owned oa).ext1 xb fun _ _ h => h).ext1 xc fun _ _ h => h).ext1 xd fun x h h' => by
   have h1 : x < s.next + 0 + 16 := h.2
   have := h'.1
   omega
 refine Act_.w Wl_ (by omega) ?_
 simp -implicitDefEqProofs only [Rg_, Ag_, W_oS, W_on, Aa_, T.get_set, Ab_, reduceIte, Nat.reduceEqDiff, Nat.reduceEqDiff, ↓reduceIte]
 simp -implicitDefEqProofs only [Pp_ (lo := none) (hi := some (.int .i64 16)) (l := 0) (h := 16) AqH_ (Bi_ (by decide)) rfl rfl (Nat.zero_le _) (by decide), AaL_ Auh_ (show 16 ≤ 16 - 0 by decide) (by decide), reduceIte, reduceCtorEq, ↓reduceIte]
 have hlen2 : (u8l (idB b)).length = 16 := by rw [Ar_]; exact Bz_ _
 have hod : OwnRow sd sb.next 0 (u8l (idB b)) := by
   have := od.take (n := 16)
   show OwnRow sd sb.next 0 (u8l ((sumB b).take 16))
   unfold u8l
   rw [List.map_take]
   exact this
 refine W.loadA Bn_ hod.row hlen2 fun se me ne xe => ?_
 have hxe : Ext (BsF v) Non (s.cxN cxN) se := hxd.step xe hbd (fun x hx h => by
   have h2 : x < s.lim := hx
   have h3 : sb.next + (0 + 0 * 1) ≤ x := h.1
   omega) fun _ h => h.elim
 have ho2e : Owned se s.next 0 16 := ho2.ext1 xe fun _ _ h => h
 refine W.store Bn_ hlen2 (Br_ _) ho2e fun sf nf xf of => ?_
 have hG2 : ∀ x, In s.next 0 16 x → s.next ≤ x := fun x h => by have := h.1; omega
 have hxf : Ext (BsF v) Non (s.cxN cxN) sf := hxe.step xf hbd (fun x hx h => by
   have h2 : x < s.lim := hx
   have := hG2 x h
   omega) hG2
 refine W.endC (r := 2) WF_ (.inl AcO_) (by omega) PI_ YL_ hxf.cx (by simp [T.get_set]; rfl) ?_
 refine W.loadA Bn_ of.row hlen2 fun sg mg ng xg => ?_
 have hxg : Ext (BsF v) Non (s.cxN cxN) sg := hxf.step xg hbd (fun x hx h => by
   have h2 : x < s.lim := hx
   have := hG2 x h
   omega) fun _ h => h.elim
 exact q _ hxg.cx'
end Go.Proofs.Ytofanlcjeohcjaa.Am
namespace Go.Proofs.Ytofanlcjeohcjaa.Am
open Go.RowKit
def Fp_ : Nat := globOf Try.f20
def LS_ : Code := Try.f20.body.getD .skip
theorem FC_ : envS.fn.get 20 = some Try.f20 := by kernel_rfl
theorem Afq_ {a0 : Value} {n : Nat} {s : St} {Q : Value → St → Prop} (h : ∀ tm, T.get tm 0 = some a0 → W (runF envS n ⟨20, 11, Fp_, tm, [.code LS_], .run, .normal, none⟩) (s.cxN cxN) fun p s1 => Q p.1 (s1.cxN s.cx)) : W (callW envS (runF envS n) 20 [a0]) s Q :=
 W.call (by kernel_rfl) (by kernel_rfl) FC_ (by kernel_rfl) rfl rfl (by simp) (h _ (by kernel_rfl))
theorem Id_ : Try.f20.results.toList = [.tmp 2] := by kernel_rfl
def Jg_ : List Item := skim 64 [.code LS_]
def FA_ : List Item := skim 64 Jg_.tail
theorem Ww_ : skim 64 Jg_.tail = FA_ := by kernel_rfl
def CQ_ : List Item := skim 64 FA_.tail
theorem GR_ : skim 64 FA_.tail = CQ_ := by kernel_rfl
def FI_ : List Item := skim 64 (brT CQ_)
theorem Mg_ : skim 64 (brT CQ_) = FI_ := by kernel_rfl
def Gu_ : List Item := skim 64 (brF CQ_)
theorem Xw_ : skim 64 (brF CQ_) = Gu_ := by kernel_rfl
def IM_ : List Item := skim 64 FI_.tail
theorem LB_ : skim 64 FI_.tail = IM_ := by kernel_rfl
def Kf_ : List Item := skim 64 Gu_.tail
theorem WC_ : skim 64 Gu_.tail = Kf_ := by kernel_rfl
def Qx_ (E : Env) (call round : CallT) (tm : T Value) : M (T Value) :=
  mv (some (.int .i64 0)) fun v2 =>
  setF 2 v2 tm fun tm1 =>
  M.pure tm1
theorem Abg_ : RegEq 20 11 Fp_ Jg_ Qx_ := ⟨by kernel_rfl, fun _ _ _ _ _ _ _ _ _ => by kernel_rfl⟩
def PP_ (E : Env) (call round : CallT) (tm : T Value) : M (T Value) :=
  mv (T.get tm 0) fun v3 =>
  M.bind (oS (some v3) fun a => oS (some (.int .i64 1)) fun b => Cl.get (aBin E .lss 3 (.tmp 3) (.const (.int .i64 1))) a b) fun v4 =>
  mv (some v4) fun v5 =>
  M.bind (M.chk (isK v5) (M.if (isB v5 false) (oS (T.get tm 0) fun a => M.pure a) (M.pure undef))) fun v6 =>
  M.bind (M.chk (isK v5) (M.if (isB v5 false) (oS (some v6) fun a => oS (some (.int .i64 1024)) fun b => Cl.get (aBin E .gtr 3 (.tmp 6) (.const (.int .i64 1024))) a b) (M.pure undef))) fun v7 =>
  M.bind (M.on (some v5) fun a => M.on (some (.bool true)) fun b => M.on (some v7) fun c => kPick a b c) fun v8 =>
  setF 8 v8 tm fun tm1 =>
  M.pure tm1
theorem AbJ_ : RegEq 20 11 Fp_ FA_ PP_ := ⟨by kernel_rfl, fun _ _ _ _ _ _ _ _ _ => by kernel_rfl⟩
theorem Km_ : condX CQ_ = some 8 := by kernel_rfl
def IO_ (E : Env) (call round : CallT) (tm : T Value) : M (T Value) :=
  mv (some (.int .i64 0)) fun v2 =>
  setF 2 v2 tm fun tm1 =>
  M.pure tm1
theorem QJ_ : RegEq 20 11 Fp_ FI_ IO_ := ⟨by kernel_rfl, fun _ _ _ _ _ _ _ _ _ => by kernel_rfl⟩
def Qh_ (E : Env) (call round : CallT) (tm : T Value) : M (T Value) :=
  mv (T.get tm 0) fun v9 =>
  M.bind (oS (some v9) fun a => oS (some (.int .i64 26)) fun b => Cl.get (aBin E .add 3 (.tmp 9) (.const (.int .i64 26))) a b) fun v10 =>
  mv (some v10) fun v2 =>
  setF 2 v2 tm fun tm1 =>
  M.pure tm1
theorem Adc_ : RegEq 20 11 Fp_ Gu_ Qh_ := ⟨by kernel_rfl, fun _ _ _ _ _ _ _ _ _ => by kernel_rfl⟩
theorem Ru_ : ∃ k, IM_ = .code .ret :: k := ⟨IM_.tail, by kernel_rfl⟩
theorem Abb_ : ∃ k, Kf_ = .code .ret :: k := ⟨Kf_.tail, by kernel_rfl⟩
def Fb_ : Nat := globOf Try.f62
def Ms_ : Code := Try.f62.body.getD .skip
theorem Qj_ : envS.fn.get 62 = some Try.f62 := by kernel_rfl
theorem Afo_ {a0 : Value} {n : Nat} {s : St} {Q : Value → St → Prop} (h : ∀ tm, T.get tm 0 = some a0 → W (runF envS n ⟨62, 31, Fb_, tm, [.code Ms_], .run, .normal, none⟩) (s.cxN cxN) fun p s1 => Q p.1 (s1.cxN s.cx)) : W (callW envS (runF envS n) 62 [a0]) s Q :=
 W.call (by kernel_rfl) (by kernel_rfl) Qj_ (by kernel_rfl) rfl rfl (by simp) (h _ (by kernel_rfl))
theorem ZD_ : Try.f62.results.toList = [.cell 2 89] := by kernel_rfl
def Ke_ : List Item := skim 64 [.code Ms_]
def FT_ : List Item := skim 64 Ke_.tail
theorem Wd_ : skim 64 Ke_.tail = FT_ := by kernel_rfl
def GE_ : List Item := skim 64 FT_.tail
theorem Wa_ : skim 64 FT_.tail = GE_ := by kernel_rfl
def FS_ : List Item := skim 64 GE_.tail
theorem Xk_ : skim 64 GE_.tail = FS_ := by kernel_rfl
def JP_ : List Item := skim 64 FS_.tail
theorem Xa_ : skim 64 FS_.tail = JP_ := by kernel_rfl
def Qc_ (E : Env) (call round : CallT) (tm : T Value) : M (T Value) :=
  M.bind (kAlloc E 89) fun v2 =>
  setF 2 v2 tm fun tm1 =>
  M.pure tm1
theorem Acg_ : RegEq 62 31 Fb_ Ke_ Qc_ := ⟨by kernel_rfl, fun _ _ _ _ _ _ _ _ _ => by kernel_rfl⟩
def Qt_ (E : Env) (call round : CallT) (tm : T Value) : M (T Value) :=
  mv (T.get tm 0) fun v6 =>
  M.bind (oS (some v6) fun a => oS (some (.int .u64 8)) fun b => Cl.get (aBin E .shr 3 (.tmp 6) (.const (.int .u64 8))) a b) fun v7 =>
  M.bind (oS (some v7) fun a => kConvB E 3 5 a) fun v8 =>
  mv (T.get tm 0) fun v9 =>
  M.bind (oS (some v9) fun a => kConvB E 3 5 a) fun v10 =>
  mv (some v8) fun v3 =>
  setF 3 v3 tm fun tm1 =>
  mv (some v10) fun v4 =>
  setF 4 v4 tm1 fun tm2 =>
  M.pure tm2
theorem Ade_ : RegEq 62 31 Fb_ FT_ Qt_ := ⟨by kernel_rfl, fun _ _ _ _ _ _ _ _ _ => by kernel_rfl⟩
def Rs_ (E : Env) (call round : CallT) (tm : T Value) : M (T Value) :=
  mv (T.get tm 3) fun v11 =>
  mv (T.get tm 4) fun v12 =>
  mv (T.get tm 3) fun v13 =>
  M.bind (oS (some v13) fun a => kUn E.P .xor a) fun v14 =>
  mv (T.get tm 4) fun v15 =>
  M.bind (oS (some v15) fun a => kUn E.P .xor a) fun v16 =>
  M.bind (oS (seqP [(0, (some v11)), (1, (some v12)), (2, (some v14)), (3, (some v16))]) fun ps => aBuildS E 22 4 ps) fun v17 =>
  M.bind (M.on (some (.func (.func 105) #[] #[])) fun f => M.on (seqO [(some v17)]) fun l => callV call round f l) fun v18 =>
  mv (some v18) fun v5 =>
  setF 5 v5 tm fun tm1 =>
  M.pure tm1
theorem AcZ_ : RegEq 62 31 Fb_ GE_ Rs_ := ⟨by kernel_rfl, fun _ _ _ _ _ _ _ _ _ => by kernel_rfl⟩
def QO_ (E : Env) (call round : CallT) (tm : T Value) : M (T Value) :=
  mv (T.get tm 3) fun v19 =>
  mv (T.get tm 4) fun v20 =>
  mv (T.get tm 3) fun v21 =>
  M.bind (oS (some v21) fun a => kUn E.P .xor a) fun v22 =>
  mv (T.get tm 4) fun v23 =>
  M.bind (oS (some v23) fun a => kUn E.P .xor a) fun v24 =>
  mv (T.get tm 5) fun v25 =>
  M.bind (oS (some v25) fun a => kConvB E 51 5 a) fun v26 =>
  mv (T.get tm 5) fun v27 =>
  M.bind (oS (some v27) fun a => oS (some (.int .u64 8)) fun b => Cl.get (aBin E .shr 51 (.tmp 27) (.const (.int .u64 8))) a b) fun v28 =>
  M.bind (oS (some v28) fun a => kConvB E 51 5 a) fun v29 =>
  M.bind (oS (seqP [(0, (some v19)), (1, (some v20)), (2, (some v22)), (3, (some v24)), (4, (some v26)), (5, (some v29))]) fun ps => aBuild E 89 ps) fun v30 =>
  M.bind (oS (T.get tm 2) fun a => oS (some v30) fun b => kStore E 89 a b) fun _ =>
  M.pure tm
theorem AbT_ : RegEq 62 31 Fb_ FS_ QO_ := ⟨by kernel_rfl, fun _ _ _ _ _ _ _ _ _ => by kernel_rfl⟩
theorem Adu_ : ∃ k, JP_ = .code .ret :: k := ⟨JP_.tail, by kernel_rfl⟩
def BW_ : Nat := globOf Try.f71
abbrev AbN_ : Nat := 45
def LR_ : Code := Try.f71.body.getD .skip
theorem Gr_ : envS.fn.get 71 = some Try.f71 := by kernel_rfl
theorem VQ_ {a0 a1 : Value} {n : Nat} {s : St} {Q : Value → St → Prop} (h : ∀ tm, T.get tm 0 = some a0 → T.get tm 1 = some a1 → W (runF envS n ⟨71, 45, BW_, tm, [.code LR_], .run, .normal, none⟩) (s.cxN cxN) fun p s1 => Q p.1 (s1.cxN s.cx)) : W (callW envS (runF envS n) 71 [a0, a1]) s Q :=
 W.call (by kernel_rfl) (by kernel_rfl) Gr_ (by kernel_rfl) rfl rfl (by simp) (h _ (by kernel_rfl) (by kernel_rfl))
theorem HX_ : Try.f71.results.toList = [.tmp 4, .tmp 5] := by kernel_rfl
def IS_ : List Item := skim 64 [.code LR_]
def FU_ : List Item := skim 64 IS_.tail
theorem LD_ : skim 64 IS_.tail = FU_ := by kernel_rfl
def Dc_ : List Item := skim 64 FU_.tail
theorem Mm_ : skim 64 FU_.tail = Dc_ := by kernel_rfl
def Gn_ : List Item := skim 64 (brT Dc_)
theorem Wr_ : skim 64 (brT Dc_) = Gn_ := by kernel_rfl
def Eg_ : List Item := skim 64 (brF Dc_)
theorem WW_ : skim 64 (brF Dc_) = Eg_ := by kernel_rfl
def IY_ : List Item := skim 64 Gn_.tail
theorem Xy_ : skim 64 Gn_.tail = IY_ := by kernel_rfl
def Da_ : List Item := skim 64 Eg_.tail
theorem Wj_ : skim 64 Eg_.tail = Da_ := by kernel_rfl
def Ji_ : List Item := skim 64 Da_.tail
theorem Lv_ : skim 64 Da_.tail = Ji_ := by kernel_rfl
def Jz_ (E : Env) (call round : CallT) (tm : T Value) : M (T Value) :=
  mv (some (.int .i64 0)) fun v4 =>
  setF 4 v4 tm fun tm1 =>
  mv (some (.bool false)) fun v5 =>
  setF 5 v5 tm1 fun tm2 =>
  M.pure tm2
theorem QG_ : RegEq 71 45 BW_ IS_ Jz_ := ⟨by kernel_rfl, fun _ _ _ _ _ _ _ _ _ => by kernel_rfl⟩
def Kk_ (E : Env) (call round : CallT) (tm : T Value) : M (T Value) :=
  mv (T.get tm 1) fun v7 =>
  M.bind (oS (some v7) fun a => oS (some (.int .i64 0)) fun b => Cl.get (aBin E .lss 3 (.tmp 7) (.const (.int .i64 0))) a b) fun v8 =>
  mv (some v8) fun v9 =>
  M.bind (M.chk (isK v9) (M.if (isB v9 false) (oS (T.get tm 1) fun a => M.pure a) (M.pure undef))) fun v10 =>
  M.bind (M.chk (isK v9) (M.if (isB v9 false) (oS (T.get tm 0) fun a => M.pure a) (M.pure undef))) fun v11 =>
  M.bind (M.chk (isK v9) (M.if (isB v9 false) (oS (seqO [(some v11)]) fun l => aBuiltin E .len [22] l) (M.pure undef))) fun v12 =>
  M.bind (M.chk (isK v9) (M.if (isB v9 false) (oS (some v12) fun a => oS (some (.int .i64 6)) fun b => Cl.get (aBin E .sub 3 (.tmp 12) (.const (.int .i64 6))) a b) (M.pure undef))) fun v13 =>
  M.bind (M.chk (isK v9) (M.if (isB v9 false) (oS (some v10) fun a => oS (some v13) fun b => Cl.get (aBin E .gtr 3 (.tmp 10) (.tmp 13)) a b) (M.pure undef))) fun v14 =>
  M.bind (M.on (some v9) fun a => M.on (some (.bool true)) fun b => M.on (some v14) fun c => kPick a b c) fun v15 =>
  setF 15 v15 tm fun tm1 =>
  M.pure tm1
theorem QE_ : RegEq 71 45 BW_ FU_ Kk_ := ⟨by kernel_rfl, fun _ _ _ _ _ _ _ _ _ => by kernel_rfl⟩
theorem PD_ : condX Dc_ = some 15 := by kernel_rfl
def Qw_ (E : Env) (call round : CallT) (tm : T Value) : M (T Value) :=
  mv (some (.int .i64 0)) fun v4 =>
  setF 4 v4 tm fun tm1 =>
  mv (some (.bool false)) fun v5 =>
  setF 5 v5 tm1 fun tm2 =>
  M.pure tm2
theorem Acy_ : RegEq 71 45 BW_ Gn_ Qw_ := ⟨by kernel_rfl, fun _ _ _ _ _ _ _ _ _ => by kernel_rfl⟩
def QX_ (E : Env) (call round : CallT) (tm : T Value) : M ((Rho × T Value) × List OpLog) :=
  M.bind (apartO (oS (T.get tm 0) fun a => M.pure a)) fun p0 =>
  M.bind (apartO (oS (T.get tm 1) fun a => M.pure a)) fun p1 =>
  M.bind (apartO (oS (some p0.1) fun a => oS (some p1.1) fun b => kIdxA E 22 a b)) fun p2 =>
  M.bind (apartO (oS (some p2.1) fun a => kLoad E 5 a)) fun p3 =>
  M.bind (apartO (oS (some p3.1) fun a => kConvB E 5 3 a)) fun p4 =>
  M.bind (apartO (oS (some p4.1) fun a => oS (some (.int .u64 8)) fun b => Cl.get (aBin E .shl 3 (.tmp 20) (.const (.int .u64 8))) a b)) fun p5 =>
  M.bind (apartO (oS (T.get tm 0) fun a => M.pure a)) fun p6 =>
  M.bind (apartO (oS (T.get tm 1) fun a => M.pure a)) fun p7 =>
  M.bind (apartO (oS (some p7.1) fun a => oS (some (.int .i64 1)) fun b => Cl.get (aBin E .add 3 (.tmp 23) (.const (.int .i64 1))) a b)) fun p8 =>
  M.bind (apartO (oS (some p6.1) fun a => oS (some p8.1) fun b => kIdxA E 22 a b)) fun p9 =>
  M.bind (apartO (oS (some p9.1) fun a => kLoad E 5 a)) fun p10 =>
  M.bind (apartO (oS (some p10.1) fun a => kConvB E 5 3 a)) fun p11 =>
  M.bind (apartO (oS (some p5.1) fun a => oS (some p11.1) fun b => Cl.get (aBin E .or 3 (.tmp 21) (.tmp 27)) a b)) fun p12 =>
  M.pure (([p12.1, p11.1, p10.1, p9.1, p8.1, p7.1, p6.1, p5.1, p4.1, p3.1, p2.1, p1.1, p0.1], tm), [p12.2, p11.2, p10.2, p9.2, p8.2, p7.2, p6.2, p5.2, p4.2, p3.2, p2.2, p1.2, p0.2])
theorem AcU_ : DrawEq 71 45 BW_ Eg_ [0, 0, 3, 7, 15, 31, 0, 0, 128, 448, 960, 1984, 4095, 8191] QX_ := ⟨by kernel_rfl, by kernel_rfl, fun _ _ _ _ _ _ _ _ _ => by kernel_rfl⟩
theorem AcR_ (E : Env) (call round : CallT) (x16 x17 x18 x19 x20 x21 x22 x23 x24 x25 x26 x27 x28 : Value) (tm : T Value) (s : St) : opsIn call round (lastOps E BW_ 45 (hdC Eg_)) [x28, x27, x26, x25, x24, x23, x22, x21, x20, x19, x18, x17, x16] tm s = (M.bind (oS (some x28) fun a => M.pure a) fun v6 => setT 6 v6 tm fun tm1 => M.pure tm1) s := by kernel_rfl
theorem Acb_ : ∃ k, IY_ = .code .ret :: k := ⟨IY_.tail, by kernel_rfl⟩
def RE_ (E : Env) (call round : CallT) (tm : T Value) : M ((Rho × T Value) × List OpLog) :=
  M.bind (apartO (oS (T.get tm 6) fun a => M.pure a)) fun p0 =>
  M.bind (apartO (oS (T.get tm 6) fun a => M.pure a)) fun p1 =>
  M.bind (apartO (M.on (some (.func (.func 20) #[] #[])) fun f => M.on (seqO [(some p1.1)]) fun l => callV call round f l)) fun p2 =>
  M.bind (apartO (oS (some p2.1) fun a => oS (some (.int .i64 0)) fun b => Cl.get (aBin E .gtr 3 (.tmp 31) (.const (.int .i64 0))) a b)) fun p3 =>
  M.bind (apartO (oS (some p3.1) fun a => M.pure a)) fun p4 =>
  M.bind (apartO (M.chk (isK p4.1) (M.if (isB p4.1 true) (oS (T.get tm 0) fun a => M.pure a) (M.pure undef)))) fun p5 =>
  M.bind (apartO (M.chk (isK p4.1) (M.if (isB p4.1 true) (oS (T.get tm 1) fun a => M.pure a) (M.pure undef)))) fun p6 =>
  M.bind (apartO (M.chk (isK p4.1) (M.if (isB p4.1 true) (oS (T.get tm 1) fun a => M.pure a) (M.pure undef)))) fun p7 =>
  M.bind (apartO (M.chk (isK p4.1) (M.if (isB p4.1 true) (oS (some p7.1) fun a => oS (some (.int .i64 6)) fun b => Cl.get (aBin E .add 3 (.tmp 36) (.const (.int .i64 6))) a b) (M.pure undef)))) fun p8 =>
  M.bind (apartO (M.chk (isK p4.1) (M.if (isB p4.1 true) (M.on (some p5.1) fun a => M.on (onO (some p6.1) fun v => some (some v)) fun b => M.on (onO (some p8.1) fun v => some (some v)) fun c => aSlice E 22 a b c) (M.pure undef)))) fun p9 =>
  M.bind (apartO (M.chk (isK p4.1) (M.if (isB p4.1 true) (oS (some p9.1) fun a => kSlArr E 89 a) (M.pure undef)))) fun p10 =>
  M.bind (apartO (M.chk (isK p4.1) (M.if (isB p4.1 true) (oS (some p10.1) fun a => kLoad E 89 a) (M.pure undef)))) fun p11 =>
  M.bind (apartO (M.chk (isK p4.1) (M.if (isB p4.1 true) (oS (T.get tm 6) fun a => M.pure a) (M.pure undef)))) fun p12 =>
  M.bind (apartO (M.chk (isK p4.1) (M.if (isB p4.1 true) (M.on (some (.func (.func 62) #[] #[])) fun f => M.on (seqO [(some p12.1)]) fun l => callV call round f l) (M.pure undef)))) fun p13 =>
  M.bind (apartO (M.chk (isK p4.1) (M.if (isB p4.1 true) (oS (some p11.1) fun a => oS (some p13.1) fun b => Cl.get (aBin E .eql 89 (.tmp 40) (.tmp 42)) a b) (M.pure undef)))) fun p14 =>
  M.bind (apartO (M.on (some p4.1) fun a => M.on (some p14.1) fun b => M.on (some (.bool false)) fun c => kPick a b c)) fun p15 =>
  M.bind (apartO (oS (some p0.1) fun a => M.pure a)) fun p16 =>
  setT 4 p16.1 tm fun tm1 =>
  M.pure (([p16.1, p15.1, p14.1, p13.1, p12.1, p11.1, p10.1, p9.1, p8.1, p7.1, p6.1, p5.1, p4.1, p3.1, p2.1, p1.1, p0.1], tm1), [p16.2, p15.2, p14.2, p13.2, p12.2, p11.2, p10.2, p9.2, p8.2, p7.2, p6.2, p5.2, p4.2, p3.2, p2.2, p1.2, p0.2])
theorem Adn_ : DrawEq 71 45 BW_ Da_ [0, 0, 2, 6, 14, 30, 30, 30, 158, 510, 1022, 2046, 30, 4126, 16382, 32766, 12319, 131071] RE_ := ⟨by kernel_rfl, by kernel_rfl, fun _ _ _ _ _ _ _ _ _ => by kernel_rfl⟩
theorem QF_ (E : Env) (call round : CallT) (x29 x30 x31 x32 x33 x34 x35 x36 x37 x38 x39 x40 x41 x42 x43 x44 x4 : Value) (tm : T Value) (s : St) : opsIn call round (lastOps E BW_ 45 (hdC Da_)) [x4, x44, x43, x42, x41, x40, x39, x38, x37, x36, x35, x34, x33, x32, x31, x30, x29] tm s = (M.bind (oS (some x44) fun a => M.pure a) fun v5 => setT 5 v5 tm fun tm1 => M.pure tm1) s := by kernel_rfl
theorem Rn_ : ∃ k, Ji_ = .code .ret :: k := ⟨Ji_.tail, by kernel_rfl⟩
def BI_ : Nat := globOf Try.f72
abbrev Rx_ : Nat := 39
def LT_ : Code := Try.f72.body.getD .skip
theorem IV_ : envS.fn.get 72 = some Try.f72 := by kernel_rfl
theorem Afn_ {a0 a1 a2 : Value} {n : Nat} {s : St} {Q : Value → St → Prop} (h : ∀ tm, T.get tm 0 = some a0 → T.get tm 1 = some a1 → T.get tm 2 = some a2 → W (runF envS n ⟨72, 39, BI_, tm, [.code LT_], .run, .normal, none⟩) (s.cxN cxN) fun p s1 => Q p.1 (s1.cxN s.cx)) : W (callW envS (runF envS n) 72 [a0, a1, a2]) s Q :=
 W.call (by kernel_rfl) (by kernel_rfl) IV_ (by kernel_rfl) rfl rfl (by simp) (h _ (by kernel_rfl) (by kernel_rfl) (by kernel_rfl))
theorem NL_ : Try.f72.results.toList = [.cell 6 26, .tmp 7, .tmp 8] := by kernel_rfl
def Ks_ : List Item := skim 64 [.code LT_]
def Fz_ : List Item := skim 64 Ks_.tail
theorem Wq_ : skim 64 Ks_.tail = Fz_ := by kernel_rfl
def FL_ : List Item := skim 64 Fz_.tail
theorem LE_ : skim 64 Fz_.tail = FL_ := by kernel_rfl
def Dd_ : List Item := skim 64 FL_.tail
theorem Lp_ : skim 64 FL_.tail = Dd_ := by kernel_rfl
def Gd_ : List Item := skim 64 (brT Dd_)
theorem XE_ : skim 64 (brT Dd_) = Gd_ := by kernel_rfl
def FE_ : List Item := skim 64 (brF Dd_)
theorem XC_ : skim 64 (brF Dd_) = FE_ := by kernel_rfl
def JW_ : List Item := skim 64 Gd_.tail
theorem WO_ : skim 64 Gd_.tail = JW_ := by kernel_rfl
def CR_ : List Item := skim 64 FE_.tail
theorem Xe_ : skim 64 FE_.tail = CR_ := by kernel_rfl
def Gg_ : List Item := skim 64 CR_.tail
theorem Xg_ : skim 64 CR_.tail = Gg_ := by kernel_rfl
def Qa_ (E : Env) (call round : CallT) (tm : T Value) : M (T Value) :=
  M.bind (kAlloc E 26) fun v6 =>
  setF 6 v6 tm fun tm1 =>
  mv (some (.slice none 0 0)) fun v7 =>
  setF 7 v7 tm1 fun tm2 =>
  mv (some (.bool false)) fun v8 =>
  setF 8 v8 tm2 fun tm3 =>
  M.pure tm3
theorem AdQ_ : RegEq 72 39 BI_ Ks_ Qa_ := ⟨by kernel_rfl, fun _ _ _ _ _ _ _ _ _ => by kernel_rfl⟩
def Rz_ (E : Env) (call round : CallT) (tm : T Value) : M (T Value) :=
  mv (T.get tm 0) fun v13 =>
  mv (T.get tm 1) fun v14 =>
  M.bind (oS (some v14) fun a => oS (some (.int .i64 6)) fun b => Cl.get (aBin E .add 3 (.tmp 14) (.const (.int .i64 6))) a b) fun v15 =>
  mv (T.get tm 1) fun v16 =>
  mv (T.get tm 2) fun v17 =>
  M.bind (M.on (some (.func (.func 20) #[] #[])) fun f => M.on (seqO [(some v17)]) fun l => callV call round f l) fun v18 =>
  M.bind (oS (some v16) fun a => oS (some v18) fun b => Cl.get (aBin E .add 3 (.tmp 16) (.tmp 18)) a b) fun v19 =>
  M.bind (M.on (some v13) fun a => M.on (onO (some v15) fun v => some (some v)) fun b => M.on (onO (some v19) fun v => some (some v)) fun c => aSlice E 22 a b c) fun v20 =>
  M.bind (M.on (some (.func (.func 81) #[] #[])) fun f => M.on (seqO [(some v20)]) fun l => callV call round f l) fun v21 =>
  mv (some v21) fun v12 =>
  M.bind (oS (some v12) fun a => kExt 0 a) fun v22 =>
  M.bind (oS (some v12) fun a => kExt 1 a) fun v23 =>
  mv (some v22) fun v9 =>
  setF 9 v9 tm fun tm1 =>
  mv (some v23) fun v10 =>
  setF 10 v10 tm1 fun tm2 =>
  M.pure tm2
theorem Adp_ : RegEq 72 39 BI_ Fz_ Rz_ := ⟨by kernel_rfl, fun _ _ _ _ _ _ _ _ _ => by kernel_rfl⟩
def Jo_ (E : Env) (call round : CallT) (tm : T Value) : M (T Value) :=
  mv (T.get tm 10) fun v24 =>
  M.bind (oS (some v24) fun a => oS (some (.int .i64 0)) fun b => Cl.get (aBin E .neq 27 (.tmp 24) (.const (.int .i64 0))) a b) fun v25 =>
  setF 25 v25 tm fun tm1 =>
  M.pure tm1
theorem RI_ : RegEq 72 39 BI_ FL_ Jo_ := ⟨by kernel_rfl, fun _ _ _ _ _ _ _ _ _ => by kernel_rfl⟩
theorem Qy_ : condX Dd_ = some 25 := by kernel_rfl
def Ri_ (E : Env) (call round : CallT) (tm : T Value) : M (T Value) :=
  M.bind (oS (seqP []) fun ps => aBuild E 26 ps) fun v26 =>
  M.bind (oS (T.get tm 6) fun a => oS (some v26) fun b => kStore E 26 a b) fun _ =>
  mv (some (.slice none 0 0)) fun v7 =>
  setF 7 v7 tm fun tm1 =>
  mv (some (.bool false)) fun v8 =>
  setF 8 v8 tm1 fun tm2 =>
  M.pure tm2
theorem Aem_ : RegEq 72 39 BI_ Gd_ Ri_ := ⟨by kernel_rfl, fun _ _ _ _ _ _ _ _ _ => by kernel_rfl⟩
def QB_ (E : Env) (call round : CallT) (tm : T Value) : M (T Value) :=
  mv (T.get tm 9) fun v27 =>
  M.bind (M.on (some v27) fun a => M.on (some none) fun b => M.on (onO (some (.int .i64 16)) fun v => some (some v)) fun c => aSlice E 22 a b c) fun v28 =>
  M.bind (oS (some v28) fun a => kSlArr E 26 a) fun v29 =>
  M.bind (oS (some v29) fun a => kLoad E 26 a) fun v30 =>
  M.bind (kAlloc E 26) fun v11 =>
  setF 11 v11 tm fun tm1 =>
  M.bind (oS (some v11) fun a => oS (some v30) fun b => kStore E 26 a b) fun _ =>
  M.pure tm1
theorem AcG_ : RegEq 72 39 BI_ FE_ QB_ := ⟨by kernel_rfl, fun _ _ _ _ _ _ _ _ _ => by kernel_rfl⟩
theorem AcY_ : ∃ k, JW_ = .code .ret :: k := ⟨JW_.tail, by kernel_rfl⟩
def Qr_ (E : Env) (call round : CallT) (tm : T Value) : M ((Rho × T Value) × List OpLog) :=
  M.bind (apartO (oS (T.get tm 11) fun a => kLoad E 26 a)) fun p0 =>
  M.bind (apartO (oS (T.get tm 9) fun a => M.pure a)) fun p1 =>
  M.bind (apartO (M.on (some p1.1) fun a => M.on (onO (some (.int .i64 16)) fun v => some (some v)) fun b => M.on (some none) fun c => aSlice E 22 a b c)) fun p2 =>
  M.bind (apartO (oS (T.get tm 9) fun a => M.pure a)) fun p3 =>
  M.bind (apartO (M.on (some p3.1) fun a => M.on (onO (some (.int .i64 16)) fun v => some (some v)) fun b => M.on (some none) fun c => aSlice E 22 a b c)) fun p4 =>
  M.bind (apartO (M.on (some (.func (.func 32) #[] #[])) fun f => M.on (seqO [(some p4.1)]) fun l => callV call round f l)) fun p5 =>
  M.bind (apartO (oS (T.get tm 11) fun a => kLoad E 26 a)) fun p6 =>
  M.bind (apartO (oS (some p5.1) fun a => oS (some p6.1) fun b => Cl.get (aBin E .eql 26 (.tmp 36) (.tmp 37)) a b)) fun p7 =>
  M.bind (apartO (oS (T.get tm 6) fun a => oS (some p0.1) fun b => kStore E 26 a b)) fun p8 =>
  M.bind (apartO (oS (some p2.1) fun a => M.pure a)) fun p9 =>
  setT 7 p9.1 tm fun tm1 =>
  M.pure (([p9.1, p7.1, p6.1, p5.1, p4.1, p3.1, p2.1, p1.1, p0.1], tm1), [p9.2, p8.2, p7.2, p6.2, p5.2, p4.2, p3.2, p2.2, p1.2, p0.2])
theorem AbK_ : DrawEq 72 39 BI_ CR_ [0, 0, 2, 0, 8, 24, 0, 120, 57, 319, 1023] Qr_ := ⟨by kernel_rfl, by kernel_rfl, fun _ _ _ _ _ _ _ _ _ => by kernel_rfl⟩
theorem Aby_ (E : Env) (call round : CallT) (x31 x32 x33 x34 x35 x36 x37 x38 x7 : Value) (tm : T Value) (s : St) : opsIn call round (lastOps E BI_ 39 (hdC CR_)) [x7, x38, x37, x36, x35, x34, x33, x32, x31] tm s = (M.bind (oS (some x38) fun a => M.pure a) fun v8 => setT 8 v8 tm fun tm1 => M.pure tm1) s := by kernel_rfl
theorem Abm_ : ∃ k, Gg_ = .code .ret :: k := ⟨Gg_.tail, by kernel_rfl⟩
def BN_ : Nat := globOf Try.f17
abbrev Afw_ : Nat := 31
def Nl_ : Code := Try.f17.body.getD .skip
theorem MW_ : envS.fn.get 17 = some Try.f17 := by kernel_rfl
theorem Aji_ {a0 : Value} {n : Nat} {s : St} {Q : Value → St → Prop} (h : ∀ tm, T.get tm 0 = some a0 → W (runF envS n ⟨17, 31, BN_, tm, [.code Nl_], .run, .normal, none⟩) (s.cxN cxN) fun p s1 => Q p.1 (s1.cxN s.cx)) : W (callW envS (runF envS n) 17 [a0]) s Q :=
 W.call (by kernel_rfl) (by kernel_rfl) MW_ (by kernel_rfl) rfl rfl (by simp) (h _ (by kernel_rfl))
theorem Rj_ : Try.f17.results.toList = [.tmp 2, .cell 3 26, .tmp 4] := by kernel_rfl
def ME_ : List Item := skim 64 [.code Nl_]
def HE_ : List Item := skim 64 ME_.tail
theorem Aae_ : skim 64 ME_.tail = HE_ := by kernel_rfl
def DD_ : List Item := skim 64 HE_.tail
theorem Ns_ : skim 64 HE_.tail = DD_ := by kernel_rfl
def HY_ : List Item := skim 64 (brT DD_)
theorem YU_ : skim 64 (brT DD_) = HY_ := by kernel_rfl
def Hp_ : List Item := skim 64 (brF DD_)
theorem ZR_ : skim 64 (brF DD_) = Hp_ := by kernel_rfl
def ET_ : List Item := skim 64 HY_.tail
theorem ZS_ : skim 64 HY_.tail = ET_ := by kernel_rfl
def DH_ : List Item := skim 64 Hp_.tail
theorem OB_ : skim 64 Hp_.tail = DH_ := by kernel_rfl
def MF_ : List Item := skim 64 (brT DH_)
theorem Aav_ : skim 64 (brT DH_) = MF_ := by kernel_rfl
def Is_ : List Item := skim 64 (brF DH_)
theorem Aac_ : skim 64 (brF DH_) = Is_ := by kernel_rfl
theorem Zt_ : skim 64 MF_.tail = ET_ := by kernel_rfl
def DM_ : List Item := skim 64 Is_.tail
theorem YQ_ : skim 64 Is_.tail = DM_ := by kernel_rfl
def Jn_ : List Item := skim 64 DM_.tail
theorem Xn_ : skim 64 DM_.tail = Jn_ := by kernel_rfl
def Tc_ (E : Env) (call round : CallT) (tm : T Value) : M (T Value) :=
  mv (some (.slice none 0 0)) fun v2 =>
  setF 2 v2 tm fun tm1 =>
  M.bind (kAlloc E 26) fun v3 =>
  setF 3 v3 tm1 fun tm2 =>
  mv (some (.int .i64 0)) fun v4 =>
  setF 4 v4 tm2 fun tm3 =>
  M.pure tm3
theorem AeF_ : RegEq 17 31 BN_ ME_ Tc_ := ⟨by kernel_rfl, fun _ _ _ _ _ _ _ _ _ => by kernel_rfl⟩
def Uh_ (E : Env) (call round : CallT) (tm : T Value) : M (T Value) :=
  mv (T.get tm 0) fun v8 =>
  M.bind (oS (seqO [(some v8)]) fun l => aBuiltin E .len [22] l) fun v9 =>
  M.bind (oS (some v9) fun a => oS (some (.int .i64 0)) fun b => Cl.get (aBin E .eql 3 (.tmp 9) (.const (.int .i64 0))) a b) fun v10 =>
  mv (some v10) fun v7 =>
  setF 7 v7 tm fun tm1 =>
  M.pure tm1
theorem Afj_ : RegEq 17 31 BN_ HE_ Uh_ := ⟨by kernel_rfl, fun _ _ _ _ _ _ _ _ _ => by kernel_rfl⟩
theorem VP_ : condX DD_ = some 7 := by kernel_rfl
def Tn_ (E : Env) (call round : CallT) (tm : T Value) : M (T Value) :=
  M.bind (oS (seqP []) fun ps => aBuild E 26 ps) fun v11 =>
  mv (some (.slice none 0 0)) fun v2 =>
  setF 2 v2 tm fun tm1 =>
  M.bind (oS (T.get tm1 3) fun a => oS (some v11) fun b => kStore E 26 a b) fun _ =>
  mv (some (.int .i64 2)) fun v4 =>
  setF 4 v4 tm1 fun tm2 =>
  M.pure tm2
theorem Aez_ : RegEq 17 31 BN_ HY_ Tn_ := ⟨by kernel_rfl, fun _ _ _ _ _ _ _ _ _ => by kernel_rfl⟩
def TY_ (E : Env) (call round : CallT) (tm : T Value) : M (T Value) :=
  mv (T.get tm 0) fun v13 =>
  M.bind (oS (seqO [(some v13)]) fun l => aBuiltin E .len [22] l) fun v14 =>
  M.bind (oS (some v14) fun a => oS (some (.int .i64 1024)) fun b => Cl.get (aBin E .gtr 3 (.tmp 14) (.const (.int .i64 1024))) a b) fun v15 =>
  mv (some v15) fun v12 =>
  setF 12 v12 tm fun tm1 =>
  M.pure tm1
theorem Afm_ : RegEq 17 31 BN_ Hp_ TY_ := ⟨by kernel_rfl, fun _ _ _ _ _ _ _ _ _ => by kernel_rfl⟩
theorem AeK_ : ∃ k, ET_ = .code .ret :: k := ⟨ET_.tail, by kernel_rfl⟩
theorem TQ_ : condX DH_ = some 12 := by kernel_rfl
def Vf_ (E : Env) (call round : CallT) (tm : T Value) : M (T Value) :=
  M.bind (oS (seqP []) fun ps => aBuild E 26 ps) fun v16 =>
  mv (some (.slice none 0 0)) fun v2 =>
  setF 2 v2 tm fun tm1 =>
  M.bind (oS (T.get tm1 3) fun a => oS (some v16) fun b => kStore E 26 a b) fun _ =>
  mv (some (.int .i64 3)) fun v4 =>
  setF 4 v4 tm1 fun tm2 =>
  M.pure tm2
theorem AeH_ : RegEq 17 31 BN_ MF_ Vf_ := ⟨by kernel_rfl, fun _ _ _ _ _ _ _ _ _ => by kernel_rfl⟩
def UB_ (E : Env) (call round : CallT) (tm : T Value) : M (T Value) :=
  mv (T.get tm 0) fun v17 =>
  M.bind (oS (seqO [(some v17)]) fun l => aBuiltin E .len [22] l) fun v18 =>
  M.bind (M.on (some (.func (.func 62) #[] #[])) fun f => M.on (seqO [(some v18)]) fun l => callV call round f l) fun v19 =>
  mv (T.get tm 0) fun v20 =>
  M.bind (M.on (some (.func (.func 32) #[] #[])) fun f => M.on (seqO [(some v20)]) fun l => callV call round f l) fun v21 =>
  M.bind (kAlloc E 89) fun v5 =>
  setF 5 v5 tm fun tm1 =>
  M.bind (kAlloc E 26) fun v6 =>
  setF 6 v6 tm1 fun tm2 =>
  M.bind (oS (some v5) fun a => oS (some v19) fun b => kStore E 89 a b) fun _ =>
  M.bind (oS (some v6) fun a => oS (some v21) fun b => kStore E 26 a b) fun _ =>
  M.pure tm2
theorem AfT_ : RegEq 17 31 BN_ Is_ UB_ := ⟨by kernel_rfl, fun _ _ _ _ _ _ _ _ _ => by kernel_rfl⟩
def SV_ (E : Env) (call round : CallT) (tm : T Value) : M ((Rho × T Value) × List OpLog) :=
  M.bind (apartO (M.on (T.get tm 5) fun a => M.on (some none) fun b => M.on (some none) fun c => aSlice E 89 a b c)) fun p0 =>
  M.bind (apartO (M.on (T.get tm 6) fun a => M.on (some none) fun b => M.on (some none) fun c => aSlice E 26 a b c)) fun p1 =>
  M.bind (apartO (oS (T.get tm 0) fun a => M.pure a)) fun p2 =>
  M.bind (apartO (oS (seqP [(0, (some p1.1)), (1, (some p2.1))]) fun ps => aBuildS E 43 2 ps)) fun p3 =>
  M.bind (apartO (M.on (some (.func (.func 63) #[] #[])) fun f => M.on (seqO [(some p3.1)]) fun l => callV call round f l)) fun p4 =>
  M.bind (apartO (M.on (some (.func (.func 64) #[] #[])) fun f => M.on (seqO [(some p4.1)]) fun l => callV call round f l)) fun p5 =>
  M.bind (apartO (oS (seqP [(0, (some p0.1)), (1, (some p5.1))]) fun ps => aBuildS E 43 2 ps)) fun p6 =>
  M.bind (apartO (M.on (some (.func (.func 63) #[] #[])) fun f => M.on (seqO [(some p6.1)]) fun l => callV call round f l)) fun p7 =>
  M.bind (apartO (oS (T.get tm 6) fun a => kLoad E 26 a)) fun p8 =>
  M.bind (apartO (oS (some p7.1) fun a => M.pure a)) fun p9 =>
  setT 2 p9.1 tm fun tm1 =>
  M.bind (apartO (oS (T.get tm1 3) fun a => oS (some p8.1) fun b => kStore E 26 a b)) fun p10 =>
  M.pure (([p9.1, p8.1, p7.1, p6.1, p5.1, p4.1, p3.1, p2.1, p1.1, p0.1], tm1), [p10.2, p9.2, p8.2, p7.2, p6.2, p5.2, p4.2, p3.2, p2.2, p1.2, p0.2])
theorem AfK_ : DrawEq 17 31 BN_ DM_ [0, 0, 0, 6, 14, 30, 63, 127, 0, 255, 1023, 2047] SV_ := ⟨by kernel_rfl, by kernel_rfl, fun _ _ _ _ _ _ _ _ _ => by kernel_rfl⟩
theorem AeB_ (E : Env) (call round : CallT) (x22 x23 x24 x25 x26 x27 x28 x29 x30 x2 : Value) (tm : T Value) (s : St) : opsIn call round (lastOps E BN_ 31 (hdC DM_)) [x2, x30, x29, x28, x27, x26, x25, x24, x23, x22] tm s = (M.bind (oS (some (.int .i64 0)) fun a => M.pure a) fun v4 => setT 4 v4 tm fun tm1 => M.pure tm1) s := by kernel_rfl
theorem Abq_ : ∃ k, Jn_ = .code .ret :: k := ⟨Jn_.tail, by kernel_rfl⟩
def Bq_ : Nat := globOf Try.f27
abbrev HR_ : Nat := 54
def Od_ : Code := Try.f27.body.getD .skip
theorem HD_ : envS.fn.get 27 = some Try.f27 := by kernel_rfl
theorem Ajs_ {a0 a1 : Value} {n : Nat} {s : St} {Q : Value → St → Prop} (h : ∀ tm, T.get tm 0 = some a0 → T.get tm 1 = some a1 → W (runF envS n ⟨27, 54, Bq_, tm, [.code Od_], .run, .normal, none⟩) (s.cxN cxN) fun p s1 => Q p.1 (s1.cxN s.cx)) : W (callW envS (runF envS n) 27 [a0, a1]) s Q :=
 W.call (by kernel_rfl) (by kernel_rfl) HD_ (by kernel_rfl) rfl rfl (by simp) (h _ (by kernel_rfl) (by kernel_rfl))
theorem JG_ : Try.f27.results.toList = [.tmp 4, .tmp 5] := by kernel_rfl
def Nd_ : List Item := skim 64 [.code Od_]
def Ik_ : List Item := skim 64 Nd_.tail
theorem AaG_ : skim 64 Nd_.tail = Ik_ := by kernel_rfl
def DE_ : List Item := skim 64 Ik_.tail
theorem AaD_ : skim 64 Ik_.tail = DE_ := by kernel_rfl
def CJ_ : List Item := skim 64 DE_.tail
theorem HQ_ : skim 64 DE_.tail = CJ_ := by kernel_rfl
def HK_ : List Item := skim 64 (brT CJ_)
theorem Zo_ : skim 64 (brT CJ_) = HK_ := by kernel_rfl
def Fm_ : List Item := skim 64 (brF CJ_)
theorem Zg_ : skim 64 (brF CJ_) = Fm_ := by kernel_rfl
def Na_ : List Item := skim 64 HK_.tail
theorem Zj_ : skim 64 HK_.tail = Na_ := by kernel_rfl
def Ip_ : List Item := skim 64 Fm_.tail
theorem ZX_ : skim 64 Fm_.tail = Ip_ := by kernel_rfl
def CL_ : List Item := skim 64 Ip_.tail
theorem OQ_ : skim 64 Ip_.tail = CL_ := by kernel_rfl
def Hu_ : List Item := skim 64 (brT CL_)
theorem Aaz_ : skim 64 (brT CL_) = Hu_ := by kernel_rfl
def Gi_ : List Item := skim 64 (brF CL_)
theorem Xm_ : skim 64 (brF CL_) = Gi_ := by kernel_rfl
def JM_ : List Item := skim 64 Hu_.tail
theorem VT_ : skim 64 Hu_.tail = JM_ := by kernel_rfl
def Ka_ : List Item := skim 64 Gi_.tail
theorem Ti_ : skim 64 Gi_.tail = Ka_ := by kernel_rfl
def UN_ (E : Env) (call round : CallT) (tm : T Value) : M (T Value) :=
  M.bind (oS (T.get tm 1) fun a => kBox a) fun v3 =>
  setF 3 v3 tm fun tm1 =>
  mv (some (.slice none 0 0)) fun v4 =>
  setF 4 v4 tm1 fun tm2 =>
  mv (some (.int .i64 0)) fun v5 =>
  setF 5 v5 tm2 fun tm3 =>
  M.pure tm3
theorem Aeo_ : RegEq 27 54 Bq_ Nd_ UN_ := ⟨by kernel_rfl, fun _ _ _ _ _ _ _ _ _ => by kernel_rfl⟩
def UW_ (E : Env) (call round : CallT) (tm : T Value) : M (T Value) :=
  mv (T.get tm 0) fun v12 =>
  M.bind (oS (T.get tm 3) fun a => kFld E 35 a 1) fun v13 =>
  M.bind (oS (some v13) fun a => kLoad E 3 a) fun v14 =>
  M.bind (M.on (some (.func (.func 71) #[] #[])) fun f => M.on (seqO [(some v12), (some v14)]) fun l => callV call round f l) fun v15 =>
  mv (some v15) fun v11 =>
  M.bind (oS (some v11) fun a => kExt 0 a) fun v16 =>
  M.bind (oS (some v11) fun a => kExt 1 a) fun v17 =>
  mv (some v16) fun v6 =>
  setF 6 v6 tm fun tm1 =>
  mv (some v17) fun v7 =>
  setF 7 v7 tm1 fun tm2 =>
  M.pure tm2
theorem Afb_ : RegEq 27 54 Bq_ Ik_ UW_ := ⟨by kernel_rfl, fun _ _ _ _ _ _ _ _ _ => by kernel_rfl⟩
def MC_ (E : Env) (call round : CallT) (tm : T Value) : M ((Rho × T Value) × List OpLog) :=
  M.bind (apartO (oS (T.get tm 7) fun a => M.pure a)) fun p0 =>
  M.bind (apartO (oS (some p0.1) fun a => kUn E.P .not a)) fun p1 =>
  M.bind (apartO (oS (some p1.1) fun a => M.pure a)) fun p2 =>
  M.bind (apartO (M.chk (isK p2.1) (M.if (isB p2.1 false) (oS (T.get tm 6) fun a => M.pure a) (M.pure undef)))) fun p3 =>
  M.bind (apartO (M.chk (isK p2.1) (M.if (isB p2.1 false) (oS (T.get tm 3) fun a => kFld E 35 a 2) (M.pure undef)))) fun p4 =>
  M.bind (apartO (M.chk (isK p2.1) (M.if (isB p2.1 false) (oS (some p4.1) fun a => kLoad E 3 a) (M.pure undef)))) fun p5 =>
  M.bind (apartO (M.chk (isK p2.1) (M.if (isB p2.1 false) (oS (some p3.1) fun a => oS (some p5.1) fun b => Cl.get (aBin E .neq 3 (.tmp 21) (.tmp 23)) a b) (M.pure undef)))) fun p6 =>
  M.bind (apartO (M.on (some p2.1) fun a => M.on (some (.bool true)) fun b => M.on (some p6.1) fun c => kPick a b c)) fun p7 =>
  M.bind (apartO (oS (some p7.1) fun a => M.pure a)) fun p8 =>
  M.bind (apartO (M.chk (isK p8.1) (M.if (isB p8.1 false) (oS (T.get tm 0) fun a => M.pure a) (M.pure undef)))) fun p9 =>
  M.bind (apartO (M.chk (isK p8.1) (M.if (isB p8.1 false) (oS (seqO [(some p9.1)]) fun l => aBuiltin E .len [22] l) (M.pure undef)))) fun p10 =>
  M.bind (apartO (M.chk (isK p8.1) (M.if (isB p8.1 false) (oS (T.get tm 3) fun a => kFld E 35 a 1) (M.pure undef)))) fun p11 =>
  M.bind (apartO (M.chk (isK p8.1) (M.if (isB p8.1 false) (oS (some p11.1) fun a => kLoad E 3 a) (M.pure undef)))) fun p12 =>
  M.bind (apartO (M.chk (isK p8.1) (M.if (isB p8.1 false) (oS (some p10.1) fun a => oS (some p12.1) fun b => Cl.get (aBin E .sub 3 (.tmp 28) (.tmp 30)) a b) (M.pure undef)))) fun p13 =>
  M.bind (apartO (M.chk (isK p8.1) (M.if (isB p8.1 false) (oS (T.get tm 6) fun a => M.pure a) (M.pure undef)))) fun p14 =>
  M.bind (apartO (M.chk (isK p8.1) (M.if (isB p8.1 false) (M.on (some (.func (.func 20) #[] #[])) fun f => M.on (seqO [(some p14.1)]) fun l => callV call round f l) (M.pure undef)))) fun p15 =>
  M.bind (apartO (M.chk (isK p8.1) (M.if (isB p8.1 false) (oS (some p13.1) fun a => oS (some p15.1) fun b => Cl.get (aBin E .lss 3 (.tmp 31) (.tmp 33)) a b) (M.pure undef)))) fun p16 =>
  M.pure (([p16.1, p15.1, p14.1, p13.1, p12.1, p11.1, p10.1, p9.1, p8.1, p7.1, p6.1, p5.1, p4.1, p3.1, p2.1, p1.1, p0.1], tm), [p16.2, p15.2, p14.2, p13.2, p12.2, p11.2, p10.2, p9.2, p8.2, p7.2, p6.2, p5.2, p4.2, p3.2, p2.2, p1.2, p0.2])
theorem Agg_ : DrawEq 27 54 Bq_ DE_ [0, 1, 3, 7, 7, 23, 63, 127, 255, 511, 1023, 511, 2559, 8191, 511, 16895, 65535, 131071] MC_ := ⟨by kernel_rfl, by kernel_rfl, fun _ _ _ _ _ _ _ _ _ => by kernel_rfl⟩
theorem MV_ (E : Env) (call round : CallT) (x18 x19 x20 x21 x22 x23 x24 x25 x26 x27 x28 x29 x30 x31 x32 x33 x34 : Value) (tm : T Value) (s : St) : opsIn call round (lastOps E Bq_ 54 (hdC DE_)) [x34, x33, x32, x31, x30, x29, x28, x27, x26, x25, x24, x23, x22, x21, x20, x19, x18] tm s = (M.bind (M.on (some x26) fun a => M.on (some (.bool true)) fun b => M.on (some x34) fun c => kPick a b c) fun v35 => setT 35 v35 tm fun tm1 => M.pure tm1) s := by kernel_rfl
theorem Vj_ : condX CJ_ = some 35 := by kernel_rfl
def UD_ (E : Env) (call round : CallT) (tm : T Value) : M (T Value) :=
  mv (some (.slice none 0 0)) fun v4 =>
  setF 4 v4 tm fun tm1 =>
  mv (some (.int .i64 6)) fun v5 =>
  setF 5 v5 tm1 fun tm2 =>
  M.pure tm2
theorem Agf_ : RegEq 27 54 Bq_ HK_ UD_ := ⟨by kernel_rfl, fun _ _ _ _ _ _ _ _ _ => by kernel_rfl⟩
def Tz_ (E : Env) (call round : CallT) (tm : T Value) : M (T Value) :=
  mv (T.get tm 0) fun v37 =>
  M.bind (oS (T.get tm 3) fun a => kFld E 35 a 1) fun v38 =>
  M.bind (oS (some v38) fun a => kLoad E 3 a) fun v39 =>
  mv (T.get tm 6) fun v40 =>
  M.bind (M.on (some (.func (.func 72) #[] #[])) fun f => M.on (seqO [(some v37), (some v39), (some v40)]) fun l => callV call round f l) fun v41 =>
  mv (some v41) fun v36 =>
  M.bind (oS (some v36) fun a => kExt 0 a) fun v42 =>
  M.bind (oS (some v36) fun a => kExt 1 a) fun v43 =>
  M.bind (oS (some v36) fun a => kExt 2 a) fun v44 =>
  M.bind (kAlloc E 26) fun v8 =>
  setF 8 v8 tm fun tm1 =>
  M.bind (oS (some v8) fun a => oS (some v42) fun b => kStore E 26 a b) fun _ =>
  mv (some v43) fun v9 =>
  setF 9 v9 tm1 fun tm2 =>
  mv (some v44) fun v10 =>
  setF 10 v10 tm2 fun tm3 =>
  M.pure tm3
theorem AfO_ : RegEq 27 54 Bq_ Fm_ Tz_ := ⟨by kernel_rfl, fun _ _ _ _ _ _ _ _ _ => by kernel_rfl⟩
theorem Agq_ : ∃ k, Na_ = .code .ret :: k := ⟨Na_.tail, by kernel_rfl⟩
def MO_ (E : Env) (call round : CallT) (tm : T Value) : M (T Value) :=
  mv (T.get tm 10) fun v45 =>
  M.bind (oS (some v45) fun a => kUn E.P .not a) fun v46 =>
  mv (some v46) fun v47 =>
  M.bind (M.chk (isK v47) (M.if (isB v47 false) (oS (T.get tm 8) fun a => kLoad E 26 a) (M.pure undef))) fun v48 =>
  M.bind (M.chk (isK v47) (M.if (isB v47 false) (oS (T.get tm 3) fun a => kFld E 35 a 0) (M.pure undef))) fun v49 =>
  M.bind (M.chk (isK v47) (M.if (isB v47 false) (oS (some v49) fun a => kLoad E 26 a) (M.pure undef))) fun v50 =>
  M.bind (M.chk (isK v47) (M.if (isB v47 false) (oS (some v48) fun a => oS (some v50) fun b => Cl.get (aBin E .neq 26 (.tmp 48) (.tmp 50)) a b) (M.pure undef))) fun v51 =>
  M.bind (M.on (some v47) fun a => M.on (some (.bool true)) fun b => M.on (some v51) fun c => kPick a b c) fun v52 =>
  setF 52 v52 tm fun tm1 =>
  M.pure tm1
theorem AfH_ : RegEq 27 54 Bq_ Ip_ MO_ := ⟨by kernel_rfl, fun _ _ _ _ _ _ _ _ _ => by kernel_rfl⟩
theorem Ui_ : condX CL_ = some 52 := by kernel_rfl
def TB_ (E : Env) (call round : CallT) (tm : T Value) : M (T Value) :=
  mv (some (.slice none 0 0)) fun v4 =>
  setF 4 v4 tm fun tm1 =>
  mv (some (.int .i64 11)) fun v5 =>
  setF 5 v5 tm1 fun tm2 =>
  M.pure tm2
theorem AfN_ : RegEq 27 54 Bq_ Hu_ TB_ := ⟨by kernel_rfl, fun _ _ _ _ _ _ _ _ _ => by kernel_rfl⟩
def Qk_ (E : Env) (call round : CallT) (tm : T Value) : M (T Value) :=
  mv (T.get tm 9) fun v53 =>
  mv (some v53) fun v4 =>
  setF 4 v4 tm fun tm1 =>
  mv (some (.int .i64 0)) fun v5 =>
  setF 5 v5 tm1 fun tm2 =>
  M.pure tm2
theorem Aco_ : RegEq 27 54 Bq_ Gi_ Qk_ := ⟨by kernel_rfl, fun _ _ _ _ _ _ _ _ _ => by kernel_rfl⟩
theorem AbW_ : ∃ k, JM_ = .code .ret :: k := ⟨JM_.tail, by kernel_rfl⟩
theorem AdY_ : ∃ k, Ka_ = .code .ret :: k := ⟨Ka_.tail, by kernel_rfl⟩
def GP_ : Nat := globOf Try.f68
def Hc_ : Code := Try.f68.body.getD .skip
theorem Kr_ : envS.fn.get 68 = some Try.f68 := by kernel_rfl
theorem WY_ {a0 : Value} {n : Nat} {s : St} {Q : Value → St → Prop} (h : ∀ tm, T.get tm 0 = some a0 → W (runF envS n ⟨68, 4, GP_, tm, [.code Hc_], .run, .normal, none⟩) (s.cxN cxN) fun p s1 => Q p.1 (s1.cxN s.cx)) : W (callW envS (runF envS n) 68 [a0]) s Q :=
 W.call (by kernel_rfl) (by kernel_rfl) Kr_ (by kernel_rfl) rfl rfl (by simp) (h _ (by kernel_rfl))
theorem Sc_ : Try.f68.results.toList = [.tmp 2] := by kernel_rfl
def Fj_ : List Item := skim 64 [.code Hc_]
def Dx_ : List Item := skim 64 Fj_.tail
theorem Pv_ : skim 64 Fj_.tail = Dx_ := by kernel_rfl
def Fs_ : List Item := skim 64 Dx_.tail
theorem Ph_ : skim 64 Dx_.tail = Fs_ := by kernel_rfl
def Ki_ (E : Env) (call round : CallT) (tm : T Value) : M (T Value) :=
  M.bind (oS (T.get tm 0) fun a => kBox a) fun v1 =>
  setF 1 v1 tm fun tm1 =>
  mv (some .nilFunc) fun v2 =>
  setF 2 v2 tm1 fun tm2 =>
  M.pure tm2
theorem TL_ : RegEq 68 4 GP_ Fj_ Ki_ := ⟨by kernel_rfl, fun _ _ _ _ _ _ _ _ _ => by kernel_rfl⟩
def IQ_ (E : Env) (call round : CallT) (tm : T Value) : M (T Value) :=
  M.bind (oS (seqO []) fun a => oS (seqO [(T.get tm 1)]) fun b => M.pure (.func (.func 109) a.toArray b.toArray)) fun v3 =>
  mv (some v3) fun v2 =>
  setF 2 v2 tm fun tm1 =>
  M.pure tm1
theorem Ue_ : RegEq 68 4 GP_ Dx_ IQ_ := ⟨by kernel_rfl, fun _ _ _ _ _ _ _ _ _ => by kernel_rfl⟩
theorem SY_ : ∃ k, Fs_ = .code .ret :: k := ⟨Fs_.tail, by kernel_rfl⟩
def AH_ : Nat := globOf Try.f109
abbrev Bv_ : Nat := 66
def Lw_ : Code := Try.f109.body.getD .skip
theorem QP_ : envS.fn.get 109 = some Try.f109 := by kernel_rfl
theorem Agm_ {a0 a1 : Value} {n : Nat} {s : St} {Q : Value → St → Prop} (h : ∀ tm, T.get tm 0 = some a0 → T.get tm 1 = some a1 → W (runF envS n ⟨109, 66, AH_, tm, [.code Lw_], .run, .normal, none⟩) (s.cxN cxN) fun p s1 => Q p.1 (s1.cxN s.cx)) : W (callW envS (runF envS n) 109 [a0, a1]) s Q :=
 W.call (by kernel_rfl) (by kernel_rfl) QP_ (by kernel_rfl) rfl rfl (by simp) (h _ (by kernel_rfl) (by kernel_rfl))
theorem Aag_ : Try.f109.results.toList = [] := by kernel_rfl
def Kb_ : List Item := skim 64 [.code Lw_]
def BU_ : List Item := skim 64 Kb_.tail
theorem Wt_ : skim 64 Kb_.tail = BU_ := by kernel_rfl
def FY_ : List Item := skim 64 BU_.tail
theorem Mr_ : skim 64 BU_.tail = FY_ := by kernel_rfl
def GA_ : List Item := skim 64 FY_.tail
theorem LP_ : skim 64 FY_.tail = GA_ := by kernel_rfl
def CX_ : List Item := skim 64 GA_.tail
theorem GV_ : skim 64 GA_.tail = CX_ := by kernel_rfl
def Gk_ : List Item := skim 64 (brT CX_)
theorem LO_ : skim 64 (brT CX_) = Gk_ := by kernel_rfl
def Gz_ : List Item := skim 64 (brF CX_)
theorem Wu_ : skim 64 (brF CX_) = Gz_ := by kernel_rfl
def Co_ : List Item := skim 64 Gk_.tail
theorem LX_ : skim 64 Gk_.tail = Co_ := by kernel_rfl
def Db_ : List Item := skim 64 Gz_.tail
theorem LM_ : skim 64 Gz_.tail = Db_ := by kernel_rfl
def PV_ : List Item := skim 64 Co_.tail
theorem VV_ : skim 64 Co_.tail = PV_ := by kernel_rfl
def BE_ : List Item := skim 64 (brT Db_)
theorem TZ_ : skim 64 (brT Db_) = BE_ := by kernel_rfl
def Dg_ : List Item := skim 64 (brF Db_)
theorem TO_ : skim 64 (brF Db_) = Dg_ := by kernel_rfl
def EF_ : List Item := skim 64 (brT BE_)
theorem II_ : skim 64 (brT BE_) = EF_ := by kernel_rfl
def EK_ : List Item := skim 64 (brF BE_)
theorem Iw_ : skim 64 (brF BE_) = EK_ := by kernel_rfl
theorem IH_ : skim 64 Dg_.tail = BE_ := by kernel_rfl
theorem UR_ : skim 64 EF_.tail = Co_ := by kernel_rfl
def Dq_ : List Item := skim 64 EK_.tail
theorem IB_ : skim 64 EK_.tail = Dq_ := by kernel_rfl
def Cx_ : List Item := skim 64 (brT Dq_)
theorem Sr_ : skim 64 (brT Dq_) = Cx_ := by kernel_rfl
theorem VN_ : skim 64 (brF Dq_) = Co_ := by kernel_rfl
def Dm_ : List Item := skim 64 Cx_.tail
theorem Sd_ : skim 64 Cx_.tail = Dm_ := by kernel_rfl
def EL_ : List Item := skim 64 Dm_.tail
theorem Sb_ : skim 64 Dm_.tail = EL_ := by kernel_rfl
def Hs_ : List Item := skim 64 (brF EL_)
theorem Sg_ : skim 64 (brF EL_) = Hs_ := by kernel_rfl
theorem SW_ : skim 64 Hs_.tail = BU_ := by kernel_rfl
def PH_ (E : Env) (call round : CallT) (tm : T Value) : M (T Value) :=
  mv (some (.int .i64 0)) fun v3 =>
  setF 3 v3 tm fun tm1 =>
  M.pure tm1
theorem Adf_ : RegEq 109 66 AH_ Kb_ PH_ := ⟨by kernel_rfl, fun _ _ _ _ _ _ _ _ _ => by kernel_rfl⟩
def Kv_ (E : Env) (call round : CallT) (tm : T Value) : M (T Value) :=
  M.bind (oS (T.get tm 1) fun a => kLoad E 22 a) fun v11 =>
  mv (T.get tm 3) fun v12 =>
  M.bind (M.on (some (.func (.func 71) #[] #[])) fun f => M.on (seqO [(some v11), (some v12)]) fun l => callV call round f l) fun v13 =>
  mv (some v13) fun v10 =>
  M.bind (oS (some v10) fun a => kExt 0 a) fun v14 =>
  M.bind (oS (some v10) fun a => kExt 1 a) fun v15 =>
  mv (some v14) fun v4 =>
  setF 4 v4 tm fun tm1 =>
  mv (some v15) fun v5 =>
  setF 5 v5 tm1 fun tm2 =>
  M.pure tm2
theorem RF_ : RegEq 109 66 AH_ BU_ Kv_ := ⟨by kernel_rfl, fun _ _ _ _ _ _ _ _ _ => by kernel_rfl⟩
def Jy_ (E : Env) (call round : CallT) (tm : T Value) : M (T Value) :=
  mv (some (.int .i64 2)) fun v6 =>
  setF 6 v6 tm fun tm1 =>
  M.pure tm1
theorem PU_ : RegEq 109 66 AH_ FY_ Jy_ := ⟨by kernel_rfl, fun _ _ _ _ _ _ _ _ _ => by kernel_rfl⟩
def Jx_ (E : Env) (call round : CallT) (tm : T Value) : M (T Value) :=
  mv (T.get tm 3) fun v17 =>
  M.bind (oS (T.get tm 1) fun a => kLoad E 22 a) fun v18 =>
  M.bind (oS (seqO [(some v18)]) fun l => aBuiltin E .len [22] l) fun v19 =>
  M.bind (oS (some v17) fun a => oS (some v19) fun b => Cl.get (aBin E .eql 3 (.tmp 17) (.tmp 19)) a b) fun v20 =>
  mv (some v20) fun v16 =>
  setF 16 v16 tm fun tm1 =>
  M.pure tm1
theorem Rh_ : RegEq 109 66 AH_ GA_ Jx_ := ⟨by kernel_rfl, fun _ _ _ _ _ _ _ _ _ => by kernel_rfl⟩
theorem Ju_ : condX CX_ = some 16 := by kernel_rfl
def JT_ (E : Env) (call round : CallT) (tm : T Value) : M (T Value) :=
  mv (some (.int .i64 0)) fun v6 =>
  setF 6 v6 tm fun tm1 =>
  M.pure tm1
theorem QW_ : RegEq 109 66 AH_ Gk_ JT_ := ⟨by kernel_rfl, fun _ _ _ _ _ _ _ _ _ => by kernel_rfl⟩
def PK_ (E : Env) (call round : CallT) (tm : T Value) : M (T Value) :=
  M.bind (oS (T.get tm 1) fun a => kLoad E 22 a) fun v22 =>
  M.bind (oS (seqO [(some v22)]) fun l => aBuiltin E .len [22] l) fun v23 =>
  mv (T.get tm 3) fun v24 =>
  M.bind (oS (some v23) fun a => oS (some v24) fun b => Cl.get (aBin E .sub 3 (.tmp 23) (.tmp 24)) a b) fun v25 =>
  M.bind (oS (some v25) fun a => oS (some (.int .i64 6)) fun b => Cl.get (aBin E .lss 3 (.tmp 25) (.const (.int .i64 6))) a b) fun v26 =>
  mv (some v26) fun v21 =>
  setF 21 v21 tm fun tm1 =>
  M.pure tm1
theorem Abi_ : RegEq 109 66 AH_ Gz_ PK_ := ⟨by kernel_rfl, fun _ _ _ _ _ _ _ _ _ => by kernel_rfl⟩
def Qm_ (E : Env) (call round : CallT) (tm : T Value) : M (T Value) :=
  mv (T.get tm 0) fun v61 =>
  mv (T.get tm 3) fun v62 =>
  mv (T.get tm 6) fun v63 =>
  M.bind (oS (seqP [(2, (some v63))]) fun ps => aBuild E 97 ps) fun v64 =>
  M.bind (M.on (some v61) fun f => M.on (seqO [(some v62), (some v64)]) fun l => callV call round f l) fun v65 =>
  M.pure tm
theorem Adh_ : RegEq 109 66 AH_ Co_ Qm_ := ⟨by kernel_rfl, fun _ _ _ _ _ _ _ _ _ => by kernel_rfl⟩
theorem RA_ : condX Db_ = some 21 := by kernel_rfl
theorem EB_ : condX BE_ = some 21 := by kernel_rfl
def Ij_ (E : Env) (call round : CallT) (tm : T Value) : M ((Rho × T Value) × List OpLog) :=
  M.bind (apartO (oS (T.get tm 5) fun a => M.pure a)) fun p0 =>
  M.bind (apartO (oS (some p0.1) fun a => M.pure a)) fun p1 =>
  M.bind (apartO (M.chk (isK p1.1) (M.if (isB p1.1 true) (oS (T.get tm 1) fun a => kLoad E 22 a) (M.pure undef)))) fun p2 =>
  M.bind (apartO (M.chk (isK p1.1) (M.if (isB p1.1 true) (oS (seqO [(some p2.1)]) fun l => aBuiltin E .len [22] l) (M.pure undef)))) fun p3 =>
  M.bind (apartO (M.chk (isK p1.1) (M.if (isB p1.1 true) (oS (T.get tm 3) fun a => M.pure a) (M.pure undef)))) fun p4 =>
  M.bind (apartO (M.chk (isK p1.1) (M.if (isB p1.1 true) (oS (some p3.1) fun a => oS (some p4.1) fun b => Cl.get (aBin E .sub 3 (.tmp 30) (.tmp 31)) a b) (M.pure undef)))) fun p5 =>
  M.bind (apartO (M.chk (isK p1.1) (M.if (isB p1.1 true) (oS (T.get tm 4) fun a => M.pure a) (M.pure undef)))) fun p6 =>
  M.bind (apartO (M.chk (isK p1.1) (M.if (isB p1.1 true) (M.on (some (.func (.func 20) #[] #[])) fun f => M.on (seqO [(some p6.1)]) fun l => callV call round f l) (M.pure undef)))) fun p7 =>
  M.bind (apartO (M.chk (isK p1.1) (M.if (isB p1.1 true) (oS (some p5.1) fun a => oS (some p7.1) fun b => Cl.get (aBin E .lss 3 (.tmp 32) (.tmp 34)) a b) (M.pure undef)))) fun p8 =>
  M.bind (apartO (M.on (some p1.1) fun a => M.on (some p8.1) fun b => M.on (some (.bool false)) fun c => kPick a b c)) fun p9 =>
  M.pure (([p9.1, p8.1, p7.1, p6.1, p5.1, p4.1, p3.1, p2.1, p1.1, p0.1], tm), [p9.2, p8.2, p7.2, p6.2, p5.2, p4.2, p3.2, p2.2, p1.2, p0.2])
theorem Zl_ : DrawEq 109 66 AH_ Dg_ [0, 1, 3, 7, 3, 31, 3, 67, 255, 511, 1023] Ij_ := ⟨by kernel_rfl, by kernel_rfl, fun _ _ _ _ _ _ _ _ _ => by kernel_rfl⟩
theorem Os_ (E : Env) (call round : CallT) (x27 x28 x29 x30 x31 x32 x33 x34 x35 x36 : Value) (tm : T Value) (s : St) : opsIn call round (lastOps E AH_ 66 (hdC Dg_)) [x36, x35, x34, x33, x32, x31, x30, x29, x28, x27] tm s = (M.bind (oS (some x36) fun a => M.pure a) fun v21 => setT 21 v21 tm fun tm1 => M.pure tm1) s := by kernel_rfl
def NX_ (E : Env) (call round : CallT) (tm : T Value) : M (T Value) :=
  mv (some (.int .i64 1)) fun v6 =>
  setF 6 v6 tm fun tm1 =>
  M.pure tm1
theorem Aaw_ : RegEq 109 66 AH_ EF_ NX_ := ⟨by kernel_rfl, fun _ _ _ _ _ _ _ _ _ => by kernel_rfl⟩
def HJ_ (E : Env) (call round : CallT) (tm : T Value) : M (T Value) :=
  mv (T.get tm 5) fun v38 =>
  mv (some v38) fun v37 =>
  setF 37 v37 tm fun tm1 =>
  M.pure tm1
theorem Nt_ : RegEq 109 66 AH_ EK_ HJ_ := ⟨by kernel_rfl, fun _ _ _ _ _ _ _ _ _ => by kernel_rfl⟩
theorem NN_ : condX Dq_ = some 37 := by kernel_rfl
def Ow_ (E : Env) (call round : CallT) (tm : T Value) : M (T Value) :=
  M.bind (oS (T.get tm 1) fun a => kLoad E 22 a) fun v40 =>
  mv (T.get tm 3) fun v41 =>
  mv (T.get tm 4) fun v42 =>
  M.bind (M.on (some (.func (.func 72) #[] #[])) fun f => M.on (seqO [(some v40), (some v41), (some v42)]) fun l => callV call round f l) fun v43 =>
  mv (some v43) fun v39 =>
  M.bind (oS (some v39) fun a => kExt 0 a) fun v44 =>
  M.bind (oS (some v39) fun a => kExt 1 a) fun v45 =>
  M.bind (oS (some v39) fun a => kExt 2 a) fun v46 =>
  M.bind (kAlloc E 26) fun v7 =>
  setF 7 v7 tm fun tm1 =>
  M.bind (oS (some v7) fun a => oS (some v44) fun b => kStore E 26 a b) fun _ =>
  mv (some v45) fun v8 =>
  mv (some v46) fun v9 =>
  setF 9 v9 tm1 fun tm2 =>
  M.pure tm2
theorem AaZ_ : RegEq 109 66 AH_ Cx_ Ow_ := ⟨by kernel_rfl, fun _ _ _ _ _ _ _ _ _ => by kernel_rfl⟩
def NZ_ (E : Env) (call round : CallT) (tm : T Value) : M (T Value) :=
  mv (T.get tm 0) fun v47 =>
  mv (T.get tm 3) fun v48 =>
  M.bind (oS (T.get tm 7) fun a => kLoad E 26 a) fun v49 =>
  mv (T.get tm 3) fun v50 =>
  mv (T.get tm 4) fun v51 =>
  M.bind (oS (seqP [(0, (some v49)), (1, (some v50)), (2, (some v51))]) fun ps => aBuild E 35 ps) fun v52 =>
  mv (T.get tm 9) fun v53 =>
  M.bind (oS (seqP [(0, (some v52)), (1, (some v53)), (2, (some (.int .i64 (-1))))]) fun ps => aBuild E 97 ps) fun v54 =>
  M.bind (M.on (some v47) fun f => M.on (seqO [(some v48), (some v54)]) fun l => callV call round f l) fun v55 =>
  M.bind (oS (some v55) fun a => kUn E.P .not a) fun v56 =>
  setF 56 v56 tm fun tm1 =>
  M.pure tm1
theorem ZB_ : RegEq 109 66 AH_ Dm_ NZ_ := ⟨by kernel_rfl, fun _ _ _ _ _ _ _ _ _ => by kernel_rfl⟩
theorem Za_ : condX EL_ = some 56 := by kernel_rfl
def Nz_ (E : Env) (call round : CallT) (tm : T Value) : M (T Value) :=
  mv (T.get tm 3) fun v57 =>
  mv (T.get tm 4) fun v58 =>
  M.bind (M.on (some (.func (.func 20) #[] #[])) fun f => M.on (seqO [(some v58)]) fun l => callV call round f l) fun v59 =>
  M.bind (oS (some v57) fun a => oS (some v59) fun b => Cl.get (aBin E .add 3 (.tmp 57) (.tmp 59)) a b) fun v60 =>
  mv (some v60) fun v3 =>
  setF 3 v3 tm fun tm1 =>
  M.pure tm1
theorem YT_ : RegEq 109 66 AH_ Hs_ Nz_ := ⟨by kernel_rfl, fun _ _ _ _ _ _ _ _ _ => by kernel_rfl⟩
def AD_ : Nat := globOf Try.f24
abbrev BD_ : Nat := 33
def LA_ : Code := Try.f24.body.getD .skip
theorem Rw_ : envS.fn.get 24 = some Try.f24 := by kernel_rfl
theorem AeN_ {a0 : Value} {n : Nat} {s : St} {Q : Value → St → Prop} (h : ∀ tm, T.get tm 0 = some a0 → W (runF envS n ⟨24, 33, AD_, tm, [.code LA_], .run, .normal, none⟩) (s.cxN cxN) fun p s1 => Q p.1 (s1.cxN s.cx)) : W (callW envS (runF envS n) 24 [a0]) s Q :=
 W.call (by kernel_rfl) (by kernel_rfl) Rw_ (by kernel_rfl) rfl rfl (by simp) (h _ (by kernel_rfl))
theorem Yy_ : Try.f24.results.toList = [.cell 2 36, .cell 3 3, .cell 4 3, .cell 5 3] := by kernel_rfl
def Jd_ : List Item := skim 64 [.code LA_]
def FO_ : List Item := skim 64 Jd_.tail
theorem WH_ : skim 64 Jd_.tail = FO_ := by kernel_rfl
def Bo_ : List Item := skim 64 FO_.tail
theorem VU_ : skim 64 FO_.tail = Bo_ := by kernel_rfl
def ED_ : Code := asC Bo_
def Ev_ : Code := bdC Bo_
theorem AcJ_ : rfP Bo_ = some (9, [10, 11], ED_, Ev_) := by kernel_rfl
theorem Aeb_ : roundI Bo_ = [.code ED_, .beginRound, .code Ev_] := by kernel_rfl
def CM_ : List Item := skim 64 Bo_.tail
theorem Xo_ : skim 64 Bo_.tail = CM_ := by kernel_rfl
def Em_ : List Item := skim 64 (roundI Bo_)
theorem Xc_ : skim 64 (roundI Bo_) = Em_ := by kernel_rfl
def JZ_ : List Item := skim 64 CM_.tail
theorem Wb_ : skim 64 CM_.tail = JZ_ := by kernel_rfl
def FF_ : List Item := skim 64 Em_.tail
theorem Xz_ : skim 64 Em_.tail = FF_ := by kernel_rfl
def De_ : List Item := skim 64 FF_.tail
theorem Xx_ : skim 64 FF_.tail = De_ := by kernel_rfl
def Gt_ : List Item := skim 64 De_.tail
theorem Xv_ : skim 64 De_.tail = Gt_ := by kernel_rfl
def CN_ : List Item := skim 64 Gt_.tail
theorem Mo_ : skim 64 Gt_.tail = CN_ := by kernel_rfl
def Cw_ : List Item := skim 64 (brT CN_)
theorem UE_ : skim 64 (brT CN_) = Cw_ := by kernel_rfl
def EG_ : List Item := skim 64 (brF CN_)
theorem Th_ : skim 64 (brF CN_) = EG_ := by kernel_rfl
def Cs_ : List Item := skim 64 Cw_.tail
theorem RT_ : skim 64 Cw_.tail = Cs_ := by kernel_rfl
def CB_ : List Item := skim 64 EG_.tail
theorem IK_ : skim 64 EG_.tail = CB_ := by kernel_rfl
def Ey_ : List Item := skim 64 (brT CB_)
theorem Sj_ : skim 64 (brT CB_) = Ey_ := by kernel_rfl
def Ew_ : List Item := skim 64 (brF CB_)
theorem Si_ : skim 64 (brF CB_) = Ew_ := by kernel_rfl
theorem IC_ : skim 64 Ey_.tail = Cs_ := by kernel_rfl
theorem RW_ : skim 64 Ew_.tail = Cs_ := by kernel_rfl
def PJ_ (E : Env) (call round : CallT) (tm : T Value) : M (T Value) :=
  M.bind (kAlloc E 36) fun v2 =>
  setF 2 v2 tm fun tm1 =>
  M.bind (kAlloc E 3) fun v3 =>
  setF 3 v3 tm1 fun tm2 =>
  M.bind (kAlloc E 3) fun v4 =>
  setF 4 v4 tm2 fun tm3 =>
  M.bind (kAlloc E 3) fun v5 =>
  setF 5 v5 tm3 fun tm4 =>
  M.pure tm4
theorem AdX_ : RegEq 24 33 AD_ Jd_ PJ_ := ⟨by kernel_rfl, fun _ _ _ _ _ _ _ _ _ => by kernel_rfl⟩
def Rt_ (E : Env) (call round : CallT) (tm : T Value) : M (T Value) :=
  mv (T.get tm 0) fun v8 =>
  M.bind (M.on (some (.func (.func 68) #[] #[])) fun f => M.on (seqO [(some v8)]) fun l => callV call round f l) fun v9 =>
  setF 9 v9 tm fun tm1 =>
  M.pure tm1
theorem AcV_ : RegEq 24 33 AD_ FO_ Rt_ := ⟨by kernel_rfl, fun _ _ _ _ _ _ _ _ _ => by kernel_rfl⟩
def QS_ (E : Env) (call round : CallT) (tm : T Value) : M ((Rho × T Value) × List OpLog) :=
  M.bind (apartO (oS (T.get tm 2) fun a => kLoad E 36 a)) fun p0 =>
  M.bind (apartO (oS (T.get tm 3) fun a => kLoad E 3 a)) fun p1 =>
  M.bind (apartO (oS (T.get tm 4) fun a => kLoad E 3 a)) fun p2 =>
  M.bind (apartO (oS (T.get tm 5) fun a => kLoad E 3 a)) fun p3 =>
  M.bind (apartO (oS (T.get tm 2) fun a => oS (some p0.1) fun b => kStore E 36 a b)) fun p4 =>
  M.bind (apartO (oS (T.get tm 3) fun a => oS (some p1.1) fun b => kStore E 3 a b)) fun p5 =>
  M.bind (apartO (oS (T.get tm 4) fun a => oS (some p2.1) fun b => kStore E 3 a b)) fun p6 =>
  M.pure (([p3.1, p2.1, p1.1, p0.1], tm), [p6.2, p5.2, p4.2, p3.2, p2.2, p1.2, p0.2])
theorem AcA_ : DrawEq 24 33 AD_ CM_ [0, 0, 0, 0, 1, 19, 55, 127] QS_ := ⟨by kernel_rfl, by kernel_rfl, fun _ _ _ _ _ _ _ _ _ => by kernel_rfl⟩
theorem AdM_ (E : Env) (call round : CallT) (x29 x30 x31 x32 : Value) (tm : T Value) (s : St) : opsIn call round (lastOps E AD_ 33 (hdC CM_)) [x32, x31, x30, x29] tm s = (M.bind (oS (T.get tm 5) fun a => oS (some x32) fun b => kStore E 3 a b) fun _ => M.pure tm) s := by kernel_rfl
def RC_ (E : Env) (call round : CallT) (tm : T Value) : M (T Value) :=
  mv (T.get tm 10) fun v6 =>
  setF 6 v6 tm fun tm1 =>
  M.pure tm1
theorem Abj_ : RegEq 24 33 AD_ Em_ RC_ := ⟨by kernel_rfl, fun _ _ _ _ _ _ _ _ _ => by kernel_rfl⟩
theorem Ado_ : ∃ k, JZ_ = .code .ret :: k := ⟨JZ_.tail, by kernel_rfl⟩
def PY_ (E : Env) (call round : CallT) (tm : T Value) : M (T Value) :=
  M.bind (kAlloc E 97) fun v7 =>
  setF 7 v7 tm fun tm1 =>
  M.bind (oS (some v7) fun a => oS (T.get tm1 11) fun b => kStore E 97 a b) fun _ =>
  M.pure tm1
theorem AdV_ : RegEq 24 33 AD_ FF_ PY_ := ⟨by kernel_rfl, fun _ _ _ _ _ _ _ _ _ => by kernel_rfl⟩
theorem AdE_ : De_ = .beginRound :: De_.tail := by kernel_rfl
def PC_ (E : Env) (call round : CallT) (tm : T Value) : M (T Value) :=
  M.bind (oS (T.get tm 7) fun a => kFld E 97 a 2) fun v15 =>
  M.bind (oS (some v15) fun a => kLoad E 3 a) fun v16 =>
  M.bind (oS (some v16) fun a => oS (some (.int .i64 0)) fun b => Cl.get (aBin E .geq 3 (.tmp 16) (.const (.int .i64 0))) a b) fun v17 =>
  mv (some v17) fun v14 =>
  setF 14 v14 tm fun tm1 =>
  M.pure tm1
theorem Add_ : RegEq 24 33 AD_ Gt_ PC_ := ⟨by kernel_rfl, fun _ _ _ _ _ _ _ _ _ => by kernel_rfl⟩
theorem PQ_ : condX CN_ = some 14 := by kernel_rfl
def NW_ (E : Env) (call round : CallT) (tm : T Value) : M ((Rho × T Value) × List OpLog) :=
  M.bind (apartO (oS (T.get tm 6) fun a => M.pure a)) fun p0 =>
  M.bind (apartO (oS (T.get tm 7) fun a => kFld E 97 a 2)) fun p1 =>
  M.bind (apartO (oS (some p1.1) fun a => kLoad E 3 a)) fun p2 =>
  M.bind (apartO (oS (T.get tm 3) fun a => oS (some p0.1) fun b => kStore E 3 a b)) fun p3 =>
  M.pure (([p2.1, p1.1, p0.1], tm), [p3.2, p2.2, p1.2, p0.2])
theorem ZV_ : DrawEq 24 33 AD_ Cw_ [0, 0, 2, 1, 15] NW_ := ⟨by kernel_rfl, by kernel_rfl, fun _ _ _ _ _ _ _ _ _ => by kernel_rfl⟩
theorem Zi_ (E : Env) (call round : CallT) (x18 x19 x20 : Value) (tm : T Value) (s : St) : opsIn call round (lastOps E AD_ 33 (hdC Cw_)) [x20, x19, x18] tm s = (M.bind (oS (T.get tm 5) fun a => oS (some x20) fun b => kStore E 3 a b) fun _ => M.pure tm) s := by kernel_rfl
def NO_ (E : Env) (call round : CallT) (tm : T Value) : M (T Value) :=
  M.bind (oS (T.get tm 7) fun a => kFld E 97 a 1) fun v22 =>
  M.bind (oS (some v22) fun a => kLoad E 4 a) fun v23 =>
  mv (some v23) fun v21 =>
  setF 21 v21 tm fun tm1 =>
  M.pure tm1
theorem Zv_ : RegEq 24 33 AD_ EG_ NO_ := ⟨by kernel_rfl, fun _ _ _ _ _ _ _ _ _ => by kernel_rfl⟩
theorem OA_ : condX CB_ = some 21 := by kernel_rfl
def OI_ (E : Env) (call round : CallT) (tm : T Value) : M (T Value) :=
  M.bind (oS (T.get tm 2) fun a => kLoad E 36 a) fun v24 =>
  M.bind (oS (T.get tm 7) fun a => kFld E 97 a 0) fun v25 =>
  M.bind (oS (some v25) fun a => kLoad E 35 a) fun v26 =>
  M.bind (oS (seqP [(0, (some v26))]) fun ps => aBuildS E 36 1 ps) fun v27 =>
  M.bind (oS (seqO [(some v24), (some v27)]) fun l => aBuiltin E .append [36, 36] l) fun v28 =>
  M.bind (oS (T.get tm 2) fun a => oS (some v28) fun b => kStore E 36 a b) fun _ =>
  M.pure tm
theorem Yw_ : RegEq 24 33 AD_ Ey_ OI_ := ⟨by kernel_rfl, fun _ _ _ _ _ _ _ _ _ => by kernel_rfl⟩
def Nq_ (E : Env) (call round : CallT) (tm : T Value) : M (T Value) :=
  M.bind (oS (T.get tm 4) fun a => kLoad E 3 a) fun v12 =>
  M.bind (oS (some v12) fun a => oS (some (.int .i64 1)) fun b => Cl.get (aBin E .add 3 (.tmp 12) (.const (.int .i64 1))) a b) fun v13 =>
  M.bind (oS (T.get tm 4) fun a => oS (some v13) fun b => kStore E 3 a b) fun _ =>
  M.pure tm
theorem Aay_ : RegEq 24 33 AD_ Ew_ Nq_ := ⟨by kernel_rfl, fun _ _ _ _ _ _ _ _ _ => by kernel_rfl⟩
end Go.Proofs.Ytofanlcjeohcjaa.Am
end
