import Derived.Test.YtofanlcjeohcjaaMb17
import Derived.Test.YtofanlcjeohcjaaMb14
import Derived.Test.YtofanlcjeohcjaaMb07
import Derived.KernelRfl
noncomputable section
namespace Go.Proofs.Ytofanlcjeohcjaa.Am
open Go.RowKit
def hitB (l : List Nat) (h : Hd) : Bool := Cc l h.2.1 h.2.2 && decide (C8 l h.2.1 h.2.2 = h.1)
theorem JC_ {n : Nat} {v : Value} {l : List Nat} {h : Hd} {s : St} {Q : Value → St → Prop} (hbd : s.lim ≤ s.next) (hbs : Bs s v l) (hby : Byt l) (hz : l.length ≤ 200000) (hk : h.2.1 ≤ 1000000) (h16 : h.1.length = 16) (hn : 60000 ≤ n)
   (q1 : CP l h = false → hitB l h = true → ∀ s1 w, Ext (BsF v) Non s s1 → Bn s1 w (Co l h.2.1 h.2.2) → (∀ x, BsF w x → s.next ≤ x) → Q (.tuple #[w, .int .i64 0]) s1)
   (q2 : CP l h = false → hitB l h = false → ∀ s1, Ext (BsF v) Non s s1 → Q (.tuple #[.slice none 0 0, .int .i64 11]) s1)
   (q3 : CP l h = true → ∀ s1, Ext (BsF v) Non s s1 → Q (.tuple #[.slice none 0 0, .int .i64 6]) s1) : W (Au envS (runF envS n) 27 [v, .agg (AP h).toArray]) s Q := by
 refine XC_ fun tm h0 h1 => ?_
 have hbs0 : Bs (s.cxN cxN) v l := hbs.same rfl rfl
 have hl18 : (AP h).length = 18 := Db h16
 refine Jq_.w rfl (by omega) ?_
 simp -implicitDefEqProofs only [Zm, Ad, W_oS, Aa, W_mv, Ac, h1]
 refine W.box fun sa na xa oa => ?_
 have hcel : cellsOf (.agg (AP h).toArray) = AP h := rfl
 rw [hcel] at na oa
 have na' : sa.next = s.next + 19 := by rw [na, hl18]; rfl
 have oa' : Af sa s.next 0 (AP h) := oa
 try simp -implicitDefEqProofs only [Ad, W_oS, W_on, Aa, W_mv, Ac, Bb, T.get_set, Ap, Al, Bj, Bd, Ak, AW, reduceIte, AX, BH, By, BL, Bg, A7, Bh, Bz, AV, Bu, Nat.reduceEqDiff, reduceCtorEq, ↓reduceIte]
 have hxa : Ext (BsF v) Non (s.cxN cxN) sa := (Ext.refl _).step xa hbd (fun _ _ h => h.elim) fun _ h => h.elim
 refine PO_.w EG_ (by omega) ?_
 simp -implicitDefEqProofs only [WP, Ad, W_oS, W_on, Aa, W_mv, Ac, T.get_set, Ap, Al, Ak, AW, reduceIte, Nat.reduceEqDiff, reduceCtorEq, ↓reduceIte, h0]
 rw [show (s.cxN cxN).next = s.next from rfl, B8 RU (by decide)]
 have o16 : Own sa s.next (0 + 16) (.int .i64 (h.2.1 : Nat)) := oa' 16 _ (GO h16).1
 refine W.load1 B3 o16.at' ?_
 try simp -implicitDefEqProofs only [Ad, W_oS, W_on, Aa, W_mv, Ac, Bb, T.get_set, Ap, Al, Bj, Bd, Ak, AW, reduceIte, AX, BH, By, BL, Bg, A7, Bh, Bz, AV, Bu, Nat.reduceEqDiff, reduceCtorEq, ↓reduceIte]
 have hxb : Ext (BsF v) Non (s.cxN cxN) (sa.rdN (s.next + (0 + 16))) := hxa.step (Ext.rdN (F := fun x => s.next ≤ x) (G := Non) sa _ fun _ => by omega) hbd (fun x hx h => by
   have h2 : x < s.lim := hx
   have h3 : s.next ≤ x := h
   omega) fun _ h => h.elim
 have ob : Af (sa.rdN (s.next + (0 + 16))) s.next 0 (AP h) := fun i v e => (oa' i v e).same rfl rfl
 have nb : (sa.rdN (s.next + (0 + 16))).next = s.next + 19 := na'
 generalize sa.rdN (s.next + (0 + 16)) = sb at *
 refine Sj (hxb.bnd hbd) (hbs0.ext0 hxb) hby (by omega) (by omega) fun sc xc => ?_
 rw [A9 (k := 0) rfl, A9 (k := 1) rfl]
 have hxc : Ext (BsF v) Non (s.cxN cxN) sc := hxb.step xc hbd (fun _ _ h => h) fun _ h => h.elim
 have oc : Af sc s.next 0 (AP h) := fun i v e => (ob i v e).ext0 xc
 have nc : s.next + 19 ≤ sc.next := by have := xc.nxt; omega
 refine Kw_ (R := s.next) (h := h) (hbs0.ext0 hxc) (by omega) h16 oc (by simp [T.get_set, h0]) (by simp [T.get_set]) (by simp [T.get_set]) (by simp [T.get_set]) XN_ (by omega) fun n' sd tm' td' hn' hT' md nd xd hkeep h35 => ?_
 have hxd : Ext (BsF v) Non (s.cxN cxN) sd := hxc.step xd hbd (fun x hx h => by
   have h2 : x < s.lim := hx
   omega) fun _ h => h.elim
 have od : Af sd s.next 0 (AP h) := fun i v e => (oc i v e).same md nd
 have k0 : T.get tm' 0 = some v := by rw [hkeep 0 (by decide)]; simp [T.get_set, h0]
 have k3 : T.get tm' 3 = some (.pointer (some ⟨s.next, 0, none⟩)) := by rw [hkeep 3 (by decide)]; simp [T.get_set]
 have k6 : T.get tm' 6 = some (.int .i64 ((CD l h.2.1).1 : Nat)) := by rw [hkeep 6 (by decide)]; simp [T.get_set]
 cases hm : CP l h with
 | true =>
   rw [hm] at h35
   refine W.cond (v := true) hT' At_ h35 (by omega) (fun _ => ?_) fun h => by cases h
   refine Ei_.w Gy_ (by omega) ?_
   simp -implicitDefEqProofs only [Wm, Aa, W_mv, Ac]
   exact W.end' (rs := [4, 5]) (vs := [.slice none 0 0, .int .i64 6]) Nz_ (.inl Im_) (by omega) KE Su hxd.cx (by simp [T.get_set]) (q3 hm _ hxd.cx')
 | false =>
   rw [hm] at h35
   refine W.cond (v := false) hT' At_ h35 (by omega) (fun h => by cases h) fun _ => ?_
   have hm2 := hm
   unfold CP at hm2
   rw [Bool.not_eq_false', Bool.and_eq_true, Bool.and_eq_true, decide_eq_true_eq, decide_eq_true_eq] at hm2
   obtain ⟨⟨p1, p2⟩, p3⟩ := hm2
   have hk6 : h.2.1 + 6 ≤ l.length := by omega
   have hsb : (CD l h.2.1).1 = h.2.2 := by unfold CD; rw [if_pos hk6]; exact p2
   have hok : Cs l h.2.1 = true := by unfold CD at p1; rw [if_pos hk6] at p1; exact p1
   obtain ⟨g1, g2⟩ := N7 hok
   rw [p2] at g1 g2
   rw [hsb] at k6
   refine OR_.w ID_ (by omega) ?_
   simp -implicitDefEqProofs only [Bd_, Ad, W_oS, W_on, Aa, W_mv, Ac, Ap, Al, Ak, AW, k0, k3, k6]
   rw [B8 RU (by decide)]
   have o16d : Own sd s.next (0 + 16) (.int .i64 (h.2.1 : Nat)) := od 16 _ (GO h16).1
   refine W.load1 B3 o16d.at' ?_
   try simp -implicitDefEqProofs only [Ad, W_oS, W_on, Aa, W_mv, Ac, Bb, T.get_set, Ap, Al, Bj, Bd, Ak, AW, reduceIte, AX, BH, By, BL, Bg, A7, Bh, Bz, AV, Bu, Nat.reduceEqDiff, reduceCtorEq, ↓reduceIte]
   have hxe : Ext (BsF v) Non (s.cxN cxN) (sd.rdN (s.next + (0 + 16))) := hxd.step (Ext.rdN (F := fun x => s.next ≤ x) (G := Non) sd _ fun _ => by omega) hbd (fun x hx h => by
     have h2 : x < s.lim := hx
     have h3 : s.next ≤ x := h
     omega) fun _ h => h.elim
   have oe : Af (sd.rdN (s.next + (0 + 16))) s.next 0 (AP h) := fun i v e => (od i v e).same rfl rfl
   have ne : s.next + 19 ≤ (sd.rdN (s.next + (0 + 16))).next := by show s.next + 19 ≤ sd.next; omega
   generalize sd.rdN (s.next + (0 + 16)) = se at *
   have hbe : se.lim ≤ se.next := hxe.bnd hbd
  
   have rest : ∀ (sf : St) (w : Value) (id : List Nat) (g : Bool), Ext (BsF v) Non se sf → id.length = 16 → id = C8 l h.2.1 h.2.2 → g = Cc l h.2.1 h.2.2 → oneCell w = true → (g = true → Bn sf w (Co l h.2.1 h.2.2) ∧ ∀ x, BsF w x → se.next ≤ x) →
       W (kExt 0 (.tuple #[.agg (u8l id).toArray, w, .bool g])) sf fun v42 s3 => W (kExt 1 (.tuple #[.agg (u8l id).toArray, w, .bool g])) s3 fun v43 s4 => W (kExt 2 (.tuple #[.agg (u8l id).toArray, w, .bool g])) s4 fun v44 s5 => W (BC envS 26) s5 fun v8 s6 => W (A3 envS 26 v8 v42) s6 fun _ s7 => W (runF envS (n' - 1 - 1) ⟨27, Mu, CT, T.set (T.set (T.set tm' 8 v8) 9 v43) 10 v44, Jf.tail, .run, .normal, none⟩) s7 fun p s1 => Q p.1 (s1.cxN s.cx) := fun sf w id g xf hid hide hge hw1 hw => by
     rw [A9 (k := 0) rfl, A9 (k := 1) rfl, A9 (k := 2) rfl]
     have hxf : Ext (BsF v) Non (s.cxN cxN) sf := hxe.step xf hbd (fun _ _ h => h) fun _ h => h.elim
     have hIl : (u8l id).length = 16 := by rw [A0]; exact hid
     have nf : se.next ≤ sf.next := xf.nxt
     refine W.alloc DU fun sg ng xg og => ?_
     have hxg : Ext (BsF v) Non (s.cxN cxN) sg := hxf.step xg hbd (fun _ _ h => h.elim) fun _ h => h.elim
     refine W.store BP hIl (BT _) (fun i hi => (Af.owned og) i (by simpa using hi)) fun sh nh xh oh => ?_
     have oh' : Af sh sf.next 0 (u8l id) := oh
     have hG : ∀ x, In sf.next 0 16 x → sf.next ≤ x := fun x h => by have := h.1; omega
     have hxh : Ext (BsF v) Non (s.cxN cxN) sh := hxg.step xh hbd (fun x hx h => by
       have h2 : x < s.lim := hx
       have := hG x h
       omega) fun x h => by have h3 := hG x h; show s.next ≤ x; omega
     have keep : ∀ b o u, Own sf b o u → Own sh b o u := fun b o u hu => (hu.ext0 xg).ext xh fun h => by have := hG _ h; have := hu.1; omega
     have oh18 : Af sh s.next 0 (AP h) := fun i v e => keep _ _ _ ((oe i v e).ext0 xf)
     refine MQ_.w Qo_ (by omega) ?_
     have fin : ∀ (si : St) (tm2 : T Value) (td2 : List Item) (b : Bool), Ext (BsF v) Non (s.cxN cxN) si → (∀ x, x < sf.next → T.get si.mem x = T.get sh.mem x) → sf.next ≤ si.next → skim 64 td2 = Fv → T.get tm2 9 = some w → T.get tm2 52 = some (.bool b) → b = !hitB l h → (b = false → g = true) →
         W (runF envS (n' - 1 - 1 - 1) ⟨27, Mu, CT, tm2, td2, .run, .normal, none⟩) si fun p s1 => Q p.1 (s1.cxN s.cx) := fun si tm2 td2 b xi mi ni hT2 h9 h52 hb hbg => by
       cases b with
       | true =>
         refine W.cond (v := true) hT2 UR h52 (by omega) (fun _ => ?_) fun h => by cases h
         refine Jy_.w SM_ (by omega) ?_
         simp -implicitDefEqProofs only [WC, Aa, W_mv, Ac]
         exact W.end' (rs := [4, 5]) (vs := [.slice none 0 0, .int .i64 11]) DV_ (.inl XT_) (by omega) KE Su xi.cx (by simp [T.get_set]) (q2 hm (by simpa using hb.symm) _ xi.cx')
       | false =>
         refine W.cond (v := false) hT2 UR h52 (by omega) (fun h => by cases h) fun _ => ?_
         refine Nk_.w Va_ (by omega) ?_
         simp -implicitDefEqProofs only [Am_, Aa, W_mv, Ac, h9]
         obtain ⟨w1, w2⟩ := hw (hbg rfl)
         refine W.end' (rs := [4, 5]) (vs := [w, .int .i64 0]) Lt_ (.inl LF_) (by omega) KE Su xi.cx (by simp [T.get_set]) (q1 hm (by simpa using hb.symm) _ w xi.cx' ?_ fun x hx => by have := w2 x hx; omega)
         obtain ⟨b, o, c, e1, e2, e3, e4⟩ := w1
         refine ⟨b, o, c, e1, e2, e3, fun i u e => ?_⟩
         have e5 := e4 i u e
         refine ⟨Nat.lt_of_lt_of_le e5.1 ni, ?_⟩
         show T.get si.mem _ = _ ∨ T.get si.mem _ = _
         rw [mi _ e5.1, xh.mem _ (Nat.lt_of_lt_of_le e5.1 xg.nxt) fun h => by have := hG _ h; have := e5.1; omega, xg.mem _ e5.1 fun h => h]
         exact e5.2
     cases g with
     | false =>
       simp -implicitDefEqProofs only [Rc, Ad, W_oS, W_on, Aa, W_mv, Ac, T.get_set, reduceIte, AX, By, A7, Bz, AV, Nat.reduceEqDiff, ↓reduceIte, De, Bool.not_false]
       refine fin sh _ _ true hxh (fun _ _ => rfl) (by have := xg.nxt; have := xh.nxt; omega) ZT (by simp [T.get_set]) (by simp [T.get_set]) ?_ fun h => by cases h
       unfold hitB
       rw [← hge]
       rfl
     | true =>
       simp -implicitDefEqProofs only [Rc, Ad, W_oS, W_on, Aa, W_mv, Ac, T.get_set, reduceIte, AX, Bg, A7, Bh, AV, Nat.reduceEqDiff, reduceCtorEq, ↓reduceIte, De, Bool.not_true, k3]
       refine W.loadA BP oh'.row hIl fun si mi ni xi => ?_
       have hxi : Ext (BsF v) Non (s.cxN cxN) si := hxh.step xi hbd (fun x hx h => by
         have h2 : x < s.lim := hx
         have := hG x h
         omega) fun _ h => h.elim
       rw [B8 Ov_ (by decide)]
       have oid : Af si s.next (0 + 0) (u8l h.1) := fun i u e => by
         have hi : i < (u8l h.1).length := (List.getElem?_eq_some_iff.1 e).1
         have := oh18 i u (by unfold AP; rw [List.getElem?_append_left hi]; exact e)
         exact this.same mi ni
       refine W.loadA BP oid.row (by rw [A0]; exact h16) fun sj mj nj xj => ?_
       have hxj : Ext (BsF v) Non (s.cxN cxN) sj := hxi.step xj hbd (fun x hx h => by
         have h2 : x < s.lim := hx
         have h4 : s.next + (0 + 0) ≤ x := h.1
         omega) fun _ h => h.elim
       try simp -implicitDefEqProofs only [Ad, W_oS, W_on, Aa, W_mv, Ac, Bb, T.get_set, Ap, Al, Bj, Bd, Ak, AW, reduceIte, AX, BH, By, BL, Bg, A7, Bh, Bz, AV, Bu, Nat.reduceEqDiff, reduceCtorEq, ↓reduceIte]
       rw [SR PC hid h16]
       try simp -implicitDefEqProofs only [Ad, W_oS, W_on, Aa, W_mv, Ac, Bb, T.get_set, Ap, Al, Bj, Bd, Ak, AW, reduceIte, AX, BH, By, BL, Bg, A7, Bh, Bz, AV, Bu, Nat.reduceEqDiff, reduceCtorEq, ↓reduceIte]
       refine fin sj _ _ (!decide (id = h.1)) hxj (fun x _ => by rw [mj, mi]) (by have := xg.nxt; have := xh.nxt; omega) ZT (by simp [T.get_set]) (by simp [T.get_set]) ?_ fun _ => rfl
       unfold hitB
       rw [← hge, ← hide, Bool.true_and]
   refine Y7 hbe (hbs0.ext0 hxe) hby (by omega) g1 g2 p3 (by omega) (fun hg sf w xf hw1 hw2 => ?_) fun hg sf xf => ?_
   · have e1 : C8 l h.2.1 h.2.2 = BZ l h.2.1 h.2.2 := if_pos hg
     have e2 : Cc l h.2.1 h.2.2 = decide (idB (Co l h.2.1 h.2.2) = BZ l h.2.1 h.2.2) := by unfold Cc; rw [decide_eq_true hg, Bool.true_and]
     exact rest sf w _ _ xf (MJ p3) e1.symm e2.symm (by obtain ⟨b, o, c, rfl, _⟩ := hw1; rfl) fun _ => ⟨hw1, hw2⟩
   · have e1 : C8 l h.2.1 h.2.2 = Jz := if_neg hg
     have e2 : Cc l h.2.1 h.2.2 = false := by unfold Cc; rw [decide_eq_false hg, Bool.false_and]
     exact rest sf _ _ _ xf rfl e1.symm e2.symm rfl fun h => by cases h
structure Good (l : List Nat) (h : Hd) : Prop where
  ok : Cn l h.2.1 = true
  sz : Be l h.2.1 = h.2.2
  good : Cc l h.2.1 h.2.2 = true
  id : C8 l h.2.1 h.2.2 = h.1
theorem RI_ : arrN envS 26 = some (16, 1) := by kernel_rfl
def recB (b : List Nat) : List Nat := BR b.length ++ gput (idB b ++ b)
theorem DI (b : List Nat) : (recB b).length = b.length + 26 := by
 unfold recB
 rw [List.length_append, Fk, List.length_append, B1, Fd]
 omega
theorem JJ_ {b : List Nat} (h : Byt b) : Byt (recB b) := fun x hx => by
 rcases List.mem_append.1 hx with hx | hx
 · exact VN_ _ x hx
 · refine (Byt.gput (l := idB b ++ b) fun y hy => ?_) x hx
   rcases List.mem_append.1 hy with hy | hy
   · exact Ud b y hy
   · exact h y hy
theorem Xy (u v : Value) (l m : List Nat) : fl [(u, l), (v, m)] = l ++ m := by
 simp [fl]
theorem JS (u v : Value) (l m : List Nat) : tot [(u, l), (v, m)] = l.length + m.length := by
 simp [tot]
theorem Bs.cell1 {s : St} {v : Value} {l : List Nat} (h : Bs s v l) : cellsOf v = [v] := by
 obtain ⟨p, c, rfl⟩ := h.sl
 rfl
theorem X6 {a b z : Value} (ha : cellsOf a = [a]) (hb : cellsOf b = [b]) : Df (fun k => some (k * 1, 1)) [(0, a), (1, b)] (rep 2 [z]) = some [a, b] := by
 unfold Df
 simp -implicitDefEqProofs only [ha, hb]
 rfl
theorem EI_ {C3 C5 C6 n : Nat} {v : Value} {b : List Nat} {tm : T Value} {td : List Item} {s s0 : St} {Q : Value → St → Prop} (hb : s.lim ≤ s.next) (hcx : s.cx = cxN) (hbs : Bs s v b) (hby : Byt b) (hb1 : 1 ≤ b.length) (hb2 : b.length ≤ 1024) (hv3 : ∀ x, BsF v x → x < C3) (h35 : C3 + 16 ≤ C5) (h56 : C5 + 6 ≤ C6) (h6 : C6 + 16 ≤ s.next) (hs0 : s0.next ≤ C3)
   (o3 : AT s C3 0 16) (o5 : Af s C5 0 (u8l (BR b.length))) (o6 : Af s C6 0 (u8l (idB b))) (k0 : T.get tm 0 = some v) (k3 : T.get tm 3 = some (.pointer (some ⟨C3, 0, none⟩))) (k5 : T.get tm 5 = some (.pointer (some ⟨C5, 0, none⟩))) (k6 : T.get tm 6 = some (.pointer (some ⟨C6, 0, none⟩))) (hT : skim 64 td = GM) (hn : 10000 ≤ n)
   (q : ∀ s1 w, Ext (fun x => BsF v x ∨ C3 ≤ x) (fun x => C3 ≤ x) s s1 → Bn s1 w (recB b) → (∀ x, BsF w x → s.next ≤ x) → Q (.tuple #[w, .agg (u8l (idB b)).toArray, .int .i64 0]) (s1.cxN s0.cx)) :
   W (runF envS n ⟨17, Op_, Dm, tm, td, .run, .normal, none⟩) s fun p s1 => Q p.1 (s1.cxN s0.cx) := by
 have hIl : (u8l (idB b)).length = 16 := by rw [A0]; exact B1 b
 have hne : b ≠ [] := fun h => by rw [h] at hb1; simp at hb1
 have hbn : Bn s v b := hbs.bn' hne
 refine EU_.w hT (by omega) ?_
 simp -implicitDefEqProofs only [Be_, k0, k5, k6, Ci, Dx, Ap, Al, Bj, Bd, Ak, El]
 rw [W_dq fun s Q => Gl (s := s) (lo := none) (hi := none) (l := 0) (h := 6) Wt (BD (by decide)) rfl rfl (Nat.zero_le _) (Nat.le_refl _) Q, if_neg (by decide)]
 rw [W_dq fun s Q => Gl (s := s) (lo := none) (hi := none) (l := 0) (h := 16) RI_ (BD (by decide)) rfl rfl (Nat.zero_le _) (Nat.le_refl _) Q, if_neg (by decide)]
 simp -implicitDefEqProofs only [A5]
 have B5 : Bs s (.slice (some ⟨C5, 0 + 0 * 1, none⟩) (6 - 0) (6 - 0)) (BR b.length) := Af.bn o5 (BD (by simp [BR]))
 have B6 : Bs s (.slice (some ⟨C6, 0 + 0 * 1, none⟩) (16 - 0) (16 - 0)) (idB b) := by
   have := Af.bn o6 (BD (by rw [B1]; decide))
   rw [B1] at this
   exact this
 have hw6 : ∀ x, BsF (.slice (some ⟨C6, 0 + 0 * 1, none⟩) (16 - 0) (16 - 0)) x → In C6 0 16 x := fun x h => ⟨h.1, h.2⟩
 generalize (.slice (some ⟨C6, 0 + 0 * 1, none⟩) (16 - 0) (16 - 0) : Value) = w6 at *
 have hw5 : ∀ x, BsF (.slice (some ⟨C5, 0 + 0 * 1, none⟩) (6 - 0) (6 - 0)) x → In C5 0 6 x := fun x h => ⟨h.1, h.2⟩
 generalize (.slice (some ⟨C5, 0 + 0 * 1, none⟩) (6 - 0) (6 - 0) : Value) = w5 at *
 refine W.dop (W.buildS (s := oSt s.mem s.next) (Nat.le_refl _) (r := [w6, v]) Se (by decide) (X6 B6.cell1 hbs.cell1) (BD (by decide)) fun sa na xa oa => ⟨Non, xa, fun rda hra => ?_⟩)
 have na' : sa.next = s.next + 3 := na
 have hrda : rda = [] := by
   cases rda with
   | nil => rfl
   | cons y _ => exact (hra y (by simp)).2.elim
 subst hrda
 have up : ∀ {w : Value} {l : List Nat}, Bs s w l → Bs (oSt sa.mem sa.next) w l := fun h => ((h.same (s' := oSt s.mem s.next) rfl rfl).ext0 xa).same rfl rfl
 have oa' : Af sa s.next 0 [w6, v] := oa
 refine W.dop (Rp (s := oSt sa.mem sa.next) (parts := [(w6, idB b), (v, b)]) (b := s.next) (o := 0) (c := 2) (Nat.le_refl _) ⟨fun i u e => ((oa' i u e).same rfl rfl).at', fun p hp => ?_⟩ (by rw [JS, B1]; omega) (by rw [JS, B1]; omega) (by simp) (by simp; omega) fun sb w4 xb hw4 => ⟨_, xb, fun rdb hrb => ?_⟩)
 · rcases List.mem_cons.1 hp with rfl | hp
   · exact up B6
   · rcases List.mem_cons.1 hp with rfl | hp
     · exact up hbs
     · cases hp
 have nb' : sa.next ≤ sb.next := xb.nxt
 rw [Xy] at hw4
 have hIb : Byt (idB b ++ b) := fun y hy => by
   rcases List.mem_append.1 hy with hy | hy
   · exact Ud b y hy
   · exact hby y hy
 refine W.dop (Vj (s := oSt sb.mem sb.next) (Nat.le_refl _) (by omega) (hw4.bn.same rfl rfl) hIb (by rw [List.length_append, B1]; omega) fun sc w7 xc hw7 => ⟨_, xc, fun rdc hrc => ?_⟩)
 have nc' : sb.next ≤ sc.next := xc.nxt
 refine W.dop (W.buildS (s := oSt sc.mem sc.next) (Nat.le_refl _) (r := [w5, w7]) Se (by decide) (X6 B5.cell1 hw7.bn.bs.cell1) (BD (by decide)) fun sd nd xd od => ⟨Non, xd, fun rdd hrd => ?_⟩)
 have nd' : sd.next = sc.next + 3 := nd
 have hrdd : rdd = [] := by
   cases rdd with
   | nil => rfl
   | cons y _ => exact (hrd y (by simp)).2.elim
 subst hrdd
 have up2 : ∀ {w : Value} {l : List Nat}, Bs s w l → Bs (oSt sd.mem sd.next) w l := fun h => (((((((up h).ext0 xb).same (s' := oSt sb.mem sb.next) rfl rfl).ext0 xc).same (s' := oSt sc.mem sc.next) rfl rfl).ext0 xd).same rfl rfl)
 have B7 : Bs (oSt sd.mem sd.next) w7 (gput (idB b ++ b)) := (((hw7.bn.bs.same (s' := oSt sc.mem sc.next) rfl rfl).ext0 xd).same rfl rfl)
 have od' : Af sd sc.next 0 [w5, w7] := od
 refine W.dop (Rp (s := oSt sd.mem sd.next) (parts := [(w5, BR b.length), (w7, gput (idB b ++ b))]) (b := sc.next) (o := 0) (c := 2) (Nat.le_refl _) ⟨fun i u e => ((od' i u e).same rfl rfl).at', fun p hp => ?_⟩ (by rw [JS, Fk, List.length_append, B1, Fd]; omega) (by rw [JS, Fk, List.length_append, B1, Fd]; omega) (by simp) (by simp; omega) fun se w8 xe hw8 => ⟨_, xe, fun rde hre => ?_⟩)
 · rcases List.mem_cons.1 hp with rfl | hp
   · exact up2 B5
   · rcases List.mem_cons.1 hp with rfl | hp
     · exact B7
     · cases hp
 have ne' : sd.next ≤ se.next := xe.nxt
 rw [Xy] at hw8
 have keep : ∀ bk o u, Own s bk o u → Own se bk o u := fun bk o u h => ((((((((h.same (s' := oSt s.mem s.next) rfl rfl).ext0 xa).same (s' := oSt sa.mem sa.next) rfl rfl).ext0 xb).same (s' := oSt sb.mem sb.next) rfl rfl).ext0 xc).same (s' := oSt sc.mem sc.next) rfl rfl).ext0 xd |>.same (s' := oSt sd.mem sd.next) rfl rfl).ext0 xe
 have o6e : Af (dSt se.mem se.next) C6 0 (u8l (idB b)) := fun i u e => (keep _ _ _ (o6 i u e)).same rfl rfl
 refine W.dloadA BP o6e.row hIl fun memf rdf hmf hrf => ?_
 subst hmf
 simp -implicitDefEqProofs only [A5, Bb, T.get_set, Nat.reduceEqDiff, ↓reduceIte, k3, Ci]
 have o3e : AT (oSt se.mem se.next) C3 0 16 := fun j hj => by
   obtain ⟨u, hu⟩ := o3 j hj
   exact ⟨u, (keep _ _ _ hu).same rfl rfl⟩
 refine W.dopG (W.store BP hIl (BT _) o3e fun sg ng xg og => ⟨In C3 0 16, In C3 0 16, xg, fun rdg wrg hrg hwg => ?_⟩)
 rw [Aa]
 have ng' : sg.next = se.next := ng
 refine ⟨FS ?_, ?_⟩
 · simp -implicitDefEqProofs only [List.reverse_cons, List.reverse_nil, List.nil_append, List.cons_append, allP, Dw, List.take, ET]
   have ff : ∀ x, x ∈ rdf → ¬ s.next ≤ x := fun x hx => by have := (hrf x hx).2; omega
   have lts : ∀ x, s.next ≤ x → ¬ x < s.next := fun x h => by omega
   simp +contextual [ff, lts]
   repeat' first
     | exact .inl rfl
     | apply And.intro
 · refine W.cast (TU_ _ _ _ _ _ _ _ _ _ _ _ _ _ _ _) ?_
   simp -implicitDefEqProofs only [Ad, W_oS, Aa, Bb]
   generalize hs' : (⟨(dSt sg.mem sg.next).mem, (dSt sg.mem sg.next).next, s.lim, _, _, s.cx⟩ : St) = s7
   have hZ : ∀ b k x : Nat, C3 ≤ b → In b 0 k x → C3 ≤ x := fun b k x h h2 => by have := h2.1; omega
   have hPa : ∀ x, Cz s.next 0 [(w6, idB b), (v, b)] x → BsF v x ∨ C3 ≤ x := fun x h => by
     rcases h with h | ⟨p, hp, h⟩
     · exact .inr (hZ _ _ _ (by omega) h)
     · rcases List.mem_cons.1 hp with rfl | hp
       · exact .inr (hZ _ _ _ (by omega) (hw6 x h))
       · rcases List.mem_cons.1 hp with rfl | hp
         · exact .inl h
         · cases hp
   have hPb : ∀ x, Cz sc.next 0 [(w5, BR b.length), (w7, gput (idB b ++ b))] x → BsF v x ∨ C3 ≤ x := fun x h => by
     rcases h with h | ⟨p, hp, h⟩
     · exact .inr (hZ _ _ _ (by omega) h)
     · rcases List.mem_cons.1 hp with rfl | hp
       · exact .inr (hZ _ _ _ (by omega) (hw5 x h))
       · rcases List.mem_cons.1 hp with rfl | hp
         · have h1 := hw7.new x h
           have h2 : (oSt sb.mem sb.next).next = sb.next := rfl
           exact .inr (by omega)
         · cases hp
   have x7 : Ext (fun x => BsF v x ∨ C3 ≤ x) (fun x => C3 ≤ x) s s7 := by
     rw [← hs']
     refine Ext.drawG (by show s.next ≤ sg.next; omega) (fun x hx hg => ?_) ?_ ?_
     · exact (xg.mem x (by show x < se.next; omega) fun h => hg (hZ _ _ x (by omega) h)).trans ((xe.mem x (by show x < sd.next; omega) id).trans ((xd.mem x (by show x < sc.next; omega) id).trans ((xc.mem x (by show x < sb.next; omega) id).trans ((xb.mem x (by show x < sa.next; omega) id).trans (xa.mem x hx id)))))
     · simp -implicitDefEqProofs only [List.mem_cons, List.not_mem_nil, or_false]
       rintro m (rfl | rfl | rfl | rfl | rfl | rfl | rfl | rfl | rfl | rfl | rfl) x hx _ <;> first | (cases hx; done) | (exact hZ _ _ x (by omega) (hwg x hx).2)
     · simp -implicitDefEqProofs only [List.mem_cons, List.not_mem_nil, or_false]
       rintro m (rfl | rfl | rfl | rfl | rfl | rfl | rfl | rfl | rfl | rfl | rfl) x hx _ <;> first | (cases hx; done) | (exact .inr (hZ _ _ x (by omega) (hrg x hx).2)) | (exact .inr (hZ _ _ x (by omega) (hrf x hx))) | (exact hPb x (hre x hx).2) | (exact hPa x (hrb x hx).2) | (have h1 := hw4.new x (hrc x hx).2; have h2 : (oSt sa.mem sa.next).next = sa.next := rfl; exact .inr (by omega))
   have m7 : s7.mem = sg.mem := by rw [← hs']; rfl
   have n7 : s7.next = sg.next := by rw [← hs']; rfl
   have o7 : Af s7 C3 0 (u8l (idB b)) := fun i u e => (og i u e).same m7 n7
   have b7 : Bn s7 w8 (BR b.length ++ gput (idB b ++ b)) := ((hw8.bn.same (s' := oSt se.mem se.next) rfl rfl).ext xg fun x hx h => by
     have h1 := hw8.new x hx
     have h2 : (oSt sd.mem sd.next).next = sd.next := rfl
     have h3 : x < C3 + 0 + 16 := h.2
     omega).same m7 n7
   refine W.endG KO_ (.inl Uw_) (by omega) NU BS_ (x7.cx.trans hcx) ?_
   refine W.resTmp (v := w8) (by simp [T.get_set]) (W.resCell (a := ⟨C3, 0, none⟩) (by simp [T.get_set, k3]) ?_)
   refine W.loadA BP o7.row hIl fun sh mh nh xh => ?_
   refine W.resTmp (v := .int .i64 0) (by simp [T.get_set]) (W.resNil ?_)
   exact q sh w8 (x7.trans xh hb (fun x _ h => .inr (hZ _ _ x (by omega) h)) fun _ _ h => h.elim) (b7.same mh nh) fun x hx => by
     have h1 := hw8.new x hx
     have h2 : (oSt sd.mem sd.next).next = sd.next := rfl
     omega
theorem HG_ {n : Nat} {v : Value} {b : List Nat} {s : St} {Q : Value → St → Prop} (hbd : s.lim ≤ s.next) (hbs : Bs s v b) (hlt : ∀ x, BsF v x → x < s.next) (hby : Byt b) (hn : 60000 ≤ n)
   (q0 : b.length = 0 → ∀ s1, Ext (BsF v) Non s s1 → Q (.tuple #[.slice none 0 0, .agg (u8l (List.replicate 16 0)).toArray, .int .i64 2]) s1)
   (q1 : 1024 < b.length → ∀ s1, Ext (BsF v) Non s s1 → Q (.tuple #[.slice none 0 0, .agg (u8l (List.replicate 16 0)).toArray, .int .i64 3]) s1)
   (q2 : 1 ≤ b.length → b.length ≤ 1024 → ∀ s1 w, Ext (BsF v) Non s s1 → Bn s1 w (recB b) → (∀ x, BsF w x → s.next ≤ x) → Q (.tuple #[w, .agg (u8l (idB b)).toArray, .int .i64 0]) s1) :
   W (Au envS (runF envS n) 17 [v]) s Q := by
 refine Ut_ fun tm h0 => ?_
 have hB : Bs (s.cxN cxN) v b := hbs.same rfl rfl
 refine Dw_.w rfl (by omega) ?_
 simp -implicitDefEqProofs only [VV, Ad, Aa, W_mv, Ac]
 refine W.alloc DU fun sa na xa oa => ?_
 have na' : sa.next = s.next + 17 := na
 have hxa : Ext (BsF v) Non (s.cxN cxN) sa := (Ext.refl _).step xa hbd (fun _ _ h => h.elim) fun _ h => h.elim
 have hG : ∀ x, In s.next 0 16 x → s.next ≤ x := fun x h => by have := h.1; omega
 refine Vr_.w Lo_ (by omega) ?_
 simp -implicitDefEqProofs only [AK_, Ad, W_oS, Aa, W_mv, Ac, T.get_set, Ap, Al, Ak, reduceIte, reduceCtorEq, ↓reduceIte, h0]
 rw [(hB.ext0 xa).len A1]
 simp -implicitDefEqProofs only [Gv]
 have zero : ∀ sz : St, Ext (BsF v) Non (s.cxN cxN) sz → sz.mem = sa.mem → sz.next = sa.next → ∀ (tmz : T Value) (m : Nat) (td : List Item) (c : Int), 20 ≤ m → skim 64 td = Jw → T.get tmz 2 = some (.slice none 0 0) → T.get tmz 3 = some (.pointer (some ⟨s.next, 0, none⟩)) → (∀ s1, Ext (BsF v) Non s s1 → Q (.tuple #[.slice none 0 0, .agg (u8l (List.replicate 16 0)).toArray, .int .i64 c]) s1) →
     W (A3 envS 26 (.pointer (some ⟨s.next, 0, none⟩)) (.agg (u8l (List.replicate 16 0)).toArray)) sz fun _ s1 => W (runF envS m ⟨17, 31, Dm, T.set tmz 4 (.int .i64 c), td, .run, .normal, none⟩) s1 fun p s1 => Q p.1 (s1.cxN s.cx) := by
   intro sz xz mz nz tmz m td c hm hT h2 h3 q
   have ho : AT sz s.next 0 16 := fun j hj => by
     obtain ⟨u, hu⟩ := Af.owned oa j (by simpa using hj)
     exact ⟨u, hu.same mz nz⟩
   refine W.store BP rfl (BT _) ho fun sc nc xc oc => ?_
   have hxc : Ext (BsF v) Non (s.cxN cxN) sc := xz.step xc hbd (fun x hx h => by
     have h2 : x < s.lim := hx
     have := hG x h
     omega) hG
   refine W.endG hT (.inl LW_) (by omega) NU BS_ hxc.cx ?_
   refine W.resTmp (v := .slice none 0 0) (by simp [T.get_set, h2]) (W.resCell (a := ⟨s.next, 0, none⟩) (by simp [T.get_set, h3]) ?_)
   refine W.loadA BP oc.row rfl fun sd md nd xd => ?_
   have hxd : Ext (BsF v) Non (s.cxN cxN) sd := hxc.step xd hbd (fun x hx h => by
     have h2 : x < s.lim := hx
     have := hG x h
     omega) fun _ h => h.elim
   refine W.resTmp (v := .int .i64 c) (by simp [T.get_set]) (W.resNil ?_)
   exact q _ hxd.cx'
 by_cases hz : b.length = 0
 · refine W.cond (v := true) XG Vv (by simp [T.get_set, hz]) (by omega) (fun _ => ?_) fun h => by cases h
   refine KT_.w Jw_ (by omega) ?_
   simp -implicitDefEqProofs only [YY, Ad, W_oS, Aa, W_mv, Ac, T.get_set, Bd, reduceIte, Nat.reduceEqDiff, ↓reduceIte, D8 N6]
   exact zero sa hxa rfl rfl _ _ _ 2 (by omega) HO_ (by simp [T.get_set]) (by simp [T.get_set]; rfl) (q0 hz)
 refine W.cond (v := false) XG Vv (by simp [T.get_set]; exact fun h => hz (by rw [h]; rfl)) (by omega) (fun h => by cases h) fun _ => ?_
 refine Ms_.w Vs_ (by omega) ?_
 simp -implicitDefEqProofs only [YN, Ad, W_oS, Aa, W_mv, Ac, T.get_set, Ap, Al, Ak, reduceIte, reduceCtorEq, ↓reduceIte, h0]
 rw [(hB.ext0 xa).len A1]
 simp -implicitDefEqProofs only [Dk]
 by_cases hz2 : 1024 < b.length
 · refine W.cond (v := true) BF_ Xs (by simp [T.get_set]; omega) (by omega) (fun _ => ?_) fun h => by cases h
   refine Gu_.w RP_ (by omega) ?_
   simp -implicitDefEqProofs only [ZG, Ad, W_oS, Aa, W_mv, Ac, T.get_set, Bd, reduceIte, Nat.reduceEqDiff, ↓reduceIte, D8 N6]
   exact zero sa hxa rfl rfl _ _ _ 3 (by omega) KI_ (by simp [T.get_set]) (by simp [T.get_set]; rfl) (q1 hz2)
 refine W.cond (v := false) BF_ Xs (by simp [T.get_set]; omega) (by omega) (fun h => by cases h) fun _ => ?_
 refine RD_.w CN_ (by omega) ?_
 simp -implicitDefEqProofs only [Cr_, Ad, W_oS, W_on, Aa, W_mv, Ac, T.get_set, Ap, Al, Ak, AW, reduceIte, reduceCtorEq, ↓reduceIte, h0]
 rw [(hB.ext0 xa).len A1]
 refine Z5 (hxa.bnd hbd) (by omega) fun sb xb => ?_
 have hxb : Ext (BsF v) Non (s.cxN cxN) sb := hxa.step xb hbd (fun _ _ h => h.elim) fun _ h => h.elim
 refine Ry (hxb.bnd hbd) ((hB.ext0 xa).ext0 xb) (fun x hx => by have := hlt x hx; have := xb.nxt; omega) hby (by omega) (by omega) fun sc xc => ?_
 have hxc : Ext (BsF v) Non (s.cxN cxN) sc := hxb.step xc hbd (fun _ _ h => h) fun _ h => h.elim
 refine W.alloc WU fun sd nd xd od => ?_
 have nd' : sd.next = sc.next + 7 := nd
 have hxd : Ext (BsF v) Non (s.cxN cxN) sd := hxc.step xd hbd (fun _ _ h => h.elim) fun _ h => h.elim
 refine W.alloc DU fun se ne xe oe => ?_
 have ne' : se.next = sd.next + 17 := ne
 have hxe : Ext (BsF v) Non (s.cxN cxN) se := hxd.step xe hbd (fun _ _ h => h.elim) fun _ h => h.elim
 have hHl : (u8l (BR b.length)).length = 6 := by rw [A0]; exact Fd _
 have hIl : (u8l (idB b)).length = 16 := by rw [A0]; exact B1 b
 have lb := xb.nxt
 have lc := xc.nxt
 have o5 : AT se sc.next 0 6 := (Af.owned od).ext1 xe fun _ _ h => h
 refine W.store MU hHl (BT _) o5 fun sf nf xf of => ?_
 have o6 : AT sf sd.next 0 16 := (Af.owned oe).ext1 xf fun x h h' => by
   have h1 : x < sc.next + 0 + 6 := h'.2
   have h2 := h.1
   omega
 refine W.store BP hIl (BT _) o6 fun sg ng xg og => ?_
 have hGf : ∀ x, In sc.next 0 6 x → s.next ≤ x := fun x h => by have := h.1; omega
 have hGg : ∀ x, In sd.next 0 16 x → s.next ≤ x := fun x h => by have := h.1; omega
 have hxf : Ext (BsF v) Non (s.cxN cxN) sf := hxe.step xf hbd (fun x hx h => by
   have h2 : x < s.lim := hx
   have := hGf x h
   omega) hGf
 have hxg : Ext (BsF v) Non (s.cxN cxN) sg := hxf.step xg hbd (fun x hx h => by
   have h2 : x < s.lim := hx
   have := hGg x h
   omega) hGg
 have hng : sg.next = sd.next + 17 := by rw [ng, nf, ne']
 have o3 : AT sg s.next 0 16 := ((((((Af.owned oa).ext1 xb fun _ _ h => h).ext1 xc fun _ _ h => h).ext1 xd fun _ _ h => h).ext1 xe fun _ _ h => h).ext1 xf fun x h h' => by
   have h1 : x < s.next + 0 + 16 := h.2
   have h2 := h'.1
   omega).ext1 xg fun x h h' => by
   have h1 : x < s.next + 0 + 16 := h.2
   have h2 := h'.1
   omega
 have o5g : Af sg sc.next 0 (u8l (BR b.length)) := fun i u e => (of i u e).ext xg fun h => by
   have h1 := h.1
   have h2 : i < 6 := by rw [← hHl]; exact (List.getElem?_eq_some_iff.1 e).1
   omega
 have hBg : Bs sg v b := (((((((hB.ext0 xa).ext0 xb).ext0 xc).ext0 xd).ext0 xe).ext xf fun x hx h => by
   have := hGf x h
   have := hlt x hx
   omega).ext xg fun x hx h => by
   have := hGg x h
   have := hlt x hx
   omega)
 refine EI_ (C3 := s.next) (C5 := sc.next) (C6 := sd.next) (v := v) (b := b) (s0 := s) (hxg.bnd hbd) hxg.cx hBg hby (by omega) (by omega) hlt (by omega) (by omega) (by omega) (Nat.le_refl _) o3 o5g og (by simp [T.get_set, h0]) (by simp [T.get_set]) (by simp [T.get_set]) (by simp [T.get_set]) HF_ (by omega) fun s1 w x1 hw hn1 => ?_
 have hx1 : Ext (BsF v) Non (s.cxN cxN) s1 := hxg.step x1 hbd (fun x hx h => by
   have h2 : x < s.lim := hx
   rcases h with h | h
   · exact h
   · omega) fun _ h => h
 exact q2 (by omega) (by omega) _ w hx1.cx' (hw.same rfl rfl) fun x hx => by have := hn1 x hx; omega
section
variable {P : Program} {E : Env} {s : St} {t : Nat}
def Fe (P : Program) (t : Nat) : Bool := match P.underlying t with
  | some (.struct fs) => (match fs.toList with
    | [f0, f1, f2] => f0.name != "_" && f1.name != "_" && f2.name != "_" && Nat.beq f0.offset 0 && Nat.beq f1.offset 16 && Nat.beq f2.offset 17 && !P.stoodInHeld t && !P.eqGuardType P.depth t &&
      (match P.underlying f0.type, P.info? f0.type, P.underlying f1.type, P.underlying f2.type with
      | some (.array 16 e), some i0, some (.int .i64), some (.int .i64) => Nat.beq i0.size 16 && (match P.underlying e, P.info? e with | some (.int .u8), some i => Nat.beq i.size 1 | _, _ => false)
      | _, _, _, _ => false)
    | _ => false)
  | _ => false
theorem Kt_ {cs : Array Value} {off e : Nat} {i : TypeInfo} (hu : P.underlying t = some (.array 16 e)) (hi : P.info? t = some i) (hz : i.size = 16) : semP P (part t cs off) = some (.agg (cs.extract off (off + 16))) := by
 unfold part isAgg
 rw [BQ, BQ, GG hu]
 simp -implicitDefEqProofs only [Option.bind_some, DB, if_true, BQ, Vl hi, hz]
theorem AP_ {d : Nat} {a : Int} (hu : P.underlying t = some (.int .i64)) : semP P (Op.equalIn (d + 1) t (.int .i64 a) (.int .i64 a)) = some true := by
 simp -implicitDefEqProofs only [Op.equalIn, BQ, GG hu, Option.bind_some, if_true, DB, beq_self_eq_true]
theorem ON_ {h : Hd} (h16 : h.1.length = 16) : (AP h).toArray.extract 0 (0 + 16) = (u8l h.1).toArray := by
 apply Array.ext'
 rw [Array.toList_extract]
 simp -implicitDefEqProofs only [List.extract, Nat.zero_add, List.drop_zero, Nat.sub_zero]
 unfold AP
 rw [List.take_left' (by rw [A0]; exact h16)]
theorem PI_ {h : Hd} (h16 : h.1.length = 16) : (AP h).toArray[16]? = some (.int .i64 (h.2.1 : Nat)) ∧ (AP h).toArray[17]? = some (.int .i64 (h.2.2 : Nat)) := by
 rw [List.getElem?_toArray, List.getElem?_toArray]
 exact GO h16
theorem Km_ (d : Nat) {h : Hd} (h16 : h.1.length = 16) (hT : Fe P t = true) : semP P (Op.equalIn (d + 3) t (.agg (AP h).toArray) (.agg (AP h).toArray)) = some true := by
 unfold Fe at hT
 split at hT
 · rename_i fs hu
   split at hT
   · rename_i f0 f1 f2 hfs
     simp -implicitDefEqProofs only [Bool.and_eq_true, bne_iff_ne, ne_eq, Bool.not_eq_true'] at hT
     obtain ⟨⟨⟨⟨⟨⟨⟨⟨n0, n1⟩, n2⟩, o0⟩, o1⟩, o2⟩, st⟩, _⟩, rest⟩ := hT
     split at rest
     · rename_i e i0 u0 i0' u1 u2
       rw [Bool.and_eq_true] at rest
       obtain ⟨z0, rest⟩ := rest
       split at rest
       · rename_i ie ue hie
         have o0 := Nat.eq_of_beq_eq_true o0
         have o1 := Nat.eq_of_beq_eq_true o1
         have o2 := Nat.eq_of_beq_eq_true o2
         have z0 := Nat.eq_of_beq_eq_true z0
         have z1 := Nat.eq_of_beq_eq_true rest
         obtain ⟨hc1, hc2⟩ := PI_ h16
         have hp : semP P program = some P := rfl
         rw [show d + 3 = (d + 2) + 1 from rfl]
         unfold Op.equalIn
         simp -implicitDefEqProofs only [BQ, GG hu, Option.bind_some, hp, st, Bool.false_eq_true, if_false]
         rw [← Array.forIn_toList, hfs]
         simp -implicitDefEqProofs only [List.forIn_cons, List.forIn_nil, n0, n1, n2, not_false_eq_true, if_true, BQ, o0, o1, o2, ne_eq]
         rw [Kt_ u0 i0' z0, ON_ h16]
         simp -implicitDefEqProofs only [Option.bind_some]
         rw [show d + 2 = d + 2 from rfl, OM d h.1 h.1 u0 hie z1 ue h16 h16]
         simp -implicitDefEqProofs only [Option.bind_some, decide_true, Bool.not_true, Bool.false_eq_true, if_false, DB, BQ]
         rw [K7 u1 hc1]
         simp -implicitDefEqProofs only [Option.bind_some]
         rw [show d + 2 = (d + 1) + 1 from rfl, AP_ u1]
         simp -implicitDefEqProofs only [Option.bind_some, Bool.not_true, Bool.false_eq_true, if_false, DB, BQ]
         rw [K7 u2 hc2]
         simp -implicitDefEqProofs only [Option.bind_some]
         rw [AP_ u2]
         simp -implicitDefEqProofs only [Option.bind_some, Bool.not_true, Bool.false_eq_true, if_false, DB]
       · cases rest
     · cases rest
   · cases hT
 · cases hT
theorem NS_ (h : Hd) : plain (.agg (AP h).toArray) = true := by
 show (AP h).toArray.toList.all (Bk 3) = true
 rw [List.all_eq_true]
 intro v hv
 have hv' : v ∈ AP h := hv
 unfold AP at hv'
 rcases List.mem_append.1 hv' with hv | hv
 · obtain ⟨n, _, rfl⟩ := List.mem_map.1 hv
   rfl
 · simp -implicitDefEqProofs only [List.mem_cons, List.not_mem_nil, or_false] at hv
   rcases hv with rfl | rfl <;> rfl
theorem Ml_ {xo yo : Operand} {cs cs' : Array Value} (hg : P.eqGuardType P.depth t = false) : semP P (eqGuard .neq t xo yo (.agg cs) (.agg cs')) = some () := by
 have hp : semP P program = some P := rfl
 unfold eqGuard
 simp -implicitDefEqProofs only [Bool.not_true, Bool.not_false, Bool.false_eq_true, if_false, if_true, BQ, hp, Option.bind_some, hg, DB]
theorem Qv_ (h : Fe P t = true) : P.eqGuardType P.depth t = false := by
 unfold Fe at h
 split at h
 · split at h
   · simp -implicitDefEqProofs only [Bool.and_eq_true, bne_iff_ne, ne_eq, Bool.not_eq_true'] at h
     exact h.1.2
   · cases h
 · cases h
theorem TA_ {h : Hd} {xo yo : Operand} (h16 : h.1.length = 16) (hT : Fe E.P t = true) : Cl.get (aBin E .neq t xo yo) (.agg (AP h).toArray) (.agg (AP h).toArray) s = .some (.bool false) s := by
 show A6 E .neq t xo yo (.agg (AP h).toArray) (.agg (AP h).toArray) s = _
 unfold A6
 rw [NS_]
 show M.on (semP E.P (do eqGuard .neq t xo yo (.agg (AP h).toArray) (.agg (AP h).toArray); binOp .neq t (.agg (AP h).toArray) (.agg (AP h).toArray))) pV s = _
 rw [BQ, Ml_ (Qv_ hT)]
 show M.on (semP E.P (do pure (.bool (!(← Op.equalIn (9997 + 3) t (.agg (AP h).toArray) (.agg (AP h).toArray)))))) pV s = _
 rw [BQ, Km_ 9997 h16 hT]
 rfl
theorem JW_ {h : Hd} {xo yo : Operand} (h16 : h.1.length = 16) (hT : Fe E.P t = true) (Q : Value → St → Prop) : W (Cl.get (aBin E .neq t xo yo) (.agg (AP h).toArray) (.agg (AP h).toArray)) s Q = Q (.bool false) s := Bc (TA_ h16 hT)
end
theorem WQ_ : Fe envS.P 35 = true := by kernel_rfl
def Bx : Nat := Bt Try.f30
abbrev DL : Nat := 95
def Xv : Code := Try.f30.body.getD .skip
theorem Gk : envS.fn.get 30 = some Try.f30 := by kernel_rfl
theorem ZL {a0 : Value} {n : Nat} {s : St} {Q : Value → St → Prop} (h : ∀ tm, T.get tm 0 = some a0 → W (runF envS n ⟨30, 95, Bx, tm, [.code Xv], .run, .normal, none⟩) (s.cxN cxN) fun p s1 => Q p.1 (s1.cxN s.cx)) : W (Au envS (runF envS n) 30 [a0]) s Q :=
 W.call (by kernel_rfl) (by kernel_rfl) Gk (by kernel_rfl) rfl rfl (by simp) (h _ (by kernel_rfl))
theorem I5 : Try.f30.results.toList = [.tmp 2, .tmp 3, .tmp 4, .tmp 5] := by kernel_rfl
def R8 : List Item := skim 64 [.code Xv]
def NK : List Item := skim 64 R8.tail
theorem Tg : skim 64 R8.tail = NK := by kernel_rfl
def KZ : List Item := skim 64 NK.tail
theorem Yh : skim 64 NK.tail = KZ := by kernel_rfl
def Kx : List Item := skim 64 KZ.tail
theorem W4 : skim 64 KZ.tail = Kx := by kernel_rfl
def J4 : List Item := skim 64 Kx.tail
theorem We : skim 64 Kx.tail = J4 := by kernel_rfl
def Mi : List Item := skim 64 J4.tail
theorem Xh : skim 64 J4.tail = Mi := by kernel_rfl
def Gq : List Item := skim 64 Mi.tail
theorem ZD : skim 64 Mi.tail = Gq := by kernel_rfl
def GY : List Item := skim 64 Gq.tail
theorem NA : skim 64 Gq.tail = GY := by kernel_rfl
def K4 : List Item := skim 64 (brT GY)
theorem Wf_ : skim 64 (brT GY) = K4 := by kernel_rfl
def IE : List Item := skim 64 (brF GY)
theorem OD : skim 64 (brF GY) = IE := by kernel_rfl
def PV : List Item := skim 64 K4.tail
theorem DH_ : skim 64 K4.tail = PV := by kernel_rfl
def Fu : List Item := skim 64 IE.tail
theorem L0 : skim 64 IE.tail = Fu := by kernel_rfl
theorem Fi_ : skim 64 PV.tail = Gq := by kernel_rfl
def LV : List Item := skim 64 (brT Fu)
theorem Ha_ : skim 64 (brT Fu) = LV := by kernel_rfl
def JZ : List Item := skim 64 (brF Fu)
theorem Yp : skim 64 (brF Fu) = JZ := by kernel_rfl
def QT : List Item := skim 64 LV.tail
theorem EL_ : skim 64 LV.tail = QT := by kernel_rfl
def EH : List Item := skim 64 JZ.tail
theorem Yl : skim 64 JZ.tail = EH := by kernel_rfl
def Ht : List Item := skim 64 EH.tail
theorem PF : skim 64 EH.tail = Ht := by kernel_rfl
def LQ : List Item := skim 64 (brT Ht)
theorem Kf_ : skim 64 (brT Ht) = LQ := by kernel_rfl
def Mw : List Item := skim 64 (brF Ht)
theorem AZ_ : skim 64 (brF Ht) = Mw := by kernel_rfl
def Mx : List Item := skim 64 LQ.tail
theorem Sm : skim 64 LQ.tail = Mx := by kernel_rfl
def QE : List Item := skim 64 Mw.tail
theorem Zj : skim 64 Mw.tail = QE := by kernel_rfl
def G1 : List Item := skim 64 Mx.tail
theorem QI : skim 64 Mx.tail = G1 := by kernel_rfl
def Li : List Item := skim 64 (brT G1)
theorem Y6 : skim 64 (brT G1) = Li := by kernel_rfl
def Fg : List Item := skim 64 (brF G1)
theorem JL_ : skim 64 (brF G1) = Fg := by kernel_rfl
def Og : List Item := skim 64 Li.tail
theorem WF : skim 64 Li.tail = Og := by kernel_rfl
def I9 : List Item := skim 64 Fg.tail
theorem FT_ : skim 64 Fg.tail = I9 := by kernel_rfl
def MR : List Item := skim 64 I9.tail
theorem JH_ : skim 64 I9.tail = MR := by kernel_rfl
def Pl : List Item := skim 64 MR.tail
theorem Lw_ : skim 64 MR.tail = Pl := by kernel_rfl
theorem TZ_ : skim 64 Pl.tail = EH := by kernel_rfl
def R5 (E : Env) (call round : Ab) (tm : T Value) : M (T Value) :=
  mv (some (.slice none 0 0)) fun v2 =>
  setF 2 v2 tm fun tm1 =>
  mv (some (.slice none 0 0)) fun v3 =>
  setF 3 v3 tm1 fun tm2 =>
  mv (some (.slice none 0 0)) fun v4 =>
  setF 4 v4 tm2 fun tm3 =>
  mv (some (.bool false)) fun v5 =>
  setF 5 v5 tm3 fun tm4 =>
  M.pure tm4
theorem Wq : RegEq 30 95 Bx R8 R5 := ⟨by kernel_rfl, fun _ _ _ _ _ _ _ _ _ => by kernel_rfl⟩
def QG (E : Env) (call round : Ab) (tm : T Value) : M (T Value) :=
  mv (some (.slice none 0 0)) fun v6 =>
  setF 6 v6 tm fun tm1 =>
  M.pure tm1
theorem Zt : RegEq 30 95 Bx NK QG := ⟨by kernel_rfl, fun _ _ _ _ _ _ _ _ _ => by kernel_rfl⟩
def RF (E : Env) (call round : Ab) (tm : T Value) : M (T Value) :=
  mv (some (.slice none 0 0)) fun v7 =>
  setF 7 v7 tm fun tm1 =>
  M.pure tm1
theorem SL : RegEq 30 95 Bx KZ RF := ⟨by kernel_rfl, fun _ _ _ _ _ _ _ _ _ => by kernel_rfl⟩
def RV (E : Env) (call round : Ab) (tm : T Value) : M (T Value) :=
  mv (some (.slice none 0 0)) fun v8 =>
  setF 8 v8 tm fun tm1 =>
  M.pure tm1
theorem SV : RegEq 30 95 Bx Kx RV := ⟨by kernel_rfl, fun _ _ _ _ _ _ _ _ _ => by kernel_rfl⟩
def Pq (E : Env) (call round : Ab) (tm : T Value) : M (T Value) :=
  mv (some (.int .i64 0)) fun v9 =>
  setF 9 v9 tm fun tm1 =>
  M.pure tm1
theorem SF : RegEq 30 95 Bx J4 Pq := ⟨by kernel_rfl, fun _ _ _ _ _ _ _ _ _ => by kernel_rfl⟩
def PO (E : Env) (call round : Ab) (tm : T Value) : M (T Value) :=
  mv (some (.int .i64 0)) fun v10 =>
  setF 10 v10 tm fun tm1 =>
  M.pure tm1
theorem VO : RegEq 30 95 Bx Mi PO := ⟨by kernel_rfl, fun _ _ _ _ _ _ _ _ _ => by kernel_rfl⟩
def Kj (E : Env) (call round : Ab) (tm : T Value) : M (T Value) :=
  mv (T.get tm 10) fun v15 =>
  mv (T.get tm 0) fun v16 =>
  M.bind (oS (seqO [(some v16)]) fun l => AS E .len [43] l) fun v17 =>
  M.bind (oS (some v15) fun a => oS (some v17) fun b => Cl.get (aBin E .lss 3 (.tmp 15) (.tmp 17)) a b) fun v18 =>
  mv (some v18) fun v19 =>
  M.bind (M.chk (isK v19) (M.if (isB v19 true) (oS (T.get tm 10) fun a => M.pure a) (M.pure undef))) fun v20 =>
  M.bind (M.chk (isK v19) (M.if (isB v19 true) (oS (some v20) fun a => oS (some (.int .i64 21)) fun b => Cl.get (aBin E .lss 3 (.tmp 20) (.const (.int .i64 21))) a b) (M.pure undef))) fun v21 =>
  M.bind (M.on (some v19) fun a => M.on (some v21) fun b => M.on (some (.bool false)) fun c => BI a b c) fun v22 =>
  setF 22 v22 tm fun tm1 =>
  M.pure tm1
theorem Sb : RegEq 30 95 Bx Gq Kj := ⟨by kernel_rfl, fun _ _ _ _ _ _ _ _ _ => by kernel_rfl⟩
theorem Mf : A2 GY = some 22 := by kernel_rfl
def Ac_ (E : Env) (call round : Ab) (tm : T Value) : M (T Value) :=
  mv (T.get tm 9) fun v25 =>
  mv (T.get tm 0) fun v26 =>
  mv (T.get tm 10) fun v27 =>
  M.bind (oS (some v26) fun a => oS (some v27) fun b => BJ E 43 a b) fun v28 =>
  M.bind (oS (some v28) fun a => AQ E 22 a) fun v29 =>
  M.bind (oS (seqO [(some v29)]) fun l => AS E .len [22] l) fun v30 =>
  M.bind (oS (some v25) fun a => oS (some v30) fun b => Cl.get (aBin E .add 3 (.tmp 25) (.tmp 30)) a b) fun v31 =>
  mv (some v31) fun v9 =>
  setF 9 v9 tm fun tm1 =>
  M.pure tm1
theorem Rs_ : RegEq 30 95 Bx K4 Ac_ := ⟨by kernel_rfl, fun _ _ _ _ _ _ _ _ _ => by kernel_rfl⟩
def Sv (E : Env) (call round : Ab) (tm : T Value) : M (T Value) :=
  mv (T.get tm 0) fun v32 =>
  M.bind (oS (seqO [(some v32)]) fun l => AS E .len [43] l) fun v33 =>
  M.bind (oS (some v33) fun a => oS (some (.int .i64 20)) fun b => Cl.get (aBin E .gtr 3 (.tmp 33) (.const (.int .i64 20))) a b) fun v34 =>
  mv (some v34) fun v35 =>
  M.bind (M.chk (isK v35) (M.if (isB v35 false) (oS (T.get tm 9) fun a => M.pure a) (M.pure undef))) fun v36 =>
  M.bind (M.chk (isK v35) (M.if (isB v35 false) (oS (some v36) fun a => oS (some (.int .i64 4000)) fun b => Cl.get (aBin E .gtr 3 (.tmp 36) (.const (.int .i64 4000))) a b) (M.pure undef))) fun v37 =>
  M.bind (M.on (some v35) fun a => M.on (some (.bool true)) fun b => M.on (some v37) fun c => BI a b c) fun v38 =>
  setF 38 v38 tm fun tm1 =>
  M.pure tm1
theorem V6 : RegEq 30 95 Bx IE Sv := ⟨by kernel_rfl, fun _ _ _ _ _ _ _ _ _ => by kernel_rfl⟩
def Tw (E : Env) (call round : Ab) (tm : T Value) : M (T Value) :=
  mv (T.get tm 10) fun v23 =>
  M.bind (oS (some v23) fun a => oS (some (.int .i64 1)) fun b => Cl.get (aBin E .add 3 (.tmp 23) (.const (.int .i64 1))) a b) fun v24 =>
  mv (some v24) fun v10 =>
  setF 10 v10 tm fun tm1 =>
  M.pure tm1
theorem Jd_ : RegEq 30 95 Bx PV Tw := ⟨by kernel_rfl, fun _ _ _ _ _ _ _ _ _ => by kernel_rfl⟩
theorem JJ : A2 Fu = some 38 := by kernel_rfl
def Vf (E : Env) (call round : Ab) (tm : T Value) : M (T Value) :=
  mv (some (.slice none 0 0)) fun v2 =>
  setF 2 v2 tm fun tm1 =>
  mv (some (.slice none 0 0)) fun v3 =>
  setF 3 v3 tm1 fun tm2 =>
  mv (some (.slice none 0 0)) fun v4 =>
  setF 4 v4 tm2 fun tm3 =>
  mv (some (.bool false)) fun v5 =>
  setF 5 v5 tm3 fun tm4 =>
  M.pure tm4
theorem FL_ : RegEq 30 95 Bx LV Vf := ⟨by kernel_rfl, fun _ _ _ _ _ _ _ _ _ => by kernel_rfl⟩
def QK (E : Env) (call round : Ab) (tm : T Value) : M (T Value) :=
  mv (some (.int .i64 0)) fun v11 =>
  setF 11 v11 tm fun tm1 =>
  M.pure tm1
theorem Ts : RegEq 30 95 Bx JZ QK := ⟨by kernel_rfl, fun _ _ _ _ _ _ _ _ _ => by kernel_rfl⟩
theorem Ne_ : ∃ k, QT = .code .ret :: k := ⟨QT.tail, by kernel_rfl⟩
def Mo (E : Env) (call round : Ab) (tm : T Value) : M (T Value) :=
  mv (T.get tm 11) fun v39 =>
  mv (T.get tm 0) fun v40 =>
  M.bind (oS (seqO [(some v40)]) fun l => AS E .len [43] l) fun v41 =>
  M.bind (oS (some v39) fun a => oS (some v41) fun b => Cl.get (aBin E .lss 3 (.tmp 39) (.tmp 41)) a b) fun v42 =>
  setF 42 v42 tm fun tm1 =>
  M.pure tm1
theorem QA : RegEq 30 95 Bx EH Mo := ⟨by kernel_rfl, fun _ _ _ _ _ _ _ _ _ => by kernel_rfl⟩
theorem Q9 : A2 Ht = some 42 := by kernel_rfl
def Wz (E : Env) (call round : Ab) (tm : T Value) : M (T Value) :=
  mv (T.get tm 0) fun v46 =>
  mv (T.get tm 11) fun v47 =>
  M.bind (oS (some v46) fun a => oS (some v47) fun b => BJ E 43 a b) fun v48 =>
  M.bind (oS (some v48) fun a => AQ E 22 a) fun v49 =>
  M.bind (M.on (some (.func (.func 17) #[] #[])) fun f => M.on (seqO [(some v49)]) fun l => AY call round f l) fun v50 =>
  mv (some v50) fun v45 =>
  M.bind (oS (some v45) fun a => kExt 0 a) fun v51 =>
  M.bind (oS (some v45) fun a => kExt 1 a) fun v52 =>
  M.bind (oS (some v45) fun a => kExt 2 a) fun v53 =>
  M.bind (BC E 26) fun v13 =>
  setF 13 v13 tm fun tm1 =>
  mv (some v51) fun v12 =>
  setF 12 v12 tm1 fun tm2 =>
  M.bind (oS (some v13) fun a => oS (some v52) fun b => A3 E 26 a b) fun _ =>
  mv (some v53) fun v14 =>
  setF 14 v14 tm2 fun tm3 =>
  M.pure tm3
theorem PQ_ : RegEq 30 95 Bx LQ Wz := ⟨by kernel_rfl, fun _ _ _ _ _ _ _ _ _ => by kernel_rfl⟩
def RK (E : Env) (call round : Ab) (tm : T Value) : M (T Value) :=
  mv (T.get tm 6) fun v92 =>
  mv (T.get tm 7) fun v93 =>
  mv (T.get tm 8) fun v94 =>
  mv (some v92) fun v2 =>
  setF 2 v2 tm fun tm1 =>
  mv (some v93) fun v3 =>
  setF 3 v3 tm1 fun tm2 =>
  mv (some v94) fun v4 =>
  setF 4 v4 tm2 fun tm3 =>
  mv (some (.bool true)) fun v5 =>
  setF 5 v5 tm3 fun tm4 =>
  M.pure tm4
theorem V0 : RegEq 30 95 Bx Mw RK := ⟨by kernel_rfl, fun _ _ _ _ _ _ _ _ _ => by kernel_rfl⟩
def Nq (E : Env) (call round : Ab) (tm : T Value) : M (T Value) :=
  mv (T.get tm 14) fun v54 =>
  M.bind (oS (some v54) fun a => oS (some (.int .i64 0)) fun b => Cl.get (aBin E .neq 27 (.tmp 54) (.const (.int .i64 0))) a b) fun v55 =>
  mv (some v55) fun v56 =>
  M.bind (M.chk (isK v56) (M.if (isB v56 false) (oS (T.get tm 12) fun a => M.pure a) (M.pure undef))) fun v57 =>
  M.bind (M.chk (isK v56) (M.if (isB v56 false) (oS (seqO [(some v57)]) fun l => AS E .len [22] l) (M.pure undef))) fun v58 =>
  M.bind (M.chk (isK v56) (M.if (isB v56 false) (oS (T.get tm 0) fun a => M.pure a) (M.pure undef))) fun v59 =>
  M.bind (M.chk (isK v56) (M.if (isB v56 false) (oS (T.get tm 11) fun a => M.pure a) (M.pure undef))) fun v60 =>
  M.bind (M.chk (isK v56) (M.if (isB v56 false) (oS (some v59) fun a => oS (some v60) fun b => BJ E 43 a b) (M.pure undef))) fun v61 =>
  M.bind (M.chk (isK v56) (M.if (isB v56 false) (oS (some v61) fun a => AQ E 22 a) (M.pure undef))) fun v62 =>
  M.bind (M.chk (isK v56) (M.if (isB v56 false) (oS (seqO [(some v62)]) fun l => AS E .len [22] l) (M.pure undef))) fun v63 =>
  M.bind (M.chk (isK v56) (M.if (isB v56 false) (M.on (some (.func (.func 20) #[] #[])) fun f => M.on (seqO [(some v63)]) fun l => AY call round f l) (M.pure undef))) fun v64 =>
  M.bind (M.chk (isK v56) (M.if (isB v56 false) (oS (some v58) fun a => oS (some v64) fun b => Cl.get (aBin E .neq 3 (.tmp 58) (.tmp 64)) a b) (M.pure undef))) fun v65 =>
  M.bind (M.on (some v56) fun a => M.on (some (.bool true)) fun b => M.on (some v65) fun c => BI a b c) fun v66 =>
  mv (some v66) fun v67 =>
  M.bind (M.chk (isK v67) (M.if (isB v67 false) (oS (T.get tm 12) fun a => M.pure a) (M.pure undef))) fun v68 =>
  M.bind (M.chk (isK v67) (M.if (isB v67 false) (oS (seqO [(some v68)]) fun l => AS E .len [22] l) (M.pure undef))) fun v69 =>
  M.bind (M.chk (isK v67) (M.if (isB v67 false) (oS (some v69) fun a => oS (some (.int .i64 26)) fun b => Cl.get (aBin E .lss 3 (.tmp 69) (.const (.int .i64 26))) a b) (M.pure undef))) fun v70 =>
  M.bind (M.on (some v67) fun a => M.on (some (.bool true)) fun b => M.on (some v70) fun c => BI a b c) fun v71 =>
  setF 71 v71 tm fun tm1 =>
  M.pure tm1
theorem PI : RegEq 30 95 Bx Mx Nq := ⟨by kernel_rfl, fun _ _ _ _ _ _ _ _ _ => by kernel_rfl⟩
theorem Za : ∃ k, QE = .code .ret :: k := ⟨QE.tail, by kernel_rfl⟩
theorem Sf : A2 G1 = some 71 := by kernel_rfl
def RO (E : Env) (call round : Ab) (tm : T Value) : M (T Value) :=
  mv (some (.slice none 0 0)) fun v2 =>
  setF 2 v2 tm fun tm1 =>
  mv (some (.slice none 0 0)) fun v3 =>
  setF 3 v3 tm1 fun tm2 =>
  mv (some (.slice none 0 0)) fun v4 =>
  setF 4 v4 tm2 fun tm3 =>
  mv (some (.bool false)) fun v5 =>
  setF 5 v5 tm3 fun tm4 =>
  M.pure tm4
theorem UW : RegEq 30 95 Bx Li RO := ⟨by kernel_rfl, fun _ _ _ _ _ _ _ _ _ => by kernel_rfl⟩
def XE (E : Env) (call round : Ab) (tm : T Value) : M ((Rho × T Value) × List OpLog) :=
  M.bind (apartO (oS (T.get tm 8) fun a => M.pure a)) fun p0 =>
  M.bind (apartO (oS (T.get tm 13) fun a => AQ E 26 a)) fun p1 =>
  M.bind (apartO (oS (T.get tm 6) fun a => M.pure a)) fun p2 =>
  M.bind (apartO (oS (seqO [(some p2.1)]) fun l => AS E .len [22] l)) fun p3 =>
  M.bind (apartO (oS (T.get tm 0) fun a => M.pure a)) fun p4 =>
  M.bind (apartO (oS (T.get tm 11) fun a => M.pure a)) fun p5 =>
  M.bind (apartO (oS (some p4.1) fun a => oS (some p5.1) fun b => BJ E 43 a b)) fun p6 =>
  M.bind (apartO (oS (some p6.1) fun a => AQ E 22 a)) fun p7 =>
  M.bind (apartO (oS (seqO [(some p7.1)]) fun l => AS E .len [22] l)) fun p8 =>
  M.bind (apartO (oS (seqP [(0, (some p1.1)), (1, (some p3.1)), (2, (some p8.1))]) fun ps => Cb E 35 ps)) fun p9 =>
  M.bind (apartO (oS (seqP [(0, (some p9.1))]) fun ps => Cj E 36 1 ps)) fun p10 =>
  M.bind (apartO (oS (seqO [(some p0.1), (some p10.1)]) fun l => AS E .append [36, 36] l)) fun p11 =>
  M.pure (([p11.1, p10.1, p9.1, p8.1, p7.1, p6.1, p5.1, p4.1, p3.1, p2.1, p1.1, p0.1], tm), [p11.2, p10.2, p9.2, p8.2, p7.2, p6.2, p5.2, p4.2, p3.2, p2.2, p1.2, p0.2])
theorem Uv_ : DrawEq 30 95 Bx Fg [0, 0, 0, 4, 0, 0, 48, 112, 240, 510, 1022, 2047, 4095] XE := ⟨by kernel_rfl, by kernel_rfl, fun _ _ _ _ _ _ _ _ _ => by kernel_rfl⟩
theorem HY_ (E : Env) (call round : Ab) (x72 x73 x74 x75 x76 x77 x78 x79 x80 x81 x82 x83 : Value) (tm : T Value) (s : St) : BF call round (Cq E Bx 95 (hdC Fg)) [x83, x82, x81, x80, x79, x78, x77, x76, x75, x74, x73, x72] tm s = (M.bind (oS (some x83) fun a => M.pure a) fun v8 => setT 8 v8 tm fun tm1 => M.pure tm1) s := by kernel_rfl
theorem UJ : ∃ k, Og = .code .ret :: k := ⟨Og.tail, by kernel_rfl⟩
def TQ (E : Env) (call round : Ab) (tm : T Value) : M (T Value) :=
  mv (T.get tm 6) fun v84 =>
  mv (T.get tm 12) fun v85 =>
  M.bind (oS (seqO [(some v84), (some v85)]) fun l => AS E .append [22, 22] l) fun v86 =>
  mv (some v86) fun v6 =>
  setF 6 v6 tm fun tm1 =>
  M.pure tm1
theorem Un_ : RegEq 30 95 Bx I9 TQ := ⟨by kernel_rfl, fun _ _ _ _ _ _ _ _ _ => by kernel_rfl⟩
def XF (E : Env) (call round : Ab) (tm : T Value) : M (T Value) :=
  mv (T.get tm 7) fun v87 =>
  mv (T.get tm 6) fun v88 =>
  M.bind (oS (seqO [(some v88)]) fun l => AS E .len [22] l) fun v89 =>
  M.bind (oS (seqP [(0, (some v89))]) fun ps => Cj E 44 1 ps) fun v90 =>
  M.bind (oS (seqO [(some v87), (some v90)]) fun l => AS E .append [44, 44] l) fun v91 =>
  mv (some v91) fun v7 =>
  setF 7 v7 tm fun tm1 =>
  M.pure tm1
theorem Uu_ : RegEq 30 95 Bx MR XF := ⟨by kernel_rfl, fun _ _ _ _ _ _ _ _ _ => by kernel_rfl⟩
def AH_ (E : Env) (call round : Ab) (tm : T Value) : M (T Value) :=
  mv (T.get tm 11) fun v43 =>
  M.bind (oS (some v43) fun a => oS (some (.int .i64 1)) fun b => Cl.get (aBin E .add 3 (.tmp 43) (.const (.int .i64 1))) a b) fun v44 =>
  mv (some v44) fun v11 =>
  setF 11 v11 tm fun tm1 =>
  M.pure tm1
theorem SY_ : RegEq 30 95 Bx Pl AH_ := ⟨by kernel_rfl, fun _ _ _ _ _ _ _ _ _ => by kernel_rfl⟩
def J7 : Nat := Bt Try.f31
def SS : Code := Try.f31.body.getD .skip
theorem Zh : envS.fn.get 31 = some Try.f31 := by kernel_rfl
theorem Mm_ {a0 a1 a2 a3 a4 : Value} {n : Nat} {s : St} {Q : Value → St → Prop} (h : ∀ tm, T.get tm 0 = some a0 → T.get tm 1 = some a1 → T.get tm 2 = some a2 → T.get tm 3 = some a3 → T.get tm 4 = some a4 → W (runF envS n ⟨31, 40, J7, tm, [.code SS], .run, .normal, none⟩) (s.cxN cxN) fun p s1 => Q p.1 (s1.cxN s.cx)) : W (Au envS (runF envS n) 31 [a0, a1, a2, a3, a4]) s Q :=
 W.call (by kernel_rfl) (by kernel_rfl) Zh (by kernel_rfl) rfl rfl (by simp) (h _ (by kernel_rfl) (by kernel_rfl) (by kernel_rfl) (by kernel_rfl) (by kernel_rfl))
theorem QC_ : Try.f31.results.toList = [.tmp 10] := by kernel_rfl
def OF : List Item := skim 64 [.code SS]
def JQ : List Item := skim 64 OF.tail
theorem Po_ : skim 64 OF.tail = JQ := by kernel_rfl
def NB : List Item := skim 64 JQ.tail
theorem Cz_ : skim 64 JQ.tail = NB := by kernel_rfl
def QR : List Item := skim 64 NB.tail
theorem TJ_ : skim 64 NB.tail = QR := by kernel_rfl
def Co_ (E : Env) (call round : Ab) (tm : T Value) : M (T Value) :=
  mv (some (.bool false)) fun v10 =>
  setF 10 v10 tm fun tm1 =>
  M.pure tm1
theorem Sk_ : RegEq 31 40 J7 OF Co_ := ⟨by kernel_rfl, fun _ _ _ _ _ _ _ _ _ => by kernel_rfl⟩
def Uj (E : Env) (call round : Ab) (tm : T Value) : M (T Value) :=
  mv (T.get tm 0) fun v16 =>
  M.bind (M.on (some (.func (.func 24) #[] #[])) fun f => M.on (seqO [(some v16)]) fun l => AY call round f l) fun v17 =>
  mv (some v17) fun v15 =>
  M.bind (oS (some v15) fun a => kExt 0 a) fun v18 =>
  M.bind (oS (some v15) fun a => kExt 1 a) fun v19 =>
  M.bind (oS (some v15) fun a => kExt 2 a) fun v20 =>
  M.bind (oS (some v15) fun a => kExt 3 a) fun v21 =>
  mv (some v18) fun v11 =>
  setF 11 v11 tm fun tm1 =>
  mv (some v19) fun v12 =>
  setF 12 v12 tm1 fun tm2 =>
  mv (some v20) fun v13 =>
  setF 13 v13 tm2 fun tm3 =>
  mv (some v21) fun v14 =>
  setF 14 v14 tm3 fun tm4 =>
  M.pure tm4
theorem KY_ : RegEq 31 40 J7 JQ Uj := ⟨by kernel_rfl, fun _ _ _ _ _ _ _ _ _ => by kernel_rfl⟩
def XJ (E : Env) (call round : Ab) (tm : T Value) : M (T Value) :=
  mv (T.get tm 11) fun v22 =>
  mv (T.get tm 4) fun v23 =>
  M.bind (M.on (some (.func (.func 26) #[] #[])) fun f => M.on (seqO [(some v22), (some v23)]) fun l => AY call round f l) fun v24 =>
  mv (some v24) fun v25 =>
  M.bind (M.chk (isK v25) (M.if (isB v25 true) (oS (T.get tm 12) fun a => M.pure a) (M.pure undef))) fun v26 =>
  M.bind (M.chk (isK v25) (M.if (isB v25 true) (oS (T.get tm 1) fun a => M.pure a) (M.pure undef))) fun v27 =>
  M.bind (M.chk (isK v25) (M.if (isB v25 true) (oS (some v26) fun a => oS (some v27) fun b => Cl.get (aBin E .eql 3 (.tmp 26) (.tmp 27)) a b) (M.pure undef))) fun v28 =>
  M.bind (M.on (some v25) fun a => M.on (some v28) fun b => M.on (some (.bool false)) fun c => BI a b c) fun v29 =>
  mv (some v29) fun v30 =>
  M.bind (M.chk (isK v30) (M.if (isB v30 true) (oS (T.get tm 13) fun a => M.pure a) (M.pure undef))) fun v31 =>
  M.bind (M.chk (isK v30) (M.if (isB v30 true) (oS (T.get tm 2) fun a => M.pure a) (M.pure undef))) fun v32 =>
  M.bind (M.chk (isK v30) (M.if (isB v30 true) (oS (some v31) fun a => oS (some v32) fun b => Cl.get (aBin E .eql 3 (.tmp 31) (.tmp 32)) a b) (M.pure undef))) fun v33 =>
  M.bind (M.on (some v30) fun a => M.on (some v33) fun b => M.on (some (.bool false)) fun c => BI a b c) fun v34 =>
  mv (some v34) fun v35 =>
  M.bind (M.chk (isK v35) (M.if (isB v35 true) (oS (T.get tm 14) fun a => M.pure a) (M.pure undef))) fun v36 =>
  M.bind (M.chk (isK v35) (M.if (isB v35 true) (oS (T.get tm 3) fun a => M.pure a) (M.pure undef))) fun v37 =>
  M.bind (M.chk (isK v35) (M.if (isB v35 true) (oS (some v36) fun a => oS (some v37) fun b => Cl.get (aBin E .eql 3 (.tmp 36) (.tmp 37)) a b) (M.pure undef))) fun v38 =>
  M.bind (M.on (some v35) fun a => M.on (some v38) fun b => M.on (some (.bool false)) fun c => BI a b c) fun v39 =>
  mv (some v39) fun v10 =>
  setF 10 v10 tm fun tm1 =>
  M.pure tm1
theorem Di_ : RegEq 31 40 J7 NB XJ := ⟨by kernel_rfl, fun _ _ _ _ _ _ _ _ _ => by kernel_rfl⟩
theorem Jb_ : ∃ k, QR = .code .ret :: k := ⟨QR.tail, by kernel_rfl⟩
def Pn : Nat := Bt Try.f19
def U9 : Code := Try.f19.body.getD .skip
theorem YV : envS.fn.get 19 = some Try.f19 := by kernel_rfl
theorem OK_ {a0 a1 : Value} {n : Nat} {s : St} {Q : Value → St → Prop} (h : ∀ tm, T.get tm 0 = some a0 → T.get tm 1 = some a1 → W (runF envS n ⟨19, 10, Pn, tm, [.code U9], .run, .normal, none⟩) (s.cxN cxN) fun p s1 => Q p.1 (s1.cxN s.cx)) : W (Au envS (runF envS n) 19 [a0, a1]) s Q :=
 W.call (by kernel_rfl) (by kernel_rfl) YV (by kernel_rfl) rfl rfl (by simp) (h _ (by kernel_rfl) (by kernel_rfl))
theorem IH_ : Try.f19.results.toList = [.tmp 4] := by kernel_rfl
def QQ : List Item := skim 64 [.code U9]
def Kw : List Item := skim 64 QQ.tail
theorem OX_ : skim 64 QQ.tail = Kw := by kernel_rfl
def Si : List Item := skim 64 Kw.tail
theorem Dp_ : skim 64 Kw.tail = Si := by kernel_rfl
def Yr (E : Env) (call round : Ab) (tm : T Value) : M (T Value) :=
  mv (some (.bool false)) fun v4 =>
  setF 4 v4 tm fun tm1 =>
  M.pure tm1
theorem Fe_ : RegEq 19 10 Pn QQ Yr := ⟨by kernel_rfl, fun _ _ _ _ _ _ _ _ _ => by kernel_rfl⟩
def ZN (E : Env) (call round : Ab) (tm : T Value) : M (T Value) :=
  mv (T.get tm 0) fun v5 =>
  M.bind (oS (some v5) fun a => BM E 22 9 a) fun v6 =>
  mv (T.get tm 1) fun v7 =>
  M.bind (oS (some v7) fun a => BM E 22 9 a) fun v8 =>
  M.bind (oS (some v6) fun a => oS (some v8) fun b => Cl.get (aBin E .eql 9 (.tmp 6) (.tmp 8)) a b) fun v9 =>
  mv (some v9) fun v4 =>
  setF 4 v4 tm fun tm1 =>
  M.pure tm1
theorem GB_ : RegEq 19 10 Pn Kw ZN := ⟨by kernel_rfl, fun _ _ _ _ _ _ _ _ _ => by kernel_rfl⟩
theorem Da_ : ∃ k, Si = .code .ret :: k := ⟨Si.tail, by kernel_rfl⟩
def DP : Nat := Bt Try.f26
abbrev Gc_ : Nat := 26
def TC : Code := Try.f26.body.getD .skip
theorem Xo : envS.fn.get 26 = some Try.f26 := by kernel_rfl
theorem TV_ {a0 a1 : Value} {n : Nat} {s : St} {Q : Value → St → Prop} (h : ∀ tm, T.get tm 0 = some a0 → T.get tm 1 = some a1 → W (runF envS n ⟨26, 26, DP, tm, [.code TC], .run, .normal, none⟩) (s.cxN cxN) fun p s1 => Q p.1 (s1.cxN s.cx)) : W (Au envS (runF envS n) 26 [a0, a1]) s Q :=
 W.call (by kernel_rfl) (by kernel_rfl) Xo (by kernel_rfl) rfl rfl (by simp) (h _ (by kernel_rfl) (by kernel_rfl))
theorem Wg_ : Try.f26.results.toList = [.tmp 4] := by kernel_rfl
def Qb : List Item := skim 64 [.code TC]
def NF : List Item := skim 64 Qb.tail
theorem Ht_ : skim 64 Qb.tail = NF := by kernel_rfl
def Nz : List Item := skim 64 NF.tail
theorem Ic_ : skim 64 NF.tail = Nz := by kernel_rfl
def KU : List Item := skim 64 (brF Nz)
theorem Pc_ : skim 64 (brF Nz) = KU := by kernel_rfl
def G9 : List Item := skim 64 KU.tail
theorem Jv_ : skim 64 KU.tail = G9 := by kernel_rfl
def Gi : List Item := skim 64 G9.tail
theorem ZS : skim 64 G9.tail = Gi := by kernel_rfl
def Ig : List Item := skim 64 (brT Gi)
theorem Dx_ : skim 64 (brT Gi) = Ig := by kernel_rfl
def MZ : List Item := skim 64 (brF Gi)
theorem Xd_ : skim 64 (brF Gi) = MZ := by kernel_rfl
def JN : List Item := skim 64 Ig.tail
theorem EZ_ : skim 64 Ig.tail = JN := by kernel_rfl
def R3 : List Item := skim 64 MZ.tail
theorem QT_ : skim 64 MZ.tail = R3 := by kernel_rfl
def RP : List Item := skim 64 (brF JN)
theorem Tj_ : skim 64 (brF JN) = RP := by kernel_rfl
theorem Hp_ : skim 64 RP.tail = G9 := by kernel_rfl
def W6 (E : Env) (call round : Ab) (tm : T Value) : M (T Value) :=
  mv (some (.bool false)) fun v4 =>
  setF 4 v4 tm fun tm1 =>
  M.pure tm1
theorem QR_ : RegEq 26 26 DP Qb W6 := ⟨by kernel_rfl, fun _ _ _ _ _ _ _ _ _ => by kernel_rfl⟩
def T6 (E : Env) (call round : Ab) (tm : T Value) : M (T Value) :=
  mv (T.get tm 0) fun v6 =>
  M.bind (oS (seqO [(some v6)]) fun l => AS E .len [36] l) fun v7 =>
  mv (T.get tm 1) fun v8 =>
  M.bind (oS (seqO [(some v8)]) fun l => AS E .len [36] l) fun v9 =>
  M.bind (oS (some v7) fun a => oS (some v9) fun b => Cl.get (aBin E .neq 3 (.tmp 7) (.tmp 9)) a b) fun v10 =>
  setF 10 v10 tm fun tm1 =>
  M.pure tm1
theorem Jh_ : RegEq 26 26 DP NF T6 := ⟨by kernel_rfl, fun _ _ _ _ _ _ _ _ _ => by kernel_rfl⟩
theorem Vg_ : A2 Nz = some 10 := by kernel_rfl
def BV_ (E : Env) (call round : Ab) (tm : T Value) : M (T Value) :=
  mv (some (.int .i64 0)) fun v5 =>
  setF 5 v5 tm fun tm1 =>
  M.pure tm1
theorem Pn_ : RegEq 26 26 DP KU BV_ := ⟨by kernel_rfl, fun _ _ _ _ _ _ _ _ _ => by kernel_rfl⟩
def NN (E : Env) (call round : Ab) (tm : T Value) : M (T Value) :=
  mv (T.get tm 5) fun v11 =>
  mv (T.get tm 0) fun v12 =>
  M.bind (oS (seqO [(some v12)]) fun l => AS E .len [36] l) fun v13 =>
  M.bind (oS (some v11) fun a => oS (some v13) fun b => Cl.get (aBin E .lss 3 (.tmp 11) (.tmp 13)) a b) fun v14 =>
  setF 14 v14 tm fun tm1 =>
  M.pure tm1
theorem BW_ : RegEq 26 26 DP G9 NN := ⟨by kernel_rfl, fun _ _ _ _ _ _ _ _ _ => by kernel_rfl⟩
theorem BM_ : A2 Gi = some 14 := by kernel_rfl
def WO (E : Env) (call round : Ab) (tm : T Value) : M ((Rho × T Value) × List OpLog) :=
  M.bind (apartO (oS (T.get tm 0) fun a => M.pure a)) fun p0 =>
  M.bind (apartO (oS (T.get tm 5) fun a => M.pure a)) fun p1 =>
  M.bind (apartO (oS (some p0.1) fun a => oS (some p1.1) fun b => BJ E 36 a b)) fun p2 =>
  M.bind (apartO (oS (some p2.1) fun a => AQ E 35 a)) fun p3 =>
  M.bind (apartO (oS (T.get tm 1) fun a => M.pure a)) fun p4 =>
  M.bind (apartO (oS (T.get tm 5) fun a => M.pure a)) fun p5 =>
  M.bind (apartO (oS (some p4.1) fun a => oS (some p5.1) fun b => BJ E 36 a b)) fun p6 =>
  M.bind (apartO (oS (some p6.1) fun a => AQ E 35 a)) fun p7 =>
  M.pure (([p7.1, p6.1, p5.1, p4.1, p3.1, p2.1, p1.1, p0.1], tm), [p7.2, p6.2, p5.2, p4.2, p3.2, p2.2, p1.2, p0.2])
theorem Oj_ : DrawEq 26 26 DP Ig [0, 0, 3, 7, 0, 0, 48, 112, 255] WO := ⟨by kernel_rfl, by kernel_rfl, fun _ _ _ _ _ _ _ _ _ => by kernel_rfl⟩
theorem Kz_ (E : Env) (call round : Ab) (x17 x18 x19 x20 x21 x22 x23 x24 : Value) (tm : T Value) (s : St) : BF call round (Cq E DP 26 (hdC Ig)) [x24, x23, x22, x21, x20, x19, x18, x17] tm s = (M.bind (oS (some x20) fun a => oS (some x24) fun b => Cl.get (aBin E .neq 35 (.tmp 20) (.tmp 24)) a b) fun v25 => setT 25 v25 tm fun tm1 => M.pure tm1) s := by kernel_rfl
def TY (E : Env) (call round : Ab) (tm : T Value) : M (T Value) :=
  mv (some (.bool true)) fun v4 =>
  setF 4 v4 tm fun tm1 =>
  M.pure tm1
theorem KN_ : RegEq 26 26 DP MZ TY := ⟨by kernel_rfl, fun _ _ _ _ _ _ _ _ _ => by kernel_rfl⟩
theorem Vj_ : A2 JN = some 25 := by kernel_rfl
theorem GP_ : ∃ k, R3 = .code .ret :: k := ⟨R3.tail, by kernel_rfl⟩
def TW (E : Env) (call round : Ab) (tm : T Value) : M (T Value) :=
  mv (T.get tm 5) fun v15 =>
  M.bind (oS (some v15) fun a => oS (some (.int .i64 1)) fun b => Cl.get (aBin E .add 3 (.tmp 15) (.const (.int .i64 1))) a b) fun v16 =>
  mv (some v16) fun v5 =>
  setF 5 v5 tm fun tm1 =>
  M.pure tm1
theorem Go_ : RegEq 26 26 DP RP TW := ⟨by kernel_rfl, fun _ _ _ _ _ _ _ _ _ => by kernel_rfl⟩
def EZ : Nat := Bt Try.f33
abbrev SZ_ : Nat := 16
def ZJ : Code := Try.f33.body.getD .skip
theorem UT : envS.fn.get 33 = some Try.f33 := by kernel_rfl
theorem Et_ {a0 a1 : Value} {n : Nat} {s : St} {Q : Value → St → Prop} (h : ∀ tm, T.get tm 0 = some a0 → T.get tm 1 = some a1 → W (runF envS n ⟨33, 16, EZ, tm, [.code ZJ], .run, .normal, none⟩) (s.cxN cxN) fun p s1 => Q p.1 (s1.cxN s.cx)) : W (Au envS (runF envS n) 33 [a0, a1]) s Q :=
 W.call (by kernel_rfl) (by kernel_rfl) UT (by kernel_rfl) rfl rfl (by simp) (h _ (by kernel_rfl) (by kernel_rfl))
theorem IO_ : Try.f33.results.toList = [.tmp 4] := by kernel_rfl
def Rx : List Item := skim 64 [.code ZJ]
def Me : List Item := skim 64 Rx.tail
theorem LA_ : skim 64 Rx.tail = Me := by kernel_rfl
def MX : List Item := skim 64 Me.tail
theorem Wp_ : skim 64 Me.tail = MX := by kernel_rfl
def LG : List Item := skim 64 (brF MX)
theorem LD_ : skim 64 (brF MX) = LG := by kernel_rfl
def Ni : List Item := skim 64 LG.tail
theorem Fv_ : skim 64 LG.tail = Ni := by kernel_rfl
def HP : List Item := skim 64 Ni.tail
theorem Bl_ : skim 64 Ni.tail = HP := by kernel_rfl
def Qf : List Item := skim 64 (brT HP)
theorem Xl_ : skim 64 (brT HP) = Qf := by kernel_rfl
def Gw : List Item := skim 64 (brF HP)
theorem Kn_ : skim 64 (brF HP) = Gw := by kernel_rfl
theorem EW_ : skim 64 Qf.tail = Gw := by kernel_rfl
def R0 : List Item := skim 64 Gw.tail
theorem Wb_ : skim 64 Gw.tail = R0 := by kernel_rfl
def UI (E : Env) (call round : Ab) (tm : T Value) : M (T Value) :=
  mv (some (.int .i64 0)) fun v4 =>
  setF 4 v4 tm fun tm1 =>
  M.pure tm1
theorem Vl_ : RegEq 33 16 EZ Rx UI := ⟨by kernel_rfl, fun _ _ _ _ _ _ _ _ _ => by kernel_rfl⟩
def UD (E : Env) (call round : Ab) (tm : T Value) : M (T Value) :=
  mv (T.get tm 1) fun v5 =>
  M.bind (oS (some v5) fun a => oS (some (.int .i64 1)) fun b => Cl.get (aBin E .lss 3 (.tmp 5) (.const (.int .i64 1))) a b) fun v6 =>
  setF 6 v6 tm fun tm1 =>
  M.pure tm1
theorem Fn_ : RegEq 33 16 EZ Me UD := ⟨by kernel_rfl, fun _ _ _ _ _ _ _ _ _ => by kernel_rfl⟩
theorem Rj_ : A2 MX = some 6 := by kernel_rfl
def Vo (E : Env) (call round : Ab) (tm : T Value) : M (T Value) :=
  mv (T.get tm 0) fun v7 =>
  mv (T.get tm 1) fun v8 =>
  M.bind (oS (some v7) fun a => oS (some v8) fun b => Cl.get (aBin E .rem 3 (.tmp 7) (.tmp 8)) a b) fun v9 =>
  mv (some v9) fun v0 =>
  setF 0 v0 tm fun tm1 =>
  M.pure tm1
theorem PD_ : RegEq 33 16 EZ LG Vo := ⟨by kernel_rfl, fun _ _ _ _ _ _ _ _ _ => by kernel_rfl⟩
def VL (E : Env) (call round : Ab) (tm : T Value) : M (T Value) :=
  mv (T.get tm 0) fun v10 =>
  M.bind (oS (some v10) fun a => oS (some (.int .i64 0)) fun b => Cl.get (aBin E .lss 3 (.tmp 10) (.const (.int .i64 0))) a b) fun v11 =>
  setF 11 v11 tm fun tm1 =>
  M.pure tm1
theorem IS_ : RegEq 33 16 EZ Ni VL := ⟨by kernel_rfl, fun _ _ _ _ _ _ _ _ _ => by kernel_rfl⟩
theorem VS : A2 HP = some 11 := by kernel_rfl
def Yu (E : Env) (call round : Ab) (tm : T Value) : M (T Value) :=
  mv (T.get tm 0) fun v12 =>
  mv (T.get tm 1) fun v13 =>
  M.bind (oS (some v12) fun a => oS (some v13) fun b => Cl.get (aBin E .add 3 (.tmp 12) (.tmp 13)) a b) fun v14 =>
  mv (some v14) fun v0 =>
  setF 0 v0 tm fun tm1 =>
  M.pure tm1
theorem VC_ : RegEq 33 16 EZ Qf Yu := ⟨by kernel_rfl, fun _ _ _ _ _ _ _ _ _ => by kernel_rfl⟩
def YW (E : Env) (call round : Ab) (tm : T Value) : M (T Value) :=
  mv (T.get tm 0) fun v15 =>
  mv (some v15) fun v4 =>
  setF 4 v4 tm fun tm1 =>
  M.pure tm1
theorem FE_ : RegEq 33 16 EZ Gw YW := ⟨by kernel_rfl, fun _ _ _ _ _ _ _ _ _ => by kernel_rfl⟩
theorem VH_ : ∃ k, R0 = .code .ret :: k := ⟨R0.tail, by kernel_rfl⟩
theorem En : slN envS 36 = some 18 := by kernel_rfl
def HsR (s : St) (v : Value) (hs : List Hd) : Prop := (v = .slice none 0 0 ∧ hs = []) ∨ ∃ b o c, v = .slice (some ⟨b, o, none⟩) hs.length c ∧ Row s b o (BA hs)
def HsF (v : Value) (x : Nat) : Prop := match v with | .slice (some a) n _ => In a.block a.off (n * 18) x | _ => False
theorem HsR.same {s s' : St} {v : Value} {hs : List Hd} (h : HsR s v hs) (hm : s'.mem = s.mem) (hn : s'.next = s.next) : HsR s' v hs := by
 rcases h with h | ⟨b, o, c, h0, h3⟩
 · exact .inl h
 · exact .inr ⟨b, o, c, h0, fun i v e => (h3 i v e).same hm hn⟩
theorem HsR.len {s s' : St} {v : Value} {hs : List Hd} (h : HsR s v hs) (Q : Value → St → Prop) : W (AS envS .len [36] [v]) s' Q = Q (.int .i64 (hs.length : Nat)) s' := by
 rcases h with ⟨rfl, rfl⟩ | ⟨b, o, c, rfl, _⟩
 · exact BS En Q
 · exact BS En Q
theorem X3 (l : List Hd) (m : List Hd) : BA (l ++ m) = BA l ++ BA m := by
 induction l with
 | nil => rfl
 | cons h l ih => show AP h ++ BA (l ++ m) = (AP h ++ BA l) ++ BA m; rw [ih, List.append_assoc]
theorem Bb_ {hs : List Hd} (h16 : ∀ h ∈ hs, h.1.length = 16) {i : Nat} (hi : i < hs.length) {j : Nat} (hj : j < 18) : (BA hs)[i * 18 + j]? = (AP hs[i])[j]? := by
 have e : hs = hs.take i ++ hs[i] :: hs.drop (i + 1) := by rw [List.getElem_cons_drop, List.take_append_drop]
 have hl : (BA (hs.take i)).length = i * 18 := by
   rw [AN_ fun h hh => h16 h (List.mem_of_mem_take hh), List.length_take]
   congr 1; omega
 have h18 : (AP hs[i]).length = 18 := Db (h16 _ (List.getElem_mem hi))
 conv => lhs; rw [e, X3]
 rw [List.getElem?_append_right (by omega), hl, show i * 18 + j - i * 18 = j by omega]
 show (AP hs[i] ++ BA (hs.drop (i + 1)))[j]? = _
 rw [List.getElem?_append_left (by omega)]
theorem HsR.at {s : St} {v : Value} {hs : List Hd} (h : HsR s v hs) (h16 : ∀ h ∈ hs, h.1.length = 16) {i : Nat} (hi : i < hs.length) : ∃ b o c, v = .slice (some ⟨b, o, none⟩) hs.length c ∧ Row s b (o + i * 18) (AP hs[i]) ∧ (∀ x, In b (o + i * 18) 18 x → HsF v x) := by
 rcases h with ⟨rfl, rfl⟩ | ⟨b, o, c, rfl, h3⟩
 · simp at hi
 · refine ⟨b, o, c, rfl, fun j u e => ?_, fun x hx => ⟨by have := hx.1; show b + o ≤ x; omega, by
     have h2 : x < b + (o + i * 18) + 18 := hx.2
     show x < b + o + hs.length * 18
     have : (i + 1) * 18 ≤ hs.length * 18 := Nat.mul_le_mul_right 18 hi
     omega⟩⟩
   have hj : j < 18 := by
     have := (List.getElem?_eq_some_iff.1 e).1
     rwa [Db (h16 _ (List.getElem_mem hi))] at this
   have := h3 (i * 18 + j) u (by rw [Bb_ h16 hi hj]; exact e)
   rwa [show o + (i * 18 + j) = o + i * 18 + j by omega] at this
theorem Of_ {va vb : Value} {hs : List Hd} {F : Nat → Prop} (hFa : ∀ x, HsF va x → F x) (hFb : ∀ x, HsF vb x → F x) {Q : Value × FrameMode → St → Prop} {s0 : St} (hb0 : s0.lim ≤ s0.next) (ha : HsR s0 va hs) (hb : HsR s0 vb hs) (h16 : ∀ h ∈ hs, h.1.length = 16) (hz : hs.length ≤ 4611686018427387904) (hcx : s0.cx = .cx none (some [])) (q : ∀ s1, Ext F Non s0 s1 → s1.mem = s0.mem → s1.next = s0.next → Q (.bool true, .run) s1) :
   ∀ (k i n : Nat) (tm : T Value) (s : St) (td : List Item), i + k = hs.length → 7 * k + 20 ≤ n → skim 64 td = G9 → Ext F Non s0 s → s.mem = s0.mem → s.next = s0.next →
   T.get tm 0 = some va → T.get tm 1 = some vb → T.get tm 5 = some (.int .i64 (i : Nat)) →
   W (runF envS n ⟨26, Gc_, DP, tm, td, .run, .normal, none⟩) s Q := by
 intro k
 induction k with
 | zero =>
   intro i n tm s td hi hn hT hx hm hnx h0 h1 h5
   refine BW_.w hT (by omega) ?_
   simp -implicitDefEqProofs only [NN, Ad, W_oS, Aa, W_mv, Ac, Ap, Al, Ak, h0, h5]
   rw [ha.len]
   simp -implicitDefEqProofs only [Bm]
   refine W.cond (v := false) ZS BM_ (by simp [T.get_set]; omega) (by omega) (fun h => by cases h) fun _ => ?_
   refine KN_.w Xd_ (by omega) ?_
   simp -implicitDefEqProofs only [TY, Aa, W_mv, Ac]
   refine W.end' (rs := [4]) (vs := [.bool true]) QT_ (.inl GP_) (by omega) Xo Wg_ (hx.cx.trans hcx) (by simp [T.get_set]) ?_
   exact q s hx hm hnx
 | succ k ih =>
   intro i n tm s td hi hn hT hx hm hnx h0 h1 h5
   have hil : i < hs.length := by omega
   have hI : (AP hs[i]).length = 18 := Db (h16 _ (List.getElem_mem hil))
   obtain ⟨ba, oa, ca, rfl, ga, fa⟩ := ha.at h16 hil
   obtain ⟨bb, ob, cb, rfl, gb, fb⟩ := hb.at h16 hil
   refine BW_.w hT (by omega) ?_
   simp -implicitDefEqProofs only [NN, Ad, W_oS, Aa, W_mv, Ac, Ap, Al, Ak, h0, h5]
   rw [BS En]
   simp -implicitDefEqProofs only [Bm]
   refine W.cond (v := true) ZS BM_ (by simp [T.get_set]; omega) (by omega) (fun _ => ?_) fun h => by cases h
   refine Oj_.w Dx_ (by omega) ?_
   simp -implicitDefEqProofs only [WO, T.get_set, Nat.reduceEqDiff, ↓reduceIte, h0, h1, h5, Ci, A5]
   rw [W_dq fun s Q => Ck (s := s) En hil Q]
   refine W.dloadA K1 (fun j u e => (ga j u e).same hm hnx) hI fun m1 rd1 e1 hr1 => ?_
   subst e1
   simp -implicitDefEqProofs only [A5]
   rw [W_dq fun s Q => Ck (s := s) En hil Q]
   refine W.dloadA K1 (fun j u e => (gb j u e).same hm hnx) hI fun m2 rd2 e2 hr2 => ?_
   subst e2
   rw [Aa]
   refine ⟨Fo (by simp) (by simp), ?_⟩
   refine W.cast (Kz_ _ _ _ _ _ _ _ _ _ _ _ _ _) ?_
   simp -implicitDefEqProofs only [Ad, W_oS, Aa, Bb]
   rw [JW_ (h16 _ (List.getElem_mem hil)) WQ_]
   generalize hs' : (⟨(dSt s.mem s.next).mem, (dSt s.mem s.next).next, s.lim, _, _, s.cx⟩ : St) = s'
   have hx' : Ext F Non s0 s' := by
     rw [← hs']
     refine hx.trans (Ext.draw (F := F) (Nat.le_refl _) (fun _ _ => rfl) (by simp) (by
       simp -implicitDefEqProofs only [List.mem_cons, List.not_mem_nil, or_false]
       rintro m (rfl | rfl | rfl | rfl | rfl | rfl | rfl | rfl) x hx _ <;> first | (exact hFa _ (fa _ (hr1 _ hx))) | (exact hFb _ (fb _ (hr2 _ hx))) | (cases hx))) hb0 (fun _ _ h => h) fun _ _ h => h
   have hm' : s'.mem = s0.mem := by rw [← hs']; exact hm
   have hn' : s'.next = s0.next := by rw [← hs']; exact hnx
   refine W.cond (v := false) EZ_ Vj_ (by simp [T.get_set]) (by omega) (fun h => by cases h) fun _ => ?_
   refine Go_.w Tj_ (by omega) ?_
   have ei : wrap64 ((i : Nat) + 1 : Int) = ((i + 1 : Nat) : Int) := by
     rw [Bl (by omega) (by omega)]; simp
   simp -implicitDefEqProofs only [TW, Ad, W_oS, Aa, W_mv, Ac, T.get_set, reduceIte, Nat.reduceEqDiff, ↓reduceIte, BY, h5, ei]
   exact ih (i + 1) _ _ _ _ (by omega) (by omega) Hp_ hx' hm' hn' (by simp [T.get_set, h0]) (by simp [T.get_set, h1]) (by simp [T.get_set])
theorem Cy_ {va vb : Value} {hs : List Hd} {n : Nat} {s : St} {Q : Value → St → Prop} (hbd : s.lim ≤ s.next) (ha : HsR s va hs) (hb : HsR s vb hs) (h16 : ∀ h ∈ hs, h.1.length = 16) (hz : hs.length ≤ 4611686018427387904) (hn : 7 * hs.length + 40 ≤ n)
   (q : ∀ s1, Ext (fun x => HsF va x ∨ HsF vb x) Non s s1 → s1.mem = s.mem → s1.next = s.next → Q (.bool true) s1) : W (Au envS (runF envS n) 26 [va, vb]) s Q := by
 refine TV_ fun tm h0 h1 => ?_
 have ha' : HsR (s.cxN cxN) va hs := ha.same rfl rfl
 have hb' : HsR (s.cxN cxN) vb hs := hb.same rfl rfl
 refine QR_.w rfl (by omega) ?_
 simp -implicitDefEqProofs only [W6, Aa, W_mv, Ac]
 refine Jh_.w Ht_ (by omega) ?_
 simp -implicitDefEqProofs only [T6, Ad, W_oS, Aa, W_mv, Ac, T.get_set, Ap, Al, Ak, reduceIte, Nat.reduceEqDiff, reduceCtorEq, ↓reduceIte, h0, h1]
 rw [ha'.len, hb'.len]
 simp -implicitDefEqProofs only [D9]
 refine W.cond (v := false) Ic_ Vg_ (by simp [T.get_set]) (by omega) (fun h => by cases h) fun _ => ?_
 refine Pn_.w Pc_ (by omega) ?_
 simp -implicitDefEqProofs only [BV_, Aa, W_mv, Ac]
 exact Of_ (s0 := s.cxN cxN) (F := fun x => HsF va x ∨ HsF vb x) (fun _ h => .inl h) (fun _ h => .inr h) hbd ha' hb' h16 hz rfl (fun s1 x1 m1 n1 => q _ x1.cx' m1 n1) hs.length 0 _ _ _ _ (by omega) (by omega) Jv_ (Ext.refl _) rfl rfl (by simp [T.get_set, h0]) (by simp [T.get_set, h1]) (by simp [T.get_set])
theorem HsR.ext0 {F : Nat → Prop} {s s' : St} {v : Value} {hs : List Hd} (h : HsR s v hs) (e : Ext F Non s s') : HsR s' v hs := by
 rcases h with h | ⟨b, o, c, h0, h3⟩
 · exact .inl h
 · exact .inr ⟨b, o, c, h0, h3.ext e fun _ _ => id⟩
theorem FW.hsR {s s' : St} {v : Value} {hs : List Hd} (h : FW s s' v hs) : HsR s' v hs := by
 rcases h with h | ⟨b, _, h, _⟩
 · exact .inl h
 · exact .inr ⟨b, 0, _, h.val, fun i u e => (h.own i u e).at'⟩
theorem FW.new {s s' : St} {v : Value} {hs : List Hd} (h : FW s s' v hs) : ∀ x, HsF v x → s.next ≤ x := by
 intro x hx
 rcases h with ⟨rfl, _⟩ | ⟨b, h1, h, _⟩
 · exact hx.elim
 · rw [h.val] at hx
   have := hx.1
   show s.next ≤ x
   have h2 : b + 0 ≤ x := hx.1
   omega
theorem Bm_ {n size bad rest : Nat} {v w : Value} {l : List Nat} {hs : List Hd} {s : St} {Q : Value → St → Prop} (hbd : s.lim ≤ s.next) (hbs : Bs s v l) (hvA : ∀ x, BsF v x → x < s.next) (hby : Byt l) (hz : l.length ≤ 200000) (hw : HsR s w hs) (h16 : ∀ h ∈ hs, h.1.length = 16) (hz2 : hs.length ≤ 200000) (e : Eb l = (hs, bad, size, rest)) (hn : 80000 + 60 * l.length + 7 * hs.length ≤ n)
   (q : ∀ s1, Ext (fun x => BsF v x ∨ HsF w x) Non s s1 → Q (.bool true) s1) : W (Au envS (runF envS n) 31 [v, .int .i64 (size : Nat), .int .i64 (bad : Nat), .int .i64 (rest : Nat), w]) s Q := by
 refine Mm_ fun tm h0 h1 h2 h3 h4 => ?_
 have hbs0 : Bs (s.cxN cxN) v l := hbs.same rfl rfl
 have hw0 : HsR (s.cxN cxN) w hs := hw.same rfl rfl
 refine Sk_.w rfl (by omega) ?_
 simp -implicitDefEqProofs only [Co_, Aa, W_mv, Ac]
 refine KY_.w Po_ (by omega) ?_
 simp -implicitDefEqProofs only [Uj, Ad, W_oS, W_on, Aa, W_mv, Ac, T.get_set, Ap, Al, Ak, AW, reduceIte, reduceCtorEq, ↓reduceIte, h0]
 refine IM_ hbd hbs0 hvA hby hz (by omega) fun sa u xa hu => ?_
 rw [e] at hu ⊢
 replace hu : FW (s.cxN cxN) sa u hs := hu
 have hxa : Ext (fun x => BsF v x ∨ HsF w x) Non (s.cxN cxN) sa := xa.weak hbd (fun _ _ h => .inl h) fun _ _ h => h
 simp -implicitDefEqProofs only [Ad]
 rw [A9 (k := 0) rfl, A9 (k := 1) rfl, A9 (k := 2) rfl, A9 (k := 3) rfl]
 refine Di_.w Cz_ (by omega) ?_
 simp -implicitDefEqProofs only [XJ, Ad, W_on, Aa, W_mv, Ac, T.get_set, Ap, Al, Ak, AW, reduceIte, Nat.reduceEqDiff, ↓reduceIte, h1, h2, h3, h4]
 refine Cy_ (hxa.bnd hbd) hu.hsR (hw0.ext0 xa) h16 (by omega) (by omega) fun sb xb mb nb => ?_
 have hxb : Ext (fun x => BsF v x ∨ HsF w x) Non (s.cxN cxN) sb := hxa.step xb hbd (fun x hx h => by
   rcases h with h | h
   · have h2 : x < s.lim := hx
     have h3 : s.next ≤ x := hu.new x h
     omega
   · exact .inr h) fun _ h => h.elim
 simp -implicitDefEqProofs only [W_oS, Aa, reduceIte, AX, BH, A7, Bh, AV, ↓reduceIte, Gv, decide_true]
 refine W.end' (rs := [10]) (vs := [.bool true]) TJ_ (.inl Jb_) (by omega) Zh QC_ hxb.cx (by simp [T.get_set]) ?_
 exact q _ hxb.cx'
section
variable {parts : List (Value × List Nat)} {b o c : Nat}
def Iy (parts : List (Value × List Nat)) (i : Nat) (z : Int) : Prop := (∀ p ∈ parts.take i, p.2.length ≤ 1024) → z = (tot (parts.take i) : Nat)
theorem Vg : ∀ {l : List (Value × List Nat)} {m : Nat}, (∀ p ∈ l, p.2.length ≤ m) → tot l ≤ l.length * m
 | [], _, _ => by simp [tot]
 | p :: l, m, h => by
   have h1 := Vg (l := l) (m := m) fun q hq => h q (by simp [hq])
   have h2 := h p (by simp)
   have e : tot (p :: l) = p.2.length + tot l := by simp [tot]
   rw [e, List.length_cons, Nat.add_mul]
   omega
theorem CZ_ {i : Nat} {z : Int} (hi : i < parts.length) (h21 : i < 21) (h : Iy parts i z) : Iy parts (i + 1) (wrap64 (z + (parts[i].2.length : Nat))) := by
 intro hall
 have hsub : ∀ p ∈ parts.take i, p.2.length ≤ 1024 := fun p hp => hall p (List.take_subset_take_left _ (by omega) hp)
 have hz := h hsub
 have hb := Vg hsub
 have hl : (parts.take i).length ≤ 21 := by rw [List.length_take]; omega
 have hlast : parts[i].2.length ≤ 1024 := hall _ (List.mem_take_iff_getElem.2 ⟨i, by omega, rfl⟩)
 have hm : (parts.take i).length * 1024 ≤ 21 * 1024 := Nat.mul_le_mul_right _ hl
 rw [hz, Bl (by omega) (by omega), PR hi]
 simp
theorem CU_ {F : Nat → Prop} (hF : ∀ x, Cz b o parts x → F x) {Q : Value × FrameMode → St → Prop} {s0 : St} (hb0 : s0.lim ≤ s0.next) (hp : Parts s0 b o parts) : ∀ (k i n : Nat) (z : Int) (tm : T Value) (s : St) (td : List Item), i + k = min parts.length 21 → 5 * k + 5 ≤ n → skim 64 td = Gq → Ext F Non s0 s → s.mem = s0.mem → s.next = s0.next → Iy parts i z →
   T.get tm 0 = some (.slice (some ⟨b, o, none⟩) parts.length c) → T.get tm 6 = some (.slice none 0 0) → T.get tm 7 = some (.slice none 0 0) → T.get tm 8 = some (.slice none 0 0) → T.get tm 9 = some (.int .i64 z) → T.get tm 10 = some (.int .i64 (i : Nat)) →
   (∀ (n1 : Nat) (z1 : Int) (tm1 : T Value) (s1 : St) (td1 : List Item), n - (5 * k + 5) ≤ n1 → skim 64 td1 = IE → Ext F Non s0 s1 → s1.mem = s0.mem → s1.next = s0.next → Iy parts (min parts.length 21) z1 → T.get tm1 0 = some (.slice (some ⟨b, o, none⟩) parts.length c) → T.get tm1 6 = some (.slice none 0 0) → T.get tm1 7 = some (.slice none 0 0) → T.get tm1 8 = some (.slice none 0 0) → T.get tm1 9 = some (.int .i64 z1) → W (runF envS n1 ⟨30, DL, Bx, tm1, td1, .run, .normal, none⟩) s1 Q) →
   W (runF envS n ⟨30, DL, Bx, tm, td, .run, .normal, none⟩) s Q := by
 intro k
 induction k with
 | zero =>
   intro i n z tm s td hi hn hT hx hm hnx hz h0 h6 h7 h8 h9 h10 q
   refine Sb.w hT (by omega) ?_
   simp -implicitDefEqProofs only [Kj, Ad, W_oS, W_on, Aa, W_mv, Ac, Ap, Al, Ak, AX, A7, AV, Bm, h0, h10, BS Ca]
   by_cases hlt : i < parts.length
   · have e1 : (decide (((i : Nat) : Int) < ((parts.length : Nat) : Int))) = true := decide_eq_true (by omega)
     simp -implicitDefEqProofs only [e1, W_oS, Aa, reduceIte, BH, Bh, ↓reduceIte, Bm]
     refine W.cond (v := false) NA Mf (by simp [T.get_set]; omega) (by omega) (fun h => by cases h) fun _ => ?_
     exact q _ z _ _ _ (by omega) OD hx hm hnx (by rw [← hi]; exact hz) (by simp [T.get_set, h0]) (by simp [T.get_set, h6]) (by simp [T.get_set, h7]) (by simp [T.get_set, h8]) (by simp [T.get_set, h9])
   · have e1 : (decide (((i : Nat) : Int) < ((parts.length : Nat) : Int))) = false := decide_eq_false (by omega)
     simp -implicitDefEqProofs only [e1, Aa, reduceIte, BL, Bz, reduceCtorEq, ↓reduceIte]
     refine W.cond (v := false) NA Mf (by simp [T.get_set]) (by omega) (fun h => by cases h) fun _ => ?_
     exact q _ z _ _ _ (by omega) OD hx hm hnx (by rw [← hi]; exact hz) (by simp [T.get_set, h0]) (by simp [T.get_set, h6]) (by simp [T.get_set, h7]) (by simp [T.get_set, h8]) (by simp [T.get_set, h9])
 | succ k ih =>
   intro i n z tm s td hi hn hT hx hm hnx hz h0 h6 h7 h8 h9 h10 q
   have hil : i < parts.length := by omega
   obtain ⟨g1, g2⟩ := hp.get hil
   refine Sb.w hT (by omega) ?_
   simp -implicitDefEqProofs only [Kj, Ad, W_oS, W_on, Aa, W_mv, Ac, Ap, Al, Ak, AX, A7, AV, Bm, h0, h10, BS Ca]
   have e1 : (decide (((i : Nat) : Int) < ((parts.length : Nat) : Int))) = true := decide_eq_true (by omega)
   simp -implicitDefEqProofs only [e1, W_oS, Aa, reduceIte, BH, Bh, ↓reduceIte, Bm]
   refine W.cond (v := true) NA Mf (by simp [T.get_set]; omega) (by omega) (fun _ => ?_) fun h => by cases h
   refine Rs_.w Wf_ (by omega) ?_
   simp -implicitDefEqProofs only [Ac_, Ad, W_oS, Aa, W_mv, Ac, T.get_set, Ap, Al, Ak, reduceIte, Nat.reduceEqDiff, reduceCtorEq, ↓reduceIte, h0, h9, h10, Ck Ca hil]
   refine W.load1 CL (g1.same hm hnx) ?_
   have hx1 : Ext F Non s0 (s.rdN (b + (o + i * 1))) := hx.trans (Ext.rdN (F := F) s _ fun _ => hF _ (.inl ⟨by omega, by omega⟩)) hb0 (fun _ _ h => h) fun _ _ h => h
   rw [Bs.len (s := s.rdN (b + (o + i * 1))) (g2.same hm hnx) A1]
   simp -implicitDefEqProofs only [BY]
   refine Jd_.w DH_ (by omega) ?_
   have ei : wrap64 ((i : Nat) + 1 : Int) = ((i + 1 : Nat) : Int) := by
     rw [Bl (by omega) (by omega)]; simp
   simp -implicitDefEqProofs only [Tw, Ad, W_oS, Aa, W_mv, Ac, T.get_set, reduceIte, Nat.reduceEqDiff, ↓reduceIte, BY, h10, ei]
   exact ih (i + 1) _ _ _ _ _ (by omega) (by omega) Fi_ hx1 hm hnx (CZ_ hil (by omega) hz) (by simp [T.get_set, h0]) (by simp [T.get_set, h6]) (by simp [T.get_set, h7]) (by simp [T.get_set, h8]) (by simp [T.get_set]) (by simp [T.get_set]) fun n1 z1 tm1 s1 td1 hn1 => q n1 z1 tm1 s1 td1 (by omega)
end
section
variable {parts : List (Value × List Nat)} {b o c : Nat}
theorem KC_ {F : Nat → Prop} (hF : ∀ x, Cz b o parts x → F x) {Q : Value × FrameMode → St → Prop} {s0 : St} (hb0 : s0.lim ≤ s0.next) (hcx : s0.cx = cxN) (hp : Parts s0 b o parts) (hlt : ∀ p ∈ parts, ∀ x, BsF p.1 x → x < s0.next) (hby : ∀ p ∈ parts, Byt p.2) {i n : Nat} {tm : T Value} {s : St} {td : List Item} (hi : i < parts.length) (hn : 60100 ≤ n) (hT : skim 64 td = EH) (hx : Ext F Non s0 s)
   (h0 : T.get tm 0 = some (.slice (some ⟨b, o, none⟩) parts.length c)) (h11 : T.get tm 11 = some (.int .i64 (i : Nat)))
   (q1 : (parts[i].2.length = 0 ∨ 1024 < parts[i].2.length) → ∀ s1, Ext F Non s0 s1 → Q (.tuple #[.slice none 0 0, .slice none 0 0, .slice none 0 0, .bool false], .run) s1)
   (q2 : 1 ≤ parts[i].2.length → parts[i].2.length ≤ 1024 → ∀ (n1 : Nat) (tm1 : T Value) (s1 : St) (td1 : List Item) (w : Value) (C : Nat), n - 20 ≤ n1 → skim 64 td1 = Fg → Ext F Non s s1 → (∀ k, k = 0 ∨ k = 6 ∨ k = 7 ∨ k = 8 ∨ k = 9 ∨ k = 11 → T.get tm1 k = T.get tm k) → T.get tm1 12 = some w → T.get tm1 13 = some (.pointer (some ⟨C, 0, none⟩)) → s.next ≤ C → Af s1 C 0 (u8l (idB parts[i].2)) → Bn s1 w (recB parts[i].2) → (∀ x, BsF w x → s.next ≤ x) → W (runF envS n1 ⟨30, DL, Bx, tm1, td1, .run, .normal, none⟩) s1 Q) :
   W (runF envS n ⟨30, DL, Bx, tm, td, .run, .normal, none⟩) s Q := by
 have hb : s.lim ≤ s.next := hx.bnd hb0
 have hps : Parts s b o parts := ⟨hp.row.ext0 hx, fun p h => (hp.bs p h).ext0 hx⟩
 obtain ⟨g1, g2⟩ := hps.get hi
 have hmem := List.getElem_mem hi
 have hFp : ∀ x, BsF parts[i].1 x → F x := fun x h => hF x (.inr ⟨_, hmem, h⟩)
 have hFc : F (b + (o + i * 1)) := hF _ (.inl ⟨by omega, by omega⟩)
 refine QA.w hT (by omega) ?_
 simp -implicitDefEqProofs only [Mo, Ad, W_oS, Aa, W_mv, Ac, Ap, Al, Ak, Bm, h0, h11, BS Ca]
 refine W.cond (v := true) PF Q9 (by simp [T.get_set]; omega) (by omega) (fun _ => ?_) fun h => by cases h
 refine PQ_.w Kf_ (by omega) ?_
 simp -implicitDefEqProofs only [Wz, Ad, W_oS, W_on, Aa, W_mv, Ac, T.get_set, Ap, Al, Ak, AW, reduceIte, Nat.reduceEqDiff, reduceCtorEq, ↓reduceIte, h0, h11, Ck Ca hi]
 refine W.load1 CL g1 ?_
 have xr : Ext F Non s (s.rdN (b + (o + i * 1))) := Ext.rdN (F := F) s _ fun _ => hFc
 refine HG_ (s := s.rdN (b + (o + i * 1))) hb (g2.same rfl rfl) (fun x h => Nat.lt_of_lt_of_le (hlt _ hmem x h) hx.nxt) (hby _ hmem) (by omega) (fun hz sa xa => ?_) (fun hz sa xa => ?_) fun hz1 hz2 sa w xa hw hwn => ?_
 · have hxa : Ext F Non s sa := xr.step xa hb (fun x _ h => hFp x h) fun _ h => h.elim
   rw [A9 (k := 0) rfl, A9 (k := 1) rfl, A9 (k := 2) rfl]
   refine W.alloc DU fun sb nb xb ob => ?_
   have hxb : Ext F Non s sb := hxa.step xb hb (fun _ _ h => h.elim) fun _ h => h.elim
   refine W.store BP rfl (BT _) (Af.owned ob) fun sc nc xc oc => ?_
   have hxc : Ext F Non s sc := hxb.step xc hb (fun x hx h => by
     have h1 := h.1
     have h2 := hxa.nxt
     have h3 : x < s.lim := hx
     omega) fun x h => by
       have h1 := h.1
       have h2 := hxa.nxt
       omega
   refine PI.w Sm (by omega) ?_
   have e2 : (!decide ((2 : Int) = 0)) = true := rfl
   simp -implicitDefEqProofs only [Nq, Ad, W_oS, W_on, Aa, W_mv, Ac, T.get_set, Ap, Al, Ak, reduceIte, AX, By, A7, Bz, AV, Nat.reduceEqDiff, reduceCtorEq, ↓reduceIte, D9, e2]
   refine W.cond (v := true) QI Sf (by simp [T.get_set]) (by omega) (fun _ => ?_) fun h => by cases h
   refine UW.w Y6 (by omega) ?_
   simp -implicitDefEqProofs only [RO, Aa, W_mv, Ac]
   have hxs : Ext F Non s0 sc := hx.step hxc hb0 (fun _ _ h => h) fun _ h => h.elim
   refine W.end' (rs := [2, 3, 4, 5]) (vs := [.slice none 0 0, .slice none 0 0, .slice none 0 0, .bool false]) WF (.inl UJ) (by omega) Gk I5 (hxs.cx.trans hcx) (by simp [T.get_set]) ?_
   exact q1 (.inl hz) _ hxs
 · have hxa : Ext F Non s sa := xr.step xa hb (fun x _ h => hFp x h) fun _ h => h.elim
   rw [A9 (k := 0) rfl, A9 (k := 1) rfl, A9 (k := 2) rfl]
   refine W.alloc DU fun sb nb xb ob => ?_
   have hxb : Ext F Non s sb := hxa.step xb hb (fun _ _ h => h.elim) fun _ h => h.elim
   refine W.store BP rfl (BT _) (Af.owned ob) fun sc nc xc oc => ?_
   have hxc : Ext F Non s sc := hxb.step xc hb (fun x hx h => by
     have h1 := h.1
     have h2 := hxa.nxt
     have h3 : x < s.lim := hx
     omega) fun x h => by
       have h1 := h.1
       have h2 := hxa.nxt
       omega
   refine PI.w Sm (by omega) ?_
   have e2 : (!decide ((3 : Int) = 0)) = true := rfl
   simp -implicitDefEqProofs only [Nq, Ad, W_oS, W_on, Aa, W_mv, Ac, T.get_set, Ap, Al, Ak, reduceIte, AX, By, A7, Bz, AV, Nat.reduceEqDiff, reduceCtorEq, ↓reduceIte, D9, e2]
   refine W.cond (v := true) QI Sf (by simp [T.get_set]) (by omega) (fun _ => ?_) fun h => by cases h
   refine UW.w Y6 (by omega) ?_
   simp -implicitDefEqProofs only [RO, Aa, W_mv, Ac]
   have hxs : Ext F Non s0 sc := hx.step hxc hb0 (fun _ _ h => h) fun _ h => h.elim
   refine W.end' (rs := [2, 3, 4, 5]) (vs := [.slice none 0 0, .slice none 0 0, .slice none 0 0, .bool false]) WF (.inl UJ) (by omega) Gk I5 (hxs.cx.trans hcx) (by simp [T.get_set]) ?_
   exact q1 (.inr hz) _ hxs
 · have hxa : Ext F Non s sa := xr.step xa hb (fun x _ h => hFp x h) fun _ h => h.elim
   rw [A9 (k := 0) rfl, A9 (k := 1) rfl, A9 (k := 2) rfl]
   refine W.alloc DU fun sb nb xb ob => ?_
   have hxb : Ext F Non s sb := hxa.step xb hb (fun _ _ h => h.elim) fun _ h => h.elim
   have hIl : (u8l (idB parts[i].2)).length = 16 := by rw [A0]; exact B1 _
   refine W.store BP hIl (BT _) (Af.owned ob) fun sc nc xc oc => ?_
   have ha' := hxa.nxt
   have hGc : ∀ x, In sa.next 0 16 x → s.next ≤ x := fun x h => by have h1 := h.1; omega
   have hxc : Ext F Non s sc := hxb.step xc hb (fun x hx h => by
     have h1 := hGc x h
     have h3 : x < s.lim := hx
     omega) hGc
   have hwc : Bn sc w (recB parts[i].2) := (hw.ext0 xb).ext xc fun x hx h => by
     have h1 := hw.lt x hx
     have h2 := h.1
     omega
   have g1c := g1.ext0 hxc
   have g2c := g2.ext0 hxc
   have hrl := DI parts[i].2
   refine PI.w Sm (by omega) ?_
   simp -implicitDefEqProofs only [Nq, Ad, W_oS, W_on, Aa, W_mv, Ac, T.get_set, Ap, Al, Ak, AW, reduceIte, AX, Bg, A7, Bh, AV, Nat.reduceEqDiff, reduceCtorEq, ↓reduceIte, D9, decide_true, Bool.not_true]
   rw [hwc.bs.len A1]
   simp -implicitDefEqProofs only [W_oS, Aa, h0, h11, Ck Ca hi]
   refine W.load1 CL g1c ?_
   rw [Bs.len (s := sc.rdN (b + (o + i * 1))) (g2c.same rfl rfl) A1]
   refine G5 _ (by omega) ?_
   rw [Jj hz1 hz2]
   have e3 : (!decide (((recB parts[i].2).length : Nat) = ((parts[i].2.length + 26 : Nat) : Int))) = false := by rw [hrl]; simp
   simp -implicitDefEqProofs only [W_oS, Aa, reduceIte, AX, Bg, A7, Bh, AV, reduceCtorEq, ↓reduceIte, D9, e3]
   have hwd : Bn (sc.rdN (b + (o + i * 1))) w (recB parts[i].2) := hwc.same rfl rfl
   rw [hwd.bs.len A1]
   simp -implicitDefEqProofs only [Bm]
   have hxd : Ext F Non s (sc.rdN (b + (o + i * 1))) := hxc.step (Ext.rdN (F := F) (G := Non) sc _ fun _ => hFc) hb (fun _ _ h => h) fun _ h => h.elim
   refine W.cond (v := false) QI Sf (by simp [T.get_set]; omega) (by omega) (fun h => by cases h) fun _ => ?_
   refine q2 hz1 hz2 _ _ _ _ w sa.next (by omega) JL_ hxd (fun k hk => ?_) (by simp [T.get_set]) (by simp [T.get_set]) (by omega) (fun j u e => (oc j u e).same rfl rfl) hwd hwn
   rcases hk with rfl | rfl | rfl | rfl | rfl | rfl <;> simp [T.get_set]
end
end Go.Proofs.Ytofanlcjeohcjaa.Am
end
