/- strings.CutPrefix, said of all states. -/
import Derived.Test.YtofanlcjeohcjaaMn13
import GoSem.Op.String
import Derived.Test.YtofanlcjeohcjaaMn11
import Derived.Test.YtofanlcjeohcjaaMn07
import GoSem.ClaimWide
import Derived.Carry
import Derived.ChangeSame
namespace Go.Proofs.Ytofanlcjeohcjaa.Am
open Go.RowKit

theorem ty_str : isStrT envS 9 = true := by kernel_rfl
def hasP (a b : ByteArray) : Bool := decide (b.size ≤ a.size) && ((a.extract 0 b.size).data.toList == b.data.toList)
theorem bndV_nat (k : IntKind) (n d : Nat) : bndV (some (.int k (n : Nat))) d = some n := rfl
theorem HasPrefix_spec {n : Nat} {s : St} {a b : ByteArray} {Q : Value → St → Prop} (hn : 20 ≤ n) (q : Q (.bool (hasP a b)) s) : W (callW envS (runF envS n) 143 [.string a, .string b]) s Q := by
  refine sl_HasPrefix_W fun tm h0 h1 => ?_
  refine sl_HasPrefix_q0.w rfl (by omega) ?_
  simp -implicitDefEqProofs only [sl_HasPrefix_r0, W_bind, W_oS, W_on, W_pure, W_mv, W_setF, W_setT, T.get_set, seqO_cons, seqO_nil, seqP_cons, seqP_nil, onO_some', W_callV, reduceIte, isK_bool, isB_tt, isB_tf, isB_ft, isB_ff, W_chk, W_ifT, W_ifF, W_pick, W_nil, Nat.reduceEqDiff, Nat.reduceEqDiff, reduceCtorEq, ↓reduceIte]
  refine sl_HasPrefix_q1.w sl_HasPrefix_S0_1 (by omega) ?_
  unfold hasP at q
  by_cases hle : b.size ≤ a.size
  · rw [decide_eq_true hle, Bool.true_and] at q
    simp -implicitDefEqProofs only [sl_HasPrefix_r1, W_bind, W_oS, W_on, W_pure, W_mv, W_setF, W_setT, T.get_set, seqO_cons, seqO_nil, seqP_cons, seqP_nil, onO_some', W_callV, reduceIte, isK_bool, isB_tt, isB_tf, isB_ft, isB_ff, W_chk, W_ifT, W_ifF, W_pick, W_nil, Nat.reduceEqDiff, Nat.reduceEqDiff, reduceCtorEq, ↓reduceIte, W_add64, W_sub64, W_lss64, W_gtr64, W_leq64, W_geq64, W_eql64, W_neq64, h0, h1, W_lenS ty_str]
    rw [decide_eq_true (show ((b.size : Nat) : Int) ≤ ((a.size : Nat) : Int) by omega)]
    simp -implicitDefEqProofs only [W_bind, W_oS, W_on, W_pure, W_mv, W_setF, W_setT, T.get_set, seqO_cons, seqO_nil, seqP_cons, seqP_nil, onO_some', W_callV, reduceIte, isK_bool, isB_tt, isB_tf, isB_ft, isB_ff, W_chk, W_ifT, W_ifF, W_pick, W_nil, Nat.reduceEqDiff, Nat.reduceEqDiff, reduceCtorEq, ↓reduceIte, W_add64, W_sub64, W_lss64, W_gtr64, W_leq64, W_geq64, W_eql64, W_neq64, W_lenS ty_str]
    rw [W_slS ty_str (l := 0) (h := b.size) rfl (bndV_nat _ _ _) (Nat.zero_le _) hle]
    simp -implicitDefEqProofs only [W_bind, W_oS, W_on, W_pure, W_mv, W_setF, W_setT, T.get_set, seqO_cons, seqO_nil, seqP_cons, seqP_nil, onO_some', W_callV, reduceIte, isK_bool, isB_tt, isB_tf, isB_ft, isB_ff, W_chk, W_ifT, W_ifF, W_pick, W_nil, Nat.reduceEqDiff, Nat.reduceEqDiff, reduceCtorEq, ↓reduceIte, W_eqS]
    exact W.end' (rs := [4]) (vs := [.bool ((a.extract 0 b.size).data.toList == b.data.toList)]) sl_HasPrefix_S1_2 (.inl sl_HasPrefix_E2) (by omega) sl_HasPrefix_fn sl_HasPrefix_res rfl (by simp [T.get_set]) q
  · rw [decide_eq_false hle, Bool.false_and] at q
    simp -implicitDefEqProofs only [sl_HasPrefix_r1, W_bind, W_oS, W_on, W_pure, W_mv, W_setF, W_setT, T.get_set, seqO_cons, seqO_nil, seqP_cons, seqP_nil, onO_some', W_callV, reduceIte, isK_bool, isB_tt, isB_tf, isB_ft, isB_ff, W_chk, W_ifT, W_ifF, W_pick, W_nil, Nat.reduceEqDiff, Nat.reduceEqDiff, reduceCtorEq, ↓reduceIte, W_add64, W_sub64, W_lss64, W_gtr64, W_leq64, W_geq64, W_eql64, W_neq64, h0, h1, W_lenS ty_str]
    rw [decide_eq_false (show ¬ ((b.size : Nat) : Int) ≤ ((a.size : Nat) : Int) by omega)]
    simp -implicitDefEqProofs only [W_bind, W_oS, W_on, W_pure, W_mv, W_setF, W_setT, T.get_set, seqO_cons, seqO_nil, seqP_cons, seqP_nil, onO_some', W_callV, reduceIte, isK_bool, isB_tt, isB_tf, isB_ft, isB_ff, W_chk, W_ifT, W_ifF, W_pick, W_nil, Nat.reduceEqDiff, Nat.reduceEqDiff, reduceCtorEq, ↓reduceIte, W_add64, W_sub64, W_lss64, W_gtr64, W_leq64, W_geq64, W_eql64, W_neq64, W_lenS ty_str]
    exact W.end' (rs := [4]) (vs := [.bool false]) sl_HasPrefix_S1_2 (.inl sl_HasPrefix_E2) (by omega) sl_HasPrefix_fn sl_HasPrefix_res rfl (by simp [T.get_set]) q
theorem slCut_spec {n : Nat} {s : St} {a b : ByteArray} {Q : Value → St → Prop} (hn : 40 ≤ n) (q1 : hasP a b = true → Q (.tuple #[.string (a.extract b.size a.size), .bool true]) s) (q2 : hasP a b = false → Q (.tuple #[.string a, .bool false]) s) :
    W (callW envS (runF envS n) 125 [.string a, .string b]) s Q := by
  refine sl_CutPrefix_W fun tm h0 h1 => ?_
  refine sl_CutPrefix_q0.w rfl (by omega) ?_
  simp -implicitDefEqProofs only [sl_CutPrefix_r0, W_bind, W_oS, W_on, W_pure, W_mv, W_setF, W_setT, T.get_set, seqO_cons, seqO_nil, seqP_cons, seqP_nil, onO_some', W_callV, reduceIte, isK_bool, isB_tt, isB_tf, isB_ft, isB_ff, W_chk, W_ifT, W_ifF, W_pick, W_nil, Nat.reduceEqDiff, Nat.reduceEqDiff, reduceCtorEq, ↓reduceIte]
  refine sl_CutPrefix_q1.w sl_CutPrefix_S0_1 (by omega) ?_
  simp -implicitDefEqProofs only [sl_CutPrefix_r1, W_bind, W_oS, W_on, W_pure, W_mv, W_setF, W_setT, T.get_set, seqO_cons, seqO_nil, seqP_cons, seqP_nil, onO_some', W_callV, reduceIte, isK_bool, isB_tt, isB_tf, isB_ft, isB_ff, W_chk, W_ifT, W_ifF, W_pick, W_nil, Nat.reduceEqDiff, Nat.reduceEqDiff, reduceCtorEq, ↓reduceIte, h0, h1]
  refine HasPrefix_spec (by omega) ?_
  simp -implicitDefEqProofs only [W_not, W_bind, W_oS, W_on, W_pure, W_mv, W_setF, W_setT, T.get_set, seqO_cons, seqO_nil, seqP_cons, seqP_nil, onO_some', W_callV, reduceIte, isK_bool, isB_tt, isB_tf, isB_ft, isB_ff, W_chk, W_ifT, W_ifF, W_pick, W_nil, Nat.reduceEqDiff, Nat.reduceEqDiff, reduceCtorEq, ↓reduceIte]
  cases hp : hasP a b with
  | true =>
    refine W.cond (v := false) sl_CutPrefix_S1_2 sl_CutPrefix_C2 (by simp [T.get_set]) (by omega) (fun h => by cases h) fun _ => ?_
    refine sl_CutPrefix_q4.w sl_CutPrefix_S2_4 (by omega) ?_
    have hle : b.size ≤ a.size := by
      unfold hasP at hp
      rw [Bool.and_eq_true] at hp
      exact of_decide_eq_true hp.1
    simp -implicitDefEqProofs only [sl_CutPrefix_r4, W_bind, W_oS, W_on, W_pure, W_mv, W_setF, W_setT, T.get_set, seqO_cons, seqO_nil, seqP_cons, seqP_nil, onO_some', W_callV, reduceIte, isK_bool, isB_tt, isB_tf, isB_ft, isB_ff, W_chk, W_ifT, W_ifF, W_pick, W_nil, Nat.reduceEqDiff, Nat.reduceEqDiff, reduceCtorEq, ↓reduceIte, h0, h1, W_lenS ty_str]
    rw [W_slS ty_str (l := b.size) (h := a.size) (bndV_nat _ _ _) rfl hle (Nat.le_refl _)]
    exact W.end' (rs := [4, 5]) (vs := [.string (a.extract b.size a.size), .bool true]) sl_CutPrefix_S4_6 (.inl sl_CutPrefix_E6) (by omega) sl_CutPrefix_fn sl_CutPrefix_res rfl (by simp [T.get_set]) (q1 hp)
  | false =>
    refine W.cond (v := true) sl_CutPrefix_S1_2 sl_CutPrefix_C2 (by simp [T.get_set]) (by omega) (fun _ => ?_) fun h => by cases h
    refine sl_CutPrefix_q3.w sl_CutPrefix_S2_3 (by omega) ?_
    simp -implicitDefEqProofs only [sl_CutPrefix_r3, W_bind, W_oS, W_on, W_pure, W_mv, W_setF, W_setT, T.get_set, seqO_cons, seqO_nil, seqP_cons, seqP_nil, onO_some', W_callV, reduceIte, isK_bool, isB_tt, isB_tf, isB_ft, isB_ff, W_chk, W_ifT, W_ifF, W_pick, W_nil, Nat.reduceEqDiff, Nat.reduceEqDiff, reduceCtorEq, ↓reduceIte, h0]
    exact W.end' (rs := [4, 5]) (vs := [.string a, .bool false]) sl_CutPrefix_S3_5 (.inl sl_CutPrefix_E5) (by omega) sl_CutPrefix_fn sl_CutPrefix_res rfl (by simp [T.get_set]) (q2 hp)
theorem CutPrefix_spec {n : Nat} {s : St} {a b : ByteArray} {Q : Value → St → Prop} (hn : 60 ≤ n) (q1 : hasP a b = true → Q (.tuple #[.string (a.extract b.size a.size), .bool true]) s) (q2 : hasP a b = false → Q (.tuple #[.string a, .bool false]) s) :
    W (callW envS (runF envS n) 93 [.string a, .string b]) s Q := by
  refine str_CutPrefix_W fun tm h0 h1 => ?_
  refine str_CutPrefix_q0.w rfl (by omega) ?_
  simp -implicitDefEqProofs only [str_CutPrefix_r0, W_bind, W_oS, W_on, W_pure, W_mv, W_setF, W_setT, T.get_set, seqO_cons, seqO_nil, seqP_cons, seqP_nil, onO_some', W_callV, reduceIte, isK_bool, isB_tt, isB_tf, isB_ft, isB_ff, W_chk, W_ifT, W_ifF, W_pick, W_nil, Nat.reduceEqDiff, Nat.reduceEqDiff, reduceCtorEq, ↓reduceIte]
  refine str_CutPrefix_q1.w str_CutPrefix_S0_1 (by omega) ?_
  simp -implicitDefEqProofs only [str_CutPrefix_r1, W_bind, W_oS, W_on, W_pure, W_mv, W_setF, W_setT, T.get_set, seqO_cons, seqO_nil, seqP_cons, seqP_nil, onO_some', W_callV, reduceIte, isK_bool, isB_tt, isB_tf, isB_ft, isB_ff, W_chk, W_ifT, W_ifF, W_pick, W_nil, Nat.reduceEqDiff, Nat.reduceEqDiff, reduceCtorEq, ↓reduceIte, h0, h1]
  refine slCut_spec (by omega) (fun hp => ?_) fun hp => ?_
  · rw [W_ext (k := 0) rfl, W_ext (k := 1) rfl]
    exact W.end' (rs := [4, 5]) (vs := [.string (a.extract b.size a.size), .bool true]) str_CutPrefix_S1_2 (.inl str_CutPrefix_E2) (by omega) str_CutPrefix_fn str_CutPrefix_res rfl (by simp [T.get_set]) (q1 hp)
  · rw [W_ext (k := 0) rfl, W_ext (k := 1) rfl]
    exact W.end' (rs := [4, 5]) (vs := [.string a, .bool false]) str_CutPrefix_S1_2 (.inl str_CutPrefix_E2) (by omega) str_CutPrefix_fn str_CutPrefix_res rfl (by simp [T.get_set]) (q2 hp)
end Go.Proofs.Ytofanlcjeohcjaa.Am
/- Numbers' names and what names say: plain, with no program in sight. -/
namespace Go.Proofs.Ytofanlcjeohcjaa.Am

def preL : List UInt8 := [112, 97, 99, 107, 47]
def dig6 (n : Nat) : List Nat := [48 + n / 100000 % 10, 48 + n / 10000 % 10, 48 + n / 1000 % 10, 48 + n / 100 % 10, 48 + n / 10 % 10, 48 + n % 10]
def nameL (n : Int) : List UInt8 := if 1 ≤ n ∧ n ≤ 999999 then preL ++ (dig6 n.toNat).map UInt8.ofNat else []
def isDig (c : UInt8) : Bool := decide (48 ≤ c.toNat) && decide (c.toNat ≤ 57)
def val6 (a : Nat) (l : List UInt8) : Nat := l.foldl (fun a c => 10 * a + (c.toNat - 48)) a
def parseL (d : List UInt8) : Nat × Bool :=
  if d.take 5 = preL ∧ d.length = 11 ∧ (d.drop 5).all isDig = true then (val6 0 (d.drop 5), decide (0 < val6 0 (d.drop 5))) else (0, false)
theorem ofNat_toNat {k : Nat} (h : k < 256) : (UInt8.ofNat k).toNat = k := by simp; omega
theorem digs_all (n : Nat) : ((dig6 n).map UInt8.ofNat).all isDig = true := by
  simp only [dig6, List.map_cons, List.map_nil, List.all_cons, List.all_nil, Bool.and_true, isDig, Bool.and_eq_true, decide_eq_true_eq]
  have h : ∀ k, k < 10 → 48 ≤ (UInt8.ofNat (48 + k)).toNat ∧ (UInt8.ofNat (48 + k)).toNat ≤ 57 := fun k hk => by rw [ofNat_toNat (by omega)]; omega
  exact ⟨h _ (by omega), h _ (by omega), h _ (by omega), h _ (by omega), h _ (by omega), h _ (by omega)⟩
theorem val_digs {n : Nat} (h : n ≤ 999999) : val6 0 ((dig6 n).map UInt8.ofNat) = n := by
  simp only [dig6, List.map_cons, List.map_nil, val6, List.foldl_cons, List.foldl_nil]
  rw [ofNat_toNat (by omega), ofNat_toNat (by omega), ofNat_toNat (by omega), ofNat_toNat (by omega), ofNat_toNat (by omega), ofNat_toNat (by omega)]
  omega
/-- What is parsed of a name. -/
theorem parse_name (n : Int) : parseL (nameL n) = if 1 ≤ n ∧ n ≤ 999999 then (n.toNat, true) else (0, false) := by
  unfold nameL
  by_cases h : 1 ≤ n ∧ n ≤ 999999
  · rw [if_pos h, if_pos h]
    have hd : (preL ++ (dig6 n.toNat).map UInt8.ofNat).drop 5 = (dig6 n.toNat).map UInt8.ofNat := rfl
    unfold parseL
    rw [hd, digs_all, val_digs (by omega), if_pos ⟨rfl, rfl, rfl⟩]
    rw [decide_eq_true (by omega)]
  · rw [if_neg h, if_neg h]
    rfl
theorem dig_of (c : UInt8) (h : isDig c = true) : UInt8.ofNat (48 + (c.toNat - 48)) = c := by
  simp only [isDig, Bool.and_eq_true, decide_eq_true_eq] at h
  rw [show 48 + (c.toNat - 48) = c.toNat by omega]
  simp
/-- What is parsed has this name. -/
theorem name_parse (d : List UInt8) : ((parseL d).2 = true → nameL (parseL d).1 = d ∧ 1 ≤ (parseL d).1 ∧ (parseL d).1 ≤ 999999) ∧ ((parseL d).2 = false → (parseL d).1 = 0) := by
  unfold parseL
  by_cases h : d.take 5 = preL ∧ d.length = 11 ∧ (d.drop 5).all isDig = true
  · rw [if_pos h]
    obtain ⟨h1, h2, h3⟩ := h
    have hlen : (d.drop 5).length = 6 := by rw [List.length_drop, h2]
    have hd : d = preL ++ d.drop 5 := by rw [← h1, List.take_append_drop]
    obtain ⟨v, hv⟩ : ∃ v, v = val6 0 (d.drop 5) := ⟨_, rfl⟩
    rw [← hv]
    generalize d.drop 5 = e at *
    subst hd
    match e, hlen with
    | [a, b, c, x, y, z], _ =>
      simp only [List.all_cons, List.all_nil, Bool.and_true, Bool.and_eq_true] at h3
      obtain ⟨p1, p2, p3, p4, p5, p6⟩ := h3
      have q : ∀ c : UInt8, isDig c = true → 48 ≤ c.toNat ∧ c.toNat ≤ 57 := fun c h => by
        simpa only [isDig, Bool.and_eq_true, decide_eq_true_eq] using h
      have q1 := q _ p1; have q2 := q _ p2; have q3 := q _ p3; have q4 := q _ p4; have q5 := q _ p5; have q6 := q _ p6
      simp only [val6, List.foldl_cons, List.foldl_nil] at hv
      refine ⟨fun h => ?_, fun h => ?_⟩
      · have h0 : 0 < v := by simpa using h
        have h9 : v ≤ 999999 := by omega
        refine ⟨?_, h0, h9⟩
        show nameL ((v : Nat) : Int) = preL ++ [a, b, c, x, y, z]
        unfold nameL
        rw [if_pos ⟨by omega, by omega⟩]
        congr 1
        rw [show ((v : Nat) : Int).toNat = v from rfl]
        simp only [dig6, List.map_cons, List.map_nil]
        rw [show v / 100000 % 10 = a.toNat - 48 by omega, show v / 10000 % 10 = b.toNat - 48 by omega, show v / 1000 % 10 = c.toNat - 48 by omega, show v / 100 % 10 = x.toNat - 48 by omega, show v / 10 % 10 = y.toNat - 48 by omega, show v % 10 = z.toNat - 48 by omega]
        rw [dig_of _ p1, dig_of _ p2, dig_of _ p3, dig_of _ p4, dig_of _ p5, dig_of _ p6]
      · have : ¬ 0 < v := by simpa using h
        show v = 0
        omega
  · rw [if_neg h]
    exact ⟨fun h => (by cases h), fun _ => rfl⟩
def natLess : List Nat → List Nat → Bool
  | _, [] => false
  | [], _ :: _ => true
  | a :: x, b :: y => decide (a < b) || (decide (a = b) && natLess x y)
theorem less_nat : ∀ (l m : List Nat), (∀ x ∈ l, x < 256) → (∀ x ∈ m, x < 256) → Op.bytesLess (l.map UInt8.ofNat) (m.map UInt8.ofNat) = natLess l m
  | [], [], _, _ => rfl
  | _ :: _, [], _, _ => rfl
  | [], _ :: _, _, _ => rfl
  | a :: l, b :: m, h1, h2 => by
    have ha : a < 256 := h1 a (by simp)
    have hb : b < 256 := h2 b (by simp)
    simp only [List.map_cons, Op.bytesLess, natLess]
    rw [less_nat l m (fun x hx => h1 x (by simp [hx])) (fun x hx => h2 x (by simp [hx]))]
    have e1 : decide (UInt8.ofNat a < UInt8.ofNat b) = decide (a < b) := by
      rw [decide_eq_decide, UInt8.lt_iff_toNat_lt, ofNat_toNat ha, ofNat_toNat hb]
    have e2 : (UInt8.ofNat a == UInt8.ofNat b) = decide (a = b) := by
      rw [Bool.eq_iff_iff, beq_iff_eq, decide_eq_true_eq, ← UInt8.toNat_inj, ofNat_toNat ha, ofNat_toNat hb]
    rw [e1, e2]
theorem less_pre : ∀ (p x y : List UInt8), Op.bytesLess (p ++ x) (p ++ y) = Op.bytesLess x y
  | [], _, _ => rfl
  | a :: p, x, y => by
    show (decide (a < a) || (a == a && Op.bytesLess (p ++ x) (p ++ y))) = _
    rw [less_pre p x y]
    simp
/-- Names rise with their numbers. -/
theorem name_less {n m : Int} (h1 : 1 ≤ n) (h : n < m) (h2 : m ≤ 999999) : Op.bytesLess (nameL n) (nameL m) = true := by
  unfold nameL
  rw [if_pos ⟨h1, by omega⟩, if_pos ⟨by omega, h2⟩, less_pre, less_nat]
  · have h' : n.toNat < m.toNat := by omega
    have h9 : m.toNat ≤ 999999 := by omega
    generalize n.toNat = a at *
    generalize m.toNat = b at *
    simp only [dig6, natLess, Bool.or_eq_true, Bool.and_eq_true, decide_eq_true_eq, Bool.and_false, Bool.or_false]
    rcases Nat.lt_or_ge (a / 100000) (b / 100000) with g1 | g1
    · left; omega
    right; refine ⟨by omega, ?_⟩
    have e1 : a / 100000 = b / 100000 := by omega
    rcases Nat.lt_or_ge (a / 10000) (b / 10000) with g2 | g2
    · left; omega
    right; refine ⟨by omega, ?_⟩
    have e2 : a / 10000 = b / 10000 := by omega
    rcases Nat.lt_or_ge (a / 1000) (b / 1000) with g3 | g3
    · left; omega
    right; refine ⟨by omega, ?_⟩
    have e3 : a / 1000 = b / 1000 := by omega
    rcases Nat.lt_or_ge (a / 100) (b / 100) with g4 | g4
    · left; omega
    right; refine ⟨by omega, ?_⟩
    have e4 : a / 100 = b / 100 := by omega
    rcases Nat.lt_or_ge (a / 10) (b / 10) with g5 | g5
    · left; omega
    right; refine ⟨by omega, ?_⟩
    have e5 : a / 10 = b / 10 := by omega
    omega
  · intro x hx
    simp only [dig6, List.mem_cons, List.not_mem_nil, or_false] at hx
    omega
  · intro x hx
    simp only [dig6, List.mem_cons, List.not_mem_nil, or_false] at hx
    omega
end Go.Proofs.Ytofanlcjeohcjaa.Am
/- index.Name, said of all states. -/
namespace Go.Proofs.Ytofanlcjeohcjaa.Am
open Go.RowKit

section
variable {E : Env} {s : St} {t : Nat}
theorem quo_run (m n : Nat) (hn : 1 ≤ n) (hm : m ≤ 9223372036854775807) (xo yo : Operand) : Cl.get (aBin E .quo t xo yo) (.int .i64 (m : Nat)) (.int .i64 (n : Nat)) s = .some (.int .i64 (m / n : Nat)) s := by
  show int3 quoK (binSlow E .quo t xo yo) (.int .i64 (.ofNat m)) (.int .i64 (.ofNat n)) s = _
  show Option.rec (motive := fun _ => R Value) _ (fun v => .some v s) (quoK .i64 .i64 m n) = _
  have : quoK .i64 .i64 m n = some (.int .i64 (m / n : Nat)) := by
    unfold quoK sameK
    rw [Nat.beq_refl, Nat.ble_eq_true_of_le hn]
    exact fit64 (Nat.le_trans (Nat.div_le_self m n) hm)
  rw [this]
theorem W_quo {m n : Nat} {xo yo : Operand} (hn : 1 ≤ n) (hm : m ≤ 9223372036854775807) (Q : Value → St → Prop) : W (Cl.get (aBin E .quo t xo yo) (.int .i64 (m : Nat)) (.int .i64 (n : Nat))) s Q = Q (.int .i64 (m / n : Nat)) s := W_run (quo_run m n hn hm xo yo)
end
theorem int_10 : (10 : Int) = ((10 : Nat) : Int) := rfl
/-- The digits, from the last one on. -/
def fillD : Nat → List Nat → Nat → Nat → List Nat
  | 0, l, _, _ => l
  | k + 1, l, m, i => fillD k (l.set (5 - i) (48 + m % 10)) (m / 10) (i + 1)
theorem fillD_all (m : Nat) : fillD 6 [0, 0, 0, 0, 0, 0] m 0 = dig6 m := by
  simp -implicitDefEqProofs only [fillD, List.set, Nat.sub_zero, Nat.reduceSub, Nat.reduceAdd, dig6]
  simp -implicitDefEqProofs only [Nat.div_div_eq_div_mul, Nat.reduceMul]
theorem name_loop {b : Nat} {Q : Value × FrameMode → St → Prop} {s0 : St} (hb0 : s0.lim ≤ s0.next) : ∀ (k i m n : Nat) (l : List Nat) (tm : T Value) (s : St) (td : List Item), i + k = 6 → m ≤ 999999 → l.length = 6 → 10 * k + 20 ≤ n → skim 64 td = index_Name_P7 → Ext (In b 0 6) (In b 0 6) s0 s → OwnRow s b 0 (u8l l) →
    T.get tm 0 = some (.int .i64 (m : Nat)) → T.get tm 3 = some (.pointer (some ⟨b, 0, none⟩)) → T.get tm 11 = some (.int .i64 (i : Nat)) →
    (∀ n' tm' s1 td', n ≤ n' + 10 * k + 5 → skim 64 td' = index_Name_P10 → Ext (In b 0 6) (In b 0 6) s0 s1 → OwnRow s1 b 0 (u8l (fillD k l m i)) → T.get tm' 3 = some (.pointer (some ⟨b, 0, none⟩)) → W (runF envS n' ⟨47, index_Name_nt, index_Name_g, tm', td', .run, .normal, none⟩) s1 Q) →
    W (runF envS n ⟨47, index_Name_nt, index_Name_g, tm, td, .run, .normal, none⟩) s Q := by
  intro k
  induction k with
  | zero =>
    intro i m n l tm s td hi hm hl hn hT hx ho h0 h3 h11 q
    refine index_Name_q7.w hT (by omega) ?_
    simp -implicitDefEqProofs only [index_Name_r7, W_bind, W_oS, W_on, W_pure, W_mv, W_setF, W_setT, T.get_set, seqO_cons, seqO_nil, seqP_cons, seqP_nil, onO_some', W_callV, reduceIte, isK_bool, isB_tt, isB_tf, isB_ft, isB_ff, W_chk, W_ifT, W_ifF, W_pick, W_nil, Nat.reduceEqDiff, Nat.reduceEqDiff, reduceCtorEq, ↓reduceIte, h11]
    simp -implicitDefEqProofs only [W_bind, W_oS, W_on, W_pure, W_mv, W_setF, W_setT, T.get_set, seqO_cons, seqO_nil, seqP_cons, seqP_nil, onO_some', W_callV, reduceIte, isK_bool, isB_tt, isB_tf, isB_ft, isB_ff, W_chk, W_ifT, W_ifF, W_pick, W_nil, Nat.reduceEqDiff, Nat.reduceEqDiff, reduceCtorEq, ↓reduceIte, W_add64, W_sub64, W_lss64, W_gtr64, W_leq64, W_geq64, W_eql64, W_neq64]
    refine W.cond (v := false) index_Name_S7_8 index_Name_C8 (by simp [T.get_set]; omega) (by omega) (fun h => by cases h) fun _ => ?_
    exact q _ _ _ _ (by omega) index_Name_S8_10 hx ho (by simp [T.get_set, h3])
  | succ k ih =>
    intro i m n l tm s td hi hm hl hn hT hx ho h0 h3 h11 q
    refine index_Name_q7.w hT (by omega) ?_
    simp -implicitDefEqProofs only [index_Name_r7, W_bind, W_oS, W_on, W_pure, W_mv, W_setF, W_setT, T.get_set, seqO_cons, seqO_nil, seqP_cons, seqP_nil, onO_some', W_callV, reduceIte, isK_bool, isB_tt, isB_tf, isB_ft, isB_ff, W_chk, W_ifT, W_ifF, W_pick, W_nil, Nat.reduceEqDiff, Nat.reduceEqDiff, reduceCtorEq, ↓reduceIte, h11]
    simp -implicitDefEqProofs only [W_bind, W_oS, W_on, W_pure, W_mv, W_setF, W_setT, T.get_set, seqO_cons, seqO_nil, seqP_cons, seqP_nil, onO_some', W_callV, reduceIte, isK_bool, isB_tt, isB_tf, isB_ft, isB_ff, W_chk, W_ifT, W_ifF, W_pick, W_nil, Nat.reduceEqDiff, Nat.reduceEqDiff, reduceCtorEq, ↓reduceIte, W_add64, W_sub64, W_lss64, W_gtr64, W_leq64, W_geq64, W_eql64, W_neq64]
    refine W.cond (v := true) index_Name_S7_8 index_Name_C8 (by simp [T.get_set]; omega) (by omega) (fun _ => ?_) fun h => by cases h
    refine index_Name_q9.w index_Name_S8_9 (by omega) ?_
    simp -implicitDefEqProofs only [index_Name_r9, W_bind, W_oS, W_on, W_pure, W_mv, W_setF, W_setT, T.get_set, seqO_cons, seqO_nil, seqP_cons, seqP_nil, onO_some', W_callV, reduceIte, isK_bool, isB_tt, isB_tf, isB_ft, isB_ff, W_chk, W_ifT, W_ifF, W_pick, W_nil, Nat.reduceEqDiff, Nat.reduceEqDiff, reduceCtorEq, ↓reduceIte, h11]
    refine index_Name_q11.w index_Name_S9_11 (by omega) ?_
    have e5 : wrap64 (5 - ((i : Nat) : Int)) = ((5 - i : Nat) : Int) := by
      rw [wrap64_id (by omega) (by omega)]; omega
    have e48 : wrap64 (48 + ((m % 10 : Nat) : Int)) = ((48 + m % 10 : Nat) : Int) := by
      rw [wrap64_id (by omega) (by omega)]; omega
    have e8 : IntKind.u8.wrap ((48 + m % 10 : Nat) : Int) = ((48 + m % 10 : Nat) : Int) := by
      rw [wrap_u8]; omega
    simp -implicitDefEqProofs only [index_Name_r11, W_bind, W_oS, W_on, W_pure, W_mv, W_setF, W_setT, T.get_set, seqO_cons, seqO_nil, seqP_cons, seqP_nil, onO_some', W_callV, reduceIte, isK_bool, isB_tt, isB_tf, isB_ft, isB_ff, W_chk, W_ifT, W_ifF, W_pick, W_nil, Nat.reduceEqDiff, Nat.reduceEqDiff, reduceCtorEq, ↓reduceIte, W_add64, W_sub64, W_lss64, W_gtr64, W_leq64, W_geq64, W_eql64, W_neq64, h0, h3, e5]
    rw [int_10, W_rem (by decide)]
    simp -implicitDefEqProofs only [W_bind, W_oS, W_on, W_pure, W_mv, W_setF, W_setT, T.get_set, seqO_cons, seqO_nil, seqP_cons, seqP_nil, onO_some', W_callV, reduceIte, isK_bool, isB_tt, isB_tf, isB_ft, isB_ff, W_chk, W_ifT, W_ifF, W_pick, W_nil, Nat.reduceEqDiff, Nat.reduceEqDiff, reduceCtorEq, ↓reduceIte, W_add64, W_sub64, W_lss64, W_gtr64, W_leq64, W_geq64, W_eql64, W_neq64, e48]
    rw [W_conv tx_int_k tx_u8_k, e8]
    rw [W_idxArr tx_a6 (show 5 - i < 6 by omega)]
    have ho5 : Own s b (0 + (5 - i) * 1) (u8 (l.getD (5 - i) 0)) := by
      have := ho (5 - i) (u8 (l.getD (5 - i) 0)) (by
        rw [List.getElem?_map, List.getD_eq_getElem?_getD, List.getElem?_eq_getElem (show 5 - i < l.length by omega)]; rfl)
      rw [show 0 + (5 - i) * 1 = 0 + (5 - i) by omega]
      exact this
    refine W.store1 tx_u8_1 rfl ho5 fun sa na xa oa => ?_
    have sub : ∀ x, In b (0 + (5 - i) * 1) 1 x → In b 0 6 x := fun x h => ⟨by have := h.1; omega, by
      have h2 : x < b + (0 + (5 - i) * 1) + 1 := h.2
      omega⟩
    have hxa : Ext (In b 0 6) (In b 0 6) s0 sa := hx.trans xa hb0 (fun x _ h => sub x h) fun x _ h => sub x h
    have hoa : OwnRow sa b 0 (u8l (l.set (5 - i) (48 + m % 10))) := fun j v e => by
      rw [List.getElem?_map, List.getElem?_set] at e
      by_cases hj : 5 - i = j
      · rw [if_pos hj, if_pos (by omega)] at e
        cases e
        rw [← hj, show 0 + (5 - i) = 0 + (5 - i) * 1 by omega]
        exact oa
      · rw [if_neg hj] at e
        have := ho j v (by rw [List.getElem?_map]; exact e)
        refine this.ext xa fun h => ?_
        have h1 : b + (0 + (5 - i) * 1) ≤ b + (0 + j) := h.1
        have h2 : b + (0 + j) < b + (0 + (5 - i) * 1) + 1 := h.2
        omega
    refine index_Name_q13.w index_Name_S11_13 (by omega) ?_
    simp -implicitDefEqProofs only [index_Name_r13, W_bind, W_oS, W_on, W_pure, W_mv, W_setF, W_setT, T.get_set, seqO_cons, seqO_nil, seqP_cons, seqP_nil, onO_some', W_callV, reduceIte, isK_bool, isB_tt, isB_tf, isB_ft, isB_ff, W_chk, W_ifT, W_ifF, W_pick, W_nil, Nat.reduceEqDiff, Nat.reduceEqDiff, reduceCtorEq, ↓reduceIte, h0]
    rw [int_10, W_quo (by decide) (by omega)]
    refine index_Name_q14.w index_Name_S13_14 (by omega) ?_
    have e1 : wrap64 (((i : Nat) : Int) + 1) = ((i + 1 : Nat) : Int) := by
      rw [wrap64_id (by omega) (by omega)]; omega
    simp -implicitDefEqProofs only [index_Name_r14, W_bind, W_oS, W_on, W_pure, W_mv, W_setF, W_setT, T.get_set, seqO_cons, seqO_nil, seqP_cons, seqP_nil, onO_some', W_callV, reduceIte, isK_bool, isB_tt, isB_tf, isB_ft, isB_ff, W_chk, W_ifT, W_ifF, W_pick, W_nil, Nat.reduceEqDiff, Nat.reduceEqDiff, reduceCtorEq, ↓reduceIte, W_add64, W_sub64, W_lss64, W_gtr64, W_leq64, W_geq64, W_eql64, W_neq64, h11, e1]
    refine ih (i + 1) (m / 10) _ _ _ sa _ (by omega) (by omega) (by rw [List.length_set]; exact hl) (by omega) index_Name_S14_7 hxa hoa (by simp [T.get_set]) (by simp [T.get_set, h3]) (by simp [T.get_set]) fun n' tm' s1 td' hn' hT' hx' ho' h3' => ?_
    exact q n' tm' s1 td' (by omega) hT' hx' ho' h3'
end Go.Proofs.Ytofanlcjeohcjaa.Am
/- index.Name, said of all states: the whole. -/
namespace Go.Proofs.Ytofanlcjeohcjaa.Am
open Go.RowKit

theorem ty_bytes_b : isU8S envS 22 = true := by kernel_rfl
def preB : ByteArray := { data := #[112, 97, 99, 107, 47] }
def nameB (n : Int) : ByteArray := if 1 ≤ n ∧ n ≤ 999999 then preB ++ txt (dig6 n.toNat) else { data := #[] }
theorem nameB_list (n : Int) : (nameB n).data.toList = nameL n := by
  unfold nameB nameL
  by_cases h : 1 ≤ n ∧ n ≤ 999999
  · rw [if_pos h, if_pos h]
    rfl
  · rw [if_neg h, if_neg h]
theorem index_Name_out {n : Nat} {i : Int} {s : St} {Q : Value → St → Prop} (hi1 : -9223372036854775808 ≤ i) (hi2 : i ≤ 9223372036854775807) (hi : ¬ (1 ≤ i ∧ i ≤ 999999)) (hn : 20 ≤ n) (q : Q (.string { data := #[] }) s) : W (callW envS (runF envS n) 47 [.int .i64 i]) s Q := by
  refine index_Name_W fun tm h0 => ?_
  refine index_Name_q0.w rfl (by omega) ?_
  simp -implicitDefEqProofs only [index_Name_r0, W_bind, W_oS, W_on, W_pure, W_mv, W_setF, W_setT, T.get_set, seqO_cons, seqO_nil, seqP_cons, seqP_nil, onO_some', W_callV, reduceIte, isK_bool, isB_tt, isB_tf, isB_ft, isB_ff, W_chk, W_ifT, W_ifF, W_pick, W_nil, Nat.reduceEqDiff, Nat.reduceEqDiff, reduceCtorEq, ↓reduceIte]
  refine index_Name_q1.w index_Name_S0_1 (by omega) ?_
  have fin : ∀ (n' : Nat) (tm' : T Value) (td' : List Item), 10 ≤ n' → skim 64 td' = index_Name_P2 → T.get tm' 10 = some (.bool true) → W (runF envS n' ⟨47, index_Name_nt, index_Name_g, tm', td', .run, .normal, none⟩) (s.cxN cxN) fun p s1 => Q p.1 (s1.cxN s.cx) := fun n' tm' td' hn' hT h10 => by
    refine W.cond (v := true) hT index_Name_C2 h10 (by omega) (fun _ => ?_) fun h => by cases h
    refine index_Name_q3.w index_Name_S2_3 (by omega) ?_
    simp -implicitDefEqProofs only [index_Name_r3, W_bind, W_oS, W_on, W_pure, W_mv, W_setF, W_setT, T.get_set, seqO_cons, seqO_nil, seqP_cons, seqP_nil, onO_some', W_callV, reduceIte, isK_bool, isB_tt, isB_tf, isB_ft, isB_ff, W_chk, W_ifT, W_ifF, W_pick, W_nil, Nat.reduceEqDiff, Nat.reduceEqDiff, reduceCtorEq, ↓reduceIte]
    exact W.end' (rs := [2]) (vs := [.string { data := #[] }]) index_Name_S3_5 (.inl index_Name_E5) (by omega) index_Name_fn index_Name_res rfl (by simp [T.get_set]) q
  by_cases h1 : i < 1
  · simp -implicitDefEqProofs only [index_Name_r1, W_bind, W_oS, W_on, W_pure, W_mv, W_setF, W_setT, T.get_set, seqO_cons, seqO_nil, seqP_cons, seqP_nil, onO_some', W_callV, reduceIte, isK_bool, isB_tt, isB_tf, isB_ft, isB_ff, W_chk, W_ifT, W_ifF, W_pick, W_nil, Nat.reduceEqDiff, Nat.reduceEqDiff, reduceCtorEq, ↓reduceIte, W_add64, W_sub64, W_lss64, W_gtr64, W_leq64, W_geq64, W_eql64, W_neq64, h0]
    rw [decide_eq_true h1]
    simp -implicitDefEqProofs only [W_bind, W_oS, W_on, W_pure, W_mv, W_setF, W_setT, T.get_set, seqO_cons, seqO_nil, seqP_cons, seqP_nil, onO_some', W_callV, reduceIte, isK_bool, isB_tt, isB_tf, isB_ft, isB_ff, W_chk, W_ifT, W_ifF, W_pick, W_nil, Nat.reduceEqDiff, Nat.reduceEqDiff, reduceCtorEq, ↓reduceIte, W_add64, W_sub64, W_lss64, W_gtr64, W_leq64, W_geq64, W_eql64, W_neq64]
    exact fin _ _ _ (by omega) index_Name_S1_2 (by simp [T.get_set])
  · simp -implicitDefEqProofs only [index_Name_r1, W_bind, W_oS, W_on, W_pure, W_mv, W_setF, W_setT, T.get_set, seqO_cons, seqO_nil, seqP_cons, seqP_nil, onO_some', W_callV, reduceIte, isK_bool, isB_tt, isB_tf, isB_ft, isB_ff, W_chk, W_ifT, W_ifF, W_pick, W_nil, Nat.reduceEqDiff, Nat.reduceEqDiff, reduceCtorEq, ↓reduceIte, W_add64, W_sub64, W_lss64, W_gtr64, W_leq64, W_geq64, W_eql64, W_neq64, h0]
    rw [decide_eq_false h1]
    simp -implicitDefEqProofs only [W_bind, W_oS, W_on, W_pure, W_mv, W_setF, W_setT, T.get_set, seqO_cons, seqO_nil, seqP_cons, seqP_nil, onO_some', W_callV, reduceIte, isK_bool, isB_tt, isB_tf, isB_ft, isB_ff, W_chk, W_ifT, W_ifF, W_pick, W_nil, Nat.reduceEqDiff, Nat.reduceEqDiff, reduceCtorEq, ↓reduceIte, W_add64, W_sub64, W_lss64, W_gtr64, W_leq64, W_geq64, W_eql64, W_neq64, h0]
    rw [decide_eq_true (show (999999 : Int) < i by omega)]
    exact fin _ _ _ (by omega) index_Name_S1_2 (by simp [T.get_set])
theorem index_Name_in {n m : Nat} {s : St} {Q : Value → St → Prop} (hbd : s.lim ≤ s.next) (hm1 : 1 ≤ m) (hm2 : m ≤ 999999) (hn : 120 ≤ n) (q : ∀ s1, Ext Non Non s s1 → Q (.string (preB ++ txt (dig6 m))) s1) : W (callW envS (runF envS n) 47 [.int .i64 (m : Nat)]) s Q := by
  refine index_Name_W fun tm h0 => ?_
  refine index_Name_q0.w rfl (by omega) ?_
  simp -implicitDefEqProofs only [index_Name_r0, W_bind, W_oS, W_on, W_pure, W_mv, W_setF, W_setT, T.get_set, seqO_cons, seqO_nil, seqP_cons, seqP_nil, onO_some', W_callV, reduceIte, isK_bool, isB_tt, isB_tf, isB_ft, isB_ff, W_chk, W_ifT, W_ifF, W_pick, W_nil, Nat.reduceEqDiff, Nat.reduceEqDiff, reduceCtorEq, ↓reduceIte]
  refine index_Name_q1.w index_Name_S0_1 (by omega) ?_
  simp -implicitDefEqProofs only [index_Name_r1, W_bind, W_oS, W_on, W_pure, W_mv, W_setF, W_setT, T.get_set, seqO_cons, seqO_nil, seqP_cons, seqP_nil, onO_some', W_callV, reduceIte, isK_bool, isB_tt, isB_tf, isB_ft, isB_ff, W_chk, W_ifT, W_ifF, W_pick, W_nil, Nat.reduceEqDiff, Nat.reduceEqDiff, reduceCtorEq, ↓reduceIte, W_add64, W_sub64, W_lss64, W_gtr64, W_leq64, W_geq64, W_eql64, W_neq64, h0]
  rw [decide_eq_false (show ¬ ((m : Nat) : Int) < 1 by omega)]
  simp -implicitDefEqProofs only [W_bind, W_oS, W_on, W_pure, W_mv, W_setF, W_setT, T.get_set, seqO_cons, seqO_nil, seqP_cons, seqP_nil, onO_some', W_callV, reduceIte, isK_bool, isB_tt, isB_tf, isB_ft, isB_ff, W_chk, W_ifT, W_ifF, W_pick, W_nil, Nat.reduceEqDiff, Nat.reduceEqDiff, reduceCtorEq, ↓reduceIte, W_add64, W_sub64, W_lss64, W_gtr64, W_leq64, W_geq64, W_eql64, W_neq64, h0]
  rw [decide_eq_false (show ¬ (999999 : Int) < ((m : Nat) : Int) by omega)]
  refine W.cond (v := false) index_Name_S1_2 index_Name_C2 (by simp [T.get_set]) (by omega) (fun h => by cases h) fun _ => ?_
  refine index_Name_q4.w index_Name_S2_4 (by omega) ?_
  simp -implicitDefEqProofs only [index_Name_r4, W_bind, W_oS, W_on, W_pure, W_mv, W_setF, W_setT, T.get_set, seqO_cons, seqO_nil, seqP_cons, seqP_nil, onO_some', W_callV, reduceIte, isK_bool, isB_tt, isB_tf, isB_ft, isB_ff, W_chk, W_ifT, W_ifF, W_pick, W_nil, Nat.reduceEqDiff, Nat.reduceEqDiff, reduceCtorEq, ↓reduceIte]
  refine W.alloc tx_a6_z fun sa na xa oa => ?_
  have na' : sa.next = s.next + 7 := na
  have hxa : Ext Non Non (s.cxN cxN) sa := xa
  refine index_Name_q6.w index_Name_S4_6 (by omega) ?_
  simp -implicitDefEqProofs only [index_Name_r6, W_bind, W_oS, W_on, W_pure, W_mv, W_setF, W_setT, T.get_set, seqO_cons, seqO_nil, seqP_cons, seqP_nil, onO_some', W_callV, reduceIte, isK_bool, isB_tt, isB_tf, isB_ft, isB_ff, W_chk, W_ifT, W_ifF, W_pick, W_nil, Nat.reduceEqDiff, Nat.reduceEqDiff, reduceCtorEq, ↓reduceIte]
  have hba : sa.lim ≤ sa.next := xa.bnd hbd
  refine name_loop (s0 := sa) (b := s.next) hba 6 0 m _ [0, 0, 0, 0, 0, 0] _ sa _ rfl hm2 rfl (by omega) index_Name_S6_7 (Ext.refl sa) oa (by simp [T.get_set, h0]) (by simp [T.get_set]; rfl) (by simp [T.get_set]) fun n' tm' s1 td' hn' hT' hx' ho' h3' => ?_
  rw [fillD_all] at ho'
  have up : ∀ x, In s.next 0 6 x → s.next ≤ x := fun x h => by have := h.1; omega
  have hx1 : Ext Non Non (s.cxN cxN) s1 := hxa.step hx' hbd (fun x hx h => by
    have h2 : x < s.lim := hx
    have := up x h
    omega) fun x h => up x h
  refine index_Name_q10.w hT' (by omega) ?_
  simp -implicitDefEqProofs only [index_Name_r10, W_bind, W_oS, W_on, W_pure, W_mv, W_setF, W_setT, T.get_set, seqO_cons, seqO_nil, seqP_cons, seqP_nil, onO_some', W_callV, reduceIte, isK_bool, isB_tt, isB_tf, isB_ft, isB_ff, W_chk, W_ifT, W_ifF, W_pick, W_nil, Nat.reduceEqDiff, Nat.reduceEqDiff, reduceCtorEq, ↓reduceIte, h3']
  rw [W_slArr (lo := none) (hi := none) (l := 0) (h := 6) tx_a6 (capU_gt (by decide)) rfl rfl (Nat.zero_le _) (Nat.le_refl _), if_neg (by decide)]
  have hB : Bs s1 (.slice (some ⟨s.next, 0 + 0 * 1, none⟩) (6 - 0) (6 - 0)) (dig6 m) := OwnRow.bn ho' (capU_gt (by simp [dig6]))
  refine W.str hB (.inl (by simp [dig6])) ty_bytes_b ty_str fun s2 m2 n2 x2 => ?_
  have hx2 : Ext Non Non (s.cxN cxN) s2 := hx1.step x2 hbd (fun x hx h => by
    have h2 : x < s.lim := hx
    have h3 : s.next + (0 + 0 * 1) ≤ x := h.1
    omega) fun _ h => h.elim
  rw [W_addS (by show 5 + _ ≤ _; simp [txt, ByteArray.size, dig6])]
  exact W.end' (rs := [2]) (vs := [.string (preB ++ txt (dig6 m))]) index_Name_S10_12 (.inl index_Name_E12) (by omega) index_Name_fn index_Name_res hx2.cx (by simp [T.get_set]; rfl) (q _ hx2.cxO)
theorem index_Name_spec {n : Nat} {i : Int} {s : St} {Q : Value → St → Prop} (hbd : s.lim ≤ s.next) (hi1 : -9223372036854775808 ≤ i) (hi2 : i ≤ 9223372036854775807) (hn : 120 ≤ n) (q : ∀ s1, Ext Non Non s s1 → Q (.string (nameB i)) s1) : W (callW envS (runF envS n) 47 [.int .i64 i]) s Q := by
  by_cases hi : 1 ≤ i ∧ i ≤ 999999
  · unfold nameB at q
    rw [if_pos hi] at q
    obtain ⟨m, rfl⟩ : ∃ m : Nat, i = (m : Int) := ⟨i.toNat, by omega⟩
    exact index_Name_in hbd (by omega) (by omega) hn q
  · unfold nameB at q
    rw [if_neg hi] at q
    exact index_Name_out hi1 hi2 hi (by omega) (q s (Ext.refl s))
end Go.Proofs.Ytofanlcjeohcjaa.Am
/- index.Parse, said of all states. -/
namespace Go.Proofs.Ytofanlcjeohcjaa.Am
open Go.RowKit

section
variable {E : Env} {s : St} {t : Nat}
theorem cmpU {c : Nat → Nat → Bool} (slow : Value → Value → M Value) (m n : Nat) : int3 (cmpK c) slow (.int .u8 (m : Nat)) (.int .u8 (n : Nat)) s = .some (.bool (c m n)) s := by
  show Option.rec (motive := fun _ => R Value) _ (fun v => .some v s) (cmpK c .u8 .u8 m n) = _
  have : cmpK c .u8 .u8 m n = some (.bool (c m n)) := by
    unfold cmpK sameK
    rw [Nat.beq_refl]
    show mkB (c m n) = _
    cases c m n <;> rfl
  rw [this]
theorem W_lssU {m n : Nat} {xo yo : Operand} (Q : Value → St → Prop) : W (Cl.get (aBin E .lss t xo yo) (.int .u8 (m : Nat)) (.int .u8 (n : Nat))) s Q = Q (.bool (Nat.blt m n)) s := W_run (cmpU _ m n)
theorem W_gtrU {m n : Nat} {xo yo : Operand} (Q : Value → St → Prop) : W (Cl.get (aBin E .gtr t xo yo) (.int .u8 (m : Nat)) (.int .u8 (n : Nat))) s Q = Q (.bool (Nat.blt n m)) s := W_run (cmpU _ m n)
theorem subU_run (m n : Nat) (hn : n ≤ m) (hm : m ≤ 255) (xo yo : Operand) : Cl.get (aBin E .sub t xo yo) (.int .u8 (m : Nat)) (.int .u8 (n : Nat)) s = .some (.int .u8 (m - n : Nat)) s := by
  show int3 subK (binSlow E .sub t xo yo) (.int .u8 (.ofNat m)) (.int .u8 (.ofNat n)) s = _
  show Option.rec (motive := fun _ => R Value) _ (fun v => .some v s) (subK .u8 .u8 m n) = _
  have : subK .u8 .u8 m n = some (.int .u8 (m - n : Nat)) := by
    unfold subK sameK
    rw [Nat.beq_refl, Nat.ble_eq_true_of_le hn]
    show fitI .u8 (m - n) = _
    unfold fitI
    rw [Nat.ble_eq_true_of_le (show m - n ≤ mxOf .u8 from Nat.le_trans (Nat.sub_le _ _) hm)]
    show mkI .u8 (m - n) = _
    unfold mkI
    rw [fN_eq]
    rfl
  rw [this]
theorem W_subU {m n : Nat} {xo yo : Operand} (hn : n ≤ m) (hm : m ≤ 255) (Q : Value → St → Prop) : W (Cl.get (aBin E .sub t xo yo) (.int .u8 (m : Nat)) (.int .u8 (n : Nat))) s Q = Q (.int .u8 (m - n : Nat)) s := W_run (subU_run m n hn hm xo yo)
end
theorem int_48 : (48 : Int) = ((48 : Nat) : Int) := rfl
theorem int_57 : (57 : Int) = ((57 : Nat) : Int) := rfl
theorem val6_snoc (a : Nat) (l : List UInt8) (c : UInt8) : val6 a (l ++ [c]) = 10 * val6 a l + (c.toNat - 48) := by
  unfold val6
  rw [List.foldl_append]
  rfl
theorem val6_lt (l : List UInt8) (h : l.all isDig = true) : val6 0 l < 10 ^ l.length := by
  have gen : ∀ (l : List UInt8) (a k : Nat), l.all isDig = true → a < 10 ^ k → val6 a l < 10 ^ (k + l.length) := by
    intro l
    induction l with
    | nil => intro a k _ h; exact h
    | cons c l ih =>
      intro a k h ha
      rw [List.all_cons, Bool.and_eq_true] at h
      have hc : c.toNat ≤ 57 := by
        have := h.1
        simp -implicitDefEqProofs only [isDig, Bool.and_eq_true, decide_eq_true_eq] at this
        exact this.2
      have := ih (10 * a + (c.toNat - 48)) (k + 1) h.2 (by rw [Nat.pow_succ]; omega)
      rw [List.length_cons, show k + (l.length + 1) = k + 1 + l.length by omega]
      exact this
  have := gen l 0 0 h (by decide)
  rwa [Nat.zero_add] at this
theorem parse_loop {a : ByteArray} {d : List UInt8} (hd : a.data.toList = d) (h6 : d.length = 6) {Q : Value × FrameMode → St → Prop} {s : St} (q1 : ∀ n' tm' td', 10 ≤ n' → skim 64 td' = index_Parse_P11 → d.all isDig = true → T.get tm' 6 = some (.int .i64 (val6 0 d : Nat)) → W (runF envS n' ⟨41, index_Parse_nt, index_Parse_g, tm', td', .run, .normal, none⟩) s Q)
    (q2 : ∀ n' tm' td', 10 ≤ n' → skim 64 td' = index_Parse_P15 → d.all isDig = false → W (runF envS n' ⟨41, index_Parse_nt, index_Parse_g, tm', td', .run, .normal, none⟩) s Q) : ∀ (k i n : Nat) (tm : T Value) (td : List Item), i + k = 6 → (d.take i).all isDig = true → 10 * k + 30 ≤ n → skim 64 td = index_Parse_P8 →
    T.get tm 4 = some (.string a) → T.get tm 6 = some (.int .i64 (val6 0 (d.take i) : Nat)) → T.get tm 21 = some (.int .i64 6) → T.get tm 22 = some (.int .i64 (i : Nat)) →
    W (runF envS n ⟨41, index_Parse_nt, index_Parse_g, tm, td, .run, .normal, none⟩) s Q := by
  intro k
  induction k with
  | zero =>
    intro i n tm td hi hall hn hT h4 h6' h21 h22
    refine index_Parse_q8.w hT (by omega) ?_
    simp -implicitDefEqProofs only [index_Parse_r8, W_bind, W_oS, W_on, W_pure, W_mv, W_setF, W_setT, T.get_set, seqO_cons, seqO_nil, seqP_cons, seqP_nil, onO_some', W_callV, reduceIte, isK_bool, isB_tt, isB_tf, isB_ft, isB_ff, W_chk, W_ifT, W_ifF, W_pick, W_nil, Nat.reduceEqDiff, Nat.reduceEqDiff, reduceCtorEq, ↓reduceIte, h21, h22]
    simp -implicitDefEqProofs only [W_bind, W_oS, W_on, W_pure, W_mv, W_setF, W_setT, T.get_set, seqO_cons, seqO_nil, seqP_cons, seqP_nil, onO_some', W_callV, reduceIte, isK_bool, isB_tt, isB_tf, isB_ft, isB_ff, W_chk, W_ifT, W_ifF, W_pick, W_nil, Nat.reduceEqDiff, Nat.reduceEqDiff, reduceCtorEq, ↓reduceIte, W_add64, W_sub64, W_lss64, W_gtr64, W_leq64, W_geq64, W_eql64, W_neq64]
    refine W.cond (v := false) index_Parse_S8_9 index_Parse_C9 (by simp [T.get_set]; omega) (by omega) (fun h => by cases h) fun _ => ?_
    have ht : d.take i = d := List.take_of_length_le (by omega)
    rw [ht] at hall h6'
    exact q1 _ _ _ (by omega) index_Parse_S9_11 hall (by simp [T.get_set, h6'])
  | succ k ih =>
    intro i n tm td hi hall hn hT h4 h6' h21 h22
    have hid : i < d.length := by omega
    refine index_Parse_q8.w hT (by omega) ?_
    simp -implicitDefEqProofs only [index_Parse_r8, W_bind, W_oS, W_on, W_pure, W_mv, W_setF, W_setT, T.get_set, seqO_cons, seqO_nil, seqP_cons, seqP_nil, onO_some', W_callV, reduceIte, isK_bool, isB_tt, isB_tf, isB_ft, isB_ff, W_chk, W_ifT, W_ifF, W_pick, W_nil, Nat.reduceEqDiff, Nat.reduceEqDiff, reduceCtorEq, ↓reduceIte, h21, h22]
    simp -implicitDefEqProofs only [W_bind, W_oS, W_on, W_pure, W_mv, W_setF, W_setT, T.get_set, seqO_cons, seqO_nil, seqP_cons, seqP_nil, onO_some', W_callV, reduceIte, isK_bool, isB_tt, isB_tf, isB_ft, isB_ff, W_chk, W_ifT, W_ifF, W_pick, W_nil, Nat.reduceEqDiff, Nat.reduceEqDiff, reduceCtorEq, ↓reduceIte, W_add64, W_sub64, W_lss64, W_gtr64, W_leq64, W_geq64, W_eql64, W_neq64]
    refine W.cond (v := true) index_Parse_S8_9 index_Parse_C9 (by simp [T.get_set]; omega) (by omega) (fun _ => ?_) fun h => by cases h
    refine index_Parse_q10.w index_Parse_S9_10 (by omega) ?_
    simp -implicitDefEqProofs only [index_Parse_r10, W_bind, W_oS, W_on, W_pure, W_mv, W_setF, W_setT, T.get_set, seqO_cons, seqO_nil, seqP_cons, seqP_nil, onO_some', W_callV, reduceIte, isK_bool, isB_tt, isB_tf, isB_ft, isB_ff, W_chk, W_ifT, W_ifF, W_pick, W_nil, Nat.reduceEqDiff, Nat.reduceEqDiff, reduceCtorEq, ↓reduceIte, h22]
    refine index_Parse_q12.w index_Parse_S10_12 (by omega) ?_
    obtain ⟨c, hc⟩ : ∃ c, d[i] = c := ⟨_, rfl⟩
    have hb : a.data.toList[i]? = some c := by rw [hd, List.getElem?_eq_getElem hid, hc]
    have hsnoc : d.take (i + 1) = d.take i ++ [c] := by rw [List.take_add_one, List.getElem?_eq_getElem hid, hc]; rfl
    have hvlt : val6 0 (d.take i) < 1000000 := by
      have h1 := val6_lt (d.take i) hall
      have h2 : 10 ^ (d.take i).length ≤ 10 ^ 6 := Nat.pow_le_pow_right (by decide) (by rw [List.length_take]; omega)
      omega
    have bad : ∀ n' tm' td', 20 ≤ n' → skim 64 td' = index_Parse_P14 → T.get tm' 34 = some (.bool true) → isDig c = false → W (runF envS n' ⟨41, index_Parse_nt, index_Parse_g, tm', td', .run, .normal, none⟩) s Q := fun n' tm' td' hn' hT' h34 hbad => by
      refine W.cond (v := true) hT' index_Parse_C14 h34 (by omega) (fun _ => ?_) fun h => by cases h
      refine q2 _ _ _ (by omega) index_Parse_S14_15 ?_
      rw [Bool.eq_false_iff]
      intro hq
      have := List.all_eq_true.1 hq c (by rw [← hc]; exact List.getElem_mem hid)
      rw [hbad] at this
      cases this
    by_cases g1 : c.toNat < 48
    · simp -implicitDefEqProofs only [index_Parse_r12, W_bind, W_oS, W_on, W_pure, W_mv, W_setF, W_setT, T.get_set, seqO_cons, seqO_nil, seqP_cons, seqP_nil, onO_some', W_callV, reduceIte, isK_bool, isB_tt, isB_tf, isB_ft, isB_ff, W_chk, W_ifT, W_ifF, W_pick, W_nil, Nat.reduceEqDiff, Nat.reduceEqDiff, reduceCtorEq, ↓reduceIte, h4, h22, W_idxS ty_str hb]
      rw [int_48, W_lssU, blt_t g1]
      simp -implicitDefEqProofs only [W_bind, W_oS, W_on, W_pure, W_mv, W_setF, W_setT, T.get_set, seqO_cons, seqO_nil, seqP_cons, seqP_nil, onO_some', W_callV, reduceIte, isK_bool, isB_tt, isB_tf, isB_ft, isB_ff, W_chk, W_ifT, W_ifF, W_pick, W_nil, Nat.reduceEqDiff, Nat.reduceEqDiff, reduceCtorEq, ↓reduceIte]
      exact bad _ _ _ (by omega) index_Parse_S12_14 (by simp [T.get_set]) (by simp [isDig]; omega)
    · simp -implicitDefEqProofs only [index_Parse_r12, W_bind, W_oS, W_on, W_pure, W_mv, W_setF, W_setT, T.get_set, seqO_cons, seqO_nil, seqP_cons, seqP_nil, onO_some', W_callV, reduceIte, isK_bool, isB_tt, isB_tf, isB_ft, isB_ff, W_chk, W_ifT, W_ifF, W_pick, W_nil, Nat.reduceEqDiff, Nat.reduceEqDiff, reduceCtorEq, ↓reduceIte, h4, h22, W_idxS ty_str hb]
      rw [int_48, W_lssU, blt_f (Nat.le_of_not_lt g1)]
      simp -implicitDefEqProofs only [W_bind, W_oS, W_on, W_pure, W_mv, W_setF, W_setT, T.get_set, seqO_cons, seqO_nil, seqP_cons, seqP_nil, onO_some', W_callV, reduceIte, isK_bool, isB_tt, isB_tf, isB_ft, isB_ff, W_chk, W_ifT, W_ifF, W_pick, W_nil, Nat.reduceEqDiff, Nat.reduceEqDiff, reduceCtorEq, ↓reduceIte, h4, h22, W_idxS ty_str hb]
      rw [int_57, W_gtrU]
      by_cases g2 : 57 < c.toNat
      · rw [blt_t g2]
        exact bad _ _ _ (by omega) index_Parse_S12_14 (by simp [T.get_set]) (by simp [isDig]; omega)
      · rw [blt_f (Nat.le_of_not_lt g2)]
        refine W.cond (v := false) index_Parse_S12_14 index_Parse_C14 (by simp [T.get_set]) (by omega) (fun h => by cases h) fun _ => ?_
        refine index_Parse_q16.w index_Parse_S14_16 (by omega) ?_
        simp -implicitDefEqProofs only [index_Parse_r16, W_bind, W_oS, W_on, W_pure, W_mv, W_setF, W_setT, T.get_set, seqO_cons, seqO_nil, seqP_cons, seqP_nil, onO_some', W_callV, reduceIte, isK_bool, isB_tt, isB_tf, isB_ft, isB_ff, W_chk, W_ifT, W_ifF, W_pick, W_nil, Nat.reduceEqDiff, Nat.reduceEqDiff, reduceCtorEq, ↓reduceIte, h4, h6', h22, W_idxS ty_str hb]
        have e1 : wrap64 (((10 * val6 0 (d.take i) : Nat) : Int) + ((c.toNat - 48 : Nat) : Int)) = ((val6 0 (d.take (i + 1)) : Nat) : Int) := by
          rw [wrap64_id (by omega) (by omega), hsnoc, val6_snoc]; omega
        have hc255 : c.toNat ≤ 255 := by omega
        have e2 : IntKind.i64.wrap ((c.toNat - 48 : Nat) : Int) = ((c.toNat - 48 : Nat) : Int) := tx_wrap _ (by omega)
        rw [int_10, W_mul (by omega)]
        rw [int_48, W_subU (by omega) hc255, W_conv tx_u8_h tx_i64_k, e2]
        simp -implicitDefEqProofs only [W_bind, W_oS, W_on, W_pure, W_mv, W_setF, W_setT, T.get_set, seqO_cons, seqO_nil, seqP_cons, seqP_nil, onO_some', W_callV, reduceIte, isK_bool, isB_tt, isB_tf, isB_ft, isB_ff, W_chk, W_ifT, W_ifF, W_pick, W_nil, Nat.reduceEqDiff, Nat.reduceEqDiff, reduceCtorEq, ↓reduceIte, W_add64, W_sub64, W_lss64, W_gtr64, W_leq64, W_geq64, W_eql64, W_neq64, e1]
        refine index_Parse_q18.w index_Parse_S16_18 (by omega) ?_
        have e3 : wrap64 (((i : Nat) : Int) + 1) = ((i + 1 : Nat) : Int) := by
          rw [wrap64_id (by omega) (by omega)]; omega
        simp -implicitDefEqProofs only [index_Parse_r18, W_bind, W_oS, W_on, W_pure, W_mv, W_setF, W_setT, T.get_set, seqO_cons, seqO_nil, seqP_cons, seqP_nil, onO_some', W_callV, reduceIte, isK_bool, isB_tt, isB_tf, isB_ft, isB_ff, W_chk, W_ifT, W_ifF, W_pick, W_nil, Nat.reduceEqDiff, Nat.reduceEqDiff, reduceCtorEq, ↓reduceIte, W_add64, W_sub64, W_lss64, W_gtr64, W_leq64, W_geq64, W_eql64, W_neq64, h22, e3]
        refine ih (i + 1) _ _ _ (by omega) ?_ (by omega) index_Parse_S18_8 (by simp [T.get_set, h4]) (by simp [T.get_set]) (by simp [T.get_set, h21]) (by simp [T.get_set])
        rw [hsnoc, List.all_append, hall]
        simp [isDig]
        omega
end Go.Proofs.Ytofanlcjeohcjaa.Am
/- index.Parse, said of all states: the whole. -/
namespace Go.Proofs.Ytofanlcjeohcjaa.Am
open Go.RowKit

theorem extract_list (a : ByteArray) (i j : Nat) : (a.extract i j).data.toList = (a.data.toList.take j).drop i := by
  rw [ByteArray.data_extract, Array.toList_extract]
  simp -implicitDefEqProofs only [List.extract, List.drop_take]
theorem size_list (a : ByteArray) : a.size = a.data.toList.length := rfl
/-- What is parsed of a text, as the program has it. -/
theorem parse_hasP (a : ByteArray) : parseL a.data.toList = if hasP a preB = true ∧ (a.extract preB.size a.size).size = 6 ∧ (a.extract preB.size a.size).data.toList.all isDig = true then (val6 0 (a.extract preB.size a.size).data.toList, decide (0 < val6 0 (a.extract preB.size a.size).data.toList)) else (0, false) := by
  have e1 : (a.extract preB.size a.size).data.toList = a.data.toList.drop 5 := by
    rw [extract_list, size_list a, List.take_length]; rfl
  have e2 : (a.extract preB.size a.size).size = a.data.toList.length - 5 := by
    rw [size_list, e1, List.length_drop]
  have e3 : hasP a preB = true ↔ a.data.toList.take 5 = preL := by
    unfold hasP
    rw [Bool.and_eq_true, decide_eq_true_eq, beq_iff_eq, extract_list, List.drop_zero, size_list a]
    constructor
    · exact fun h => h.2
    · intro h
      refine ⟨?_, h⟩
      have h2 := congrArg List.length h
      rw [List.length_take] at h2
      have h3 : preL.length = 5 := rfl
      show 5 ≤ _
      omega
  unfold parseL
  rw [e1, e2]
  by_cases h : a.data.toList.take 5 = preL ∧ a.data.toList.length = 11 ∧ (a.data.toList.drop 5).all isDig = true
  · rw [if_pos h, if_pos ⟨e3.2 h.1, by omega, h.2.2⟩]
  · rw [if_neg h, if_neg (fun q => h ⟨e3.1 q.1, by have := q.2.1; omega, q.2.2⟩)]
theorem index_Parse_spec {n : Nat} {a : ByteArray} {s : St} {Q : Value → St → Prop} (hn : 200 ≤ n) (q : Q (.tuple #[.int .i64 ((parseL a.data.toList).1 : Nat), .bool (parseL a.data.toList).2]) s) : W (callW envS (runF envS n) 41 [.string a]) s Q := by
  rw [parse_hasP] at q
  refine index_Parse_W fun tm h0 => ?_
  refine index_Parse_q0.w rfl (by omega) ?_
  simp -implicitDefEqProofs only [index_Parse_r0, W_bind, W_oS, W_on, W_pure, W_mv, W_setF, W_setT, T.get_set, seqO_cons, seqO_nil, seqP_cons, seqP_nil, onO_some', W_callV, reduceIte, isK_bool, isB_tt, isB_tf, isB_ft, isB_ff, W_chk, W_ifT, W_ifF, W_pick, W_nil, Nat.reduceEqDiff, Nat.reduceEqDiff, reduceCtorEq, ↓reduceIte]
  refine index_Parse_q1.w index_Parse_S0_1 (by omega) ?_
  simp -implicitDefEqProofs only [index_Parse_r1, W_bind, W_oS, W_on, W_pure, W_mv, W_setF, W_setT, T.get_set, seqO_cons, seqO_nil, seqP_cons, seqP_nil, onO_some', W_callV, reduceIte, isK_bool, isB_tt, isB_tf, isB_ft, isB_ff, W_chk, W_ifT, W_ifF, W_pick, W_nil, Nat.reduceEqDiff, Nat.reduceEqDiff, reduceCtorEq, ↓reduceIte, h0]
  have no : (¬ (hasP a preB = true ∧ (a.extract preB.size a.size).size = 6 ∧ (a.extract preB.size a.size).data.toList.all isDig = true)) → Q (.tuple #[.int .i64 0, .bool false]) s := fun h => by
    rw [if_neg h] at q
    exact q
  have fin4 : ∀ (n' : Nat) (tm' : T Value) (td' : List Item), 10 ≤ n' → skim 64 td' = index_Parse_P3 → T.get tm' 19 = some (.bool true) → Q (.tuple #[.int .i64 0, .bool false]) s → W (runF envS n' ⟨41, index_Parse_nt, index_Parse_g, tm', td', .run, .normal, none⟩) (s.cxN cxN) fun p s1 => Q p.1 (s1.cxN s.cx) := fun n' tm' td' hn' hT h19 q => by
    refine W.cond (v := true) hT index_Parse_C3 h19 (by omega) (fun _ => ?_) fun h => by cases h
    refine index_Parse_q4.w index_Parse_S3_4 (by omega) ?_
    simp -implicitDefEqProofs only [index_Parse_r4, W_bind, W_oS, W_on, W_pure, W_mv, W_setF, W_setT, T.get_set, seqO_cons, seqO_nil, seqP_cons, seqP_nil, onO_some', W_callV, reduceIte, isK_bool, isB_tt, isB_tf, isB_ft, isB_ff, W_chk, W_ifT, W_ifF, W_pick, W_nil, Nat.reduceEqDiff, Nat.reduceEqDiff, reduceCtorEq, ↓reduceIte]
    exact W.end' (rs := [2, 3]) (vs := [.int .i64 0, .bool false]) index_Parse_S4_6 (.inl index_Parse_E6) (by omega) index_Parse_fn index_Parse_res rfl (by simp [T.get_set]) q
  refine CutPrefix_spec (b := preB) (by omega) (fun hp => ?_) fun hp => ?_
  · rw [W_ext (k := 0) rfl, W_ext (k := 1) rfl]
    refine index_Parse_q2.w index_Parse_S1_2 (by omega) ?_
    generalize hx : a.extract preB.size a.size = x at *
    simp -implicitDefEqProofs only [index_Parse_r2, W_bind, W_oS, W_on, W_pure, W_mv, W_setF, W_setT, T.get_set, seqO_cons, seqO_nil, seqP_cons, seqP_nil, onO_some', W_callV, reduceIte, isK_bool, isB_tt, isB_tf, isB_ft, isB_ff, W_chk, W_ifT, W_ifF, W_pick, W_nil, Nat.reduceEqDiff, Nat.reduceEqDiff, reduceCtorEq, ↓reduceIte, W_not, Bool.not_true, W_lenS ty_str]
    rw [show (6 : Int) = ((6 : Nat) : Int) from rfl]
    simp -implicitDefEqProofs only [W_add64, W_sub64, W_lss64, W_gtr64, W_leq64, W_geq64, W_eql64, W_neq64]
    by_cases h6 : x.size = 6
    · rw [h6]
      simp -implicitDefEqProofs only [W_bind, W_oS, W_on, W_pure, W_mv, W_setF, W_setT, T.get_set, seqO_cons, seqO_nil, seqP_cons, seqP_nil, onO_some', W_callV, reduceIte, isK_bool, isB_tt, isB_tf, isB_ft, isB_ff, W_chk, W_ifT, W_ifF, W_pick, W_nil, Nat.reduceEqDiff, Nat.reduceEqDiff, reduceCtorEq, ↓reduceIte, decide_true, Bool.not_true]
      refine W.cond (v := false) index_Parse_S2_3 index_Parse_C3 (by simp [T.get_set]) (by omega) (fun h => by cases h) fun _ => ?_
      refine index_Parse_q5.w index_Parse_S3_5 (by omega) ?_
      simp -implicitDefEqProofs only [index_Parse_r5, W_bind, W_oS, W_on, W_pure, W_mv, W_setF, W_setT, T.get_set, seqO_cons, seqO_nil, seqP_cons, seqP_nil, onO_some', W_callV, reduceIte, isK_bool, isB_tt, isB_tf, isB_ft, isB_ff, W_chk, W_ifT, W_ifF, W_pick, W_nil, Nat.reduceEqDiff, Nat.reduceEqDiff, reduceCtorEq, ↓reduceIte]
      refine index_Parse_q7.w index_Parse_S5_7 (by omega) ?_
      simp -implicitDefEqProofs only [index_Parse_r7, W_bind, W_oS, W_on, W_pure, W_mv, W_setF, W_setT, T.get_set, seqO_cons, seqO_nil, seqP_cons, seqP_nil, onO_some', W_callV, reduceIte, isK_bool, isB_tt, isB_tf, isB_ft, isB_ff, W_chk, W_ifT, W_ifF, W_pick, W_nil, Nat.reduceEqDiff, Nat.reduceEqDiff, reduceCtorEq, ↓reduceIte, W_lenS ty_str, h6]
      refine parse_loop (a := x) rfl h6 (fun n' tm' td' hn' hT' hall h6' => ?_) (fun n' tm' td' hn' hT' hall => ?_) 6 0 _ _ _ rfl rfl (by omega) index_Parse_S7_8 (by simp [T.get_set]) (by simp [T.get_set]; rfl) (by simp [T.get_set]) (by simp [T.get_set])
      · refine index_Parse_q11.w hT' (by omega) ?_
        simp -implicitDefEqProofs only [index_Parse_r11, W_bind, W_oS, W_on, W_pure, W_mv, W_setF, W_setT, T.get_set, seqO_cons, seqO_nil, seqP_cons, seqP_nil, onO_some', W_callV, reduceIte, isK_bool, isB_tt, isB_tf, isB_ft, isB_ff, W_chk, W_ifT, W_ifF, W_pick, W_nil, Nat.reduceEqDiff, Nat.reduceEqDiff, reduceCtorEq, ↓reduceIte, W_add64, W_sub64, W_lss64, W_gtr64, W_leq64, W_geq64, W_eql64, W_neq64, h6']
        rw [if_pos ⟨hp, h6, hall⟩] at q
        refine W.end' (rs := [2, 3]) (vs := [.int .i64 (val6 0 x.data.toList : Nat), .bool (decide (0 < val6 0 x.data.toList))]) index_Parse_S11_13 (.inl index_Parse_E13) (by omega) index_Parse_fn index_Parse_res rfl ?_ q
        simp [T.get_set]
      · refine index_Parse_q15.w hT' (by omega) ?_
        simp -implicitDefEqProofs only [index_Parse_r15, W_bind, W_oS, W_on, W_pure, W_mv, W_setF, W_setT, T.get_set, seqO_cons, seqO_nil, seqP_cons, seqP_nil, onO_some', W_callV, reduceIte, isK_bool, isB_tt, isB_tf, isB_ft, isB_ff, W_chk, W_ifT, W_ifF, W_pick, W_nil, Nat.reduceEqDiff, Nat.reduceEqDiff, reduceCtorEq, ↓reduceIte]
        refine W.end' (rs := [2, 3]) (vs := [.int .i64 0, .bool false]) index_Parse_S15_17 (.inl index_Parse_E17) (by omega) index_Parse_fn index_Parse_res rfl (by simp [T.get_set]) (no fun h => ?_)
        rw [hall] at h
        cases h.2.2
    · rw [decide_eq_false (show ¬ ((x.size : Nat) : Int) = ((6 : Nat) : Int) by omega)]
      simp -implicitDefEqProofs only [W_bind, W_oS, W_on, W_pure, W_mv, W_setF, W_setT, T.get_set, seqO_cons, seqO_nil, seqP_cons, seqP_nil, onO_some', W_callV, reduceIte, isK_bool, isB_tt, isB_tf, isB_ft, isB_ff, W_chk, W_ifT, W_ifF, W_pick, W_nil, Nat.reduceEqDiff, Nat.reduceEqDiff, reduceCtorEq, ↓reduceIte, Bool.not_false]
      exact fin4 _ _ _ (by omega) index_Parse_S2_3 (by simp [T.get_set]) (no fun h => h6 h.2.1)
  · rw [W_ext (k := 0) rfl, W_ext (k := 1) rfl]
    refine index_Parse_q2.w index_Parse_S1_2 (by omega) ?_
    simp -implicitDefEqProofs only [index_Parse_r2, W_bind, W_oS, W_on, W_pure, W_mv, W_setF, W_setT, T.get_set, seqO_cons, seqO_nil, seqP_cons, seqP_nil, onO_some', W_callV, reduceIte, isK_bool, isB_tt, isB_tf, isB_ft, isB_ff, W_chk, W_ifT, W_ifF, W_pick, W_nil, Nat.reduceEqDiff, Nat.reduceEqDiff, reduceCtorEq, ↓reduceIte, W_not, Bool.not_false]
    exact fin4 _ _ _ (by omega) index_Parse_S2_3 (by simp [T.get_set]) (no fun h => by rw [hp] at h; cases h.1)
end Go.Proofs.Ytofanlcjeohcjaa.Am
/- satchellaw18.IndexNames, said of all states: it answers true. -/
namespace Go.Proofs.Ytofanlcjeohcjaa.Am
open Go.RowKit

section
variable {E : Env} {s : St} {t : Nat}
theorem neB_run {a b : Bool} {xo yo : Operand} (h : E.P.underlying t = some .bool) : Cl.get (aBin E .neq t xo yo) (.bool a) (.bool b) s = .some (.bool (!(a == b))) s := by
  show binSlow E .neq t xo yo (.bool a) (.bool b) s = _
  unfold binSlow
  show M.on (semP E.P (do pure (.bool (!(← Op.equalIn (9999 + 1) t (.bool a) (.bool b)))))) pV s = _
  have e : semP E.P (Op.equalIn (9999 + 1) t (.bool a) (.bool b)) = some (a == b) := by
    unfold Op.equalIn
    rw [semP_bind, semP_underlying h]
    rfl
  rw [semP_bind, e]
  rfl
theorem W_neB {a b : Bool} {xo yo : Operand} (h : E.P.underlying t = some .bool) (Q : Value → St → Prop) : W (Cl.get (aBin E .neq t xo yo) (.bool a) (.bool b)) s Q = Q (.bool (!(a == b))) s := W_run (neB_run h)
end
theorem ty_bool : envS.P.underlying 4 = some .bool := by kernel_rfl
theorem orc_awake18 : envS.orc.get 35 = some (closedM (.bool true)) := by kernel_rfl
theorem isK_undef : isK undef = true := rfl
theorem isB_ut : isB undef true = false := rfl
theorem isB_uf : isB undef false = false := rfl
abbrev emptyB : ByteArray := { data := #[] }
theorem ne_ff : (!(false == false)) = false := rfl
theorem ne_tt : (!(true == true)) = false := rfl
/-- The last step: what is parsed of any text. -/
theorem law18_Names_end {n : Nat} {a : ByteArray} {tm : T Value} {td : List Item} {s s0 : St} (hbd : s.lim ≤ s.next) (hn : 400 ≤ n) (hT : skim 64 td = law18_Names_P11) (hcx : s.cx = cxN) (h2 : T.get tm 2 = some (.string a)) (h7 : T.get tm 7 = some (.bool true)) :
    W (runF envS n ⟨10, law18_Names_nt, law18_Names_g, tm, td, .run, .normal, none⟩) s fun p s1 => (fun (u : Value) (_ : St) => u = .bool true) p.1 (s1.cxN s0.cx) := by
  refine law18_Names_q11.w hT (by omega) ?_
  simp -implicitDefEqProofs only [law18_Names_r11, W_bind, W_oS, W_on, W_pure, W_mv, W_setF, W_setT, T.get_set, seqO_cons, seqO_nil, seqP_cons, seqP_nil, onO_some', W_callV, reduceIte, isK_bool, isB_tt, isB_tf, isB_ft, isB_ff, W_chk, W_ifT, W_ifF, W_pick, W_nil, Nat.reduceEqDiff, Nat.reduceEqDiff, reduceCtorEq, ↓reduceIte, h2]
  refine index_Parse_spec (by omega) ?_
  rw [W_ext (k := 0) rfl, W_ext (k := 1) rfl]
  obtain ⟨p1, p2⟩ := name_parse a.data.toList
  refine law18_Names_q13.w law18_Names_S11_13 (by omega) ?_
  generalize hx : (parseL a.data.toList).1 = x at *
  cases hw : (parseL a.data.toList).2 with
  | false =>
    have h0 := p2 hw
    subst h0
    have e0 : decide (((0 : Nat) : Int) = 0) = true := rfl
    simp -implicitDefEqProofs only [law18_Names_r13, W_bind, W_oS, W_on, W_pure, W_mv, W_setF, W_setT, T.get_set, seqO_cons, seqO_nil, seqP_cons, seqP_nil, onO_some', W_callV, reduceIte, isK_bool, isB_tt, isB_tf, isB_ft, isB_ff, W_chk, W_ifT, W_ifF, W_pick, W_nil, Nat.reduceEqDiff, Nat.reduceEqDiff, reduceCtorEq, ↓reduceIte, W_add64, W_sub64, W_lss64, W_gtr64, W_leq64, W_geq64, W_eql64, W_neq64, isK_undef, isB_ut, isB_uf, h7, W_not, Bool.not_false, e0]
    exact W.end' (rs := [6]) (vs := [.bool true]) law18_Names_S13_14 (.inl law18_Names_E14) (by omega) law18_Names_fn law18_Names_res hcx (by simp [T.get_set]) rfl
  | true =>
    obtain ⟨g1, g2, g3⟩ := p1 hw
    simp -implicitDefEqProofs only [law18_Names_r13, W_bind, W_oS, W_on, W_pure, W_mv, W_setF, W_setT, T.get_set, seqO_cons, seqO_nil, seqP_cons, seqP_nil, onO_some', W_callV, reduceIte, isK_bool, isB_tt, isB_tf, isB_ft, isB_ff, W_chk, W_ifT, W_ifF, W_pick, W_nil, Nat.reduceEqDiff, Nat.reduceEqDiff, reduceCtorEq, ↓reduceIte, W_add64, W_sub64, W_lss64, W_gtr64, W_leq64, W_geq64, W_eql64, W_neq64, isK_undef, isB_ut, isB_uf, h7, W_not, Bool.not_true, h2]
    refine index_Name_spec hbd (by omega) (by omega) (by omega) fun s1 x1 => ?_
    have e1 : ((nameB (x : Nat)).data.toList == a.data.toList) = true := by rw [nameB_list, g1]; exact beq_self_eq_true _
    simp -implicitDefEqProofs only [W_bind, W_oS, W_on, W_pure, W_mv, W_setF, W_setT, T.get_set, seqO_cons, seqO_nil, seqP_cons, seqP_nil, onO_some', W_callV, reduceIte, isK_bool, isB_tt, isB_tf, isB_ft, isB_ff, W_chk, W_ifT, W_ifF, W_pick, W_nil, Nat.reduceEqDiff, Nat.reduceEqDiff, reduceCtorEq, ↓reduceIte, W_eqS, e1]
    exact W.end' (rs := [6]) (vs := [.bool true]) law18_Names_S13_14 (.inl law18_Names_E14) (by omega) law18_Names_fn law18_Names_res (x1.cx.trans hcx) (by simp [T.get_set]) rfl
theorem law18_Names_W' {n : Nat} {i j : Int} {a : ByteArray} {s : St} (hbd : s.lim ≤ s.next) (hi1 : -9223372036854775808 ≤ i) (hi2 : i ≤ 9223372036854775807) (hj1 : -9223372036854775808 ≤ j) (hj2 : j ≤ 9223372036854775807) (hn : 600 ≤ n) :
    W (callW envS (runF envS n) 10 [.int .i64 i, .int .i64 j, .string a]) s fun u _ => u = .bool true := by
  refine law18_Names_W fun tm h0 h1 h2 => ?_
  refine law18_Names_q0.w rfl (by omega) ?_
  simp -implicitDefEqProofs only [law18_Names_r0, W_bind, W_oS, W_on, W_pure, W_mv, W_setF, W_setT, T.get_set, seqO_cons, seqO_nil, seqP_cons, seqP_nil, onO_some', W_callV, reduceIte, isK_bool, isB_tt, isB_tf, isB_ft, isB_ff, W_chk, W_ifT, W_ifF, W_pick, W_nil, Nat.reduceEqDiff, Nat.reduceEqDiff, reduceCtorEq, ↓reduceIte]
  refine law18_Names_q1.w law18_Names_S0_1 (by omega) ?_
  simp -implicitDefEqProofs only [law18_Names_r1, W_bind, W_oS, W_on, W_pure, W_mv, W_setF, W_setT, T.get_set, seqO_cons, seqO_nil, seqP_cons, seqP_nil, onO_some', W_callV, reduceIte, isK_bool, isB_tt, isB_tf, isB_ft, isB_ff, W_chk, W_ifT, W_ifF, W_pick, W_nil, Nat.reduceEqDiff, Nat.reduceEqDiff, reduceCtorEq, ↓reduceIte]
  refine W.orc orc_awake18 (W.pure ?_)
  refine law18_Names_q2.w law18_Names_S1_2 (by omega) ?_
  simp -implicitDefEqProofs only [law18_Names_r2, W_bind, W_oS, W_on, W_pure, W_mv, W_setF, W_setT, T.get_set, seqO_cons, seqO_nil, seqP_cons, seqP_nil, onO_some', W_callV, reduceIte, isK_bool, isB_tt, isB_tf, isB_ft, isB_ff, W_chk, W_ifT, W_ifF, W_pick, W_nil, Nat.reduceEqDiff, Nat.reduceEqDiff, reduceCtorEq, ↓reduceIte, W_add64, W_sub64, W_lss64, W_gtr64, W_leq64, W_geq64, W_eql64, W_neq64, isK_undef, isB_ut, isB_uf, h2, W_lenS ty_str]
  by_cases hl : (100 : Int) < ((a.size : Nat) : Int)
  · refine W.cond (v := true) law18_Names_S2_3 law18_Names_C3 (by simp [T.get_set]; omega) (by omega) (fun _ => ?_) fun h => by cases h
    refine law18_Names_q4.w law18_Names_S3_4 (by omega) ?_
    simp -implicitDefEqProofs only [law18_Names_r4, W_bind, W_oS, W_on, W_pure, W_mv, W_setF, W_setT, T.get_set, seqO_cons, seqO_nil, seqP_cons, seqP_nil, onO_some', W_callV, reduceIte, isK_bool, isB_tt, isB_tf, isB_ft, isB_ff, W_chk, W_ifT, W_ifF, W_pick, W_nil, Nat.reduceEqDiff, Nat.reduceEqDiff, reduceCtorEq, ↓reduceIte]
    exact W.end' (rs := [6]) (vs := [.bool true]) law18_Names_S4_6 (.inl law18_Names_E6) (by omega) law18_Names_fn law18_Names_res rfl (by simp [T.get_set]) rfl
  · refine W.cond (v := false) law18_Names_S2_3 law18_Names_C3 (by simp [T.get_set]; omega) (by omega) (fun h => by cases h) fun _ => ?_
    refine law18_Names_q5.w law18_Names_S3_5 (by omega) ?_
    simp -implicitDefEqProofs only [law18_Names_r5, W_bind, W_oS, W_on, W_pure, W_mv, W_setF, W_setT, T.get_set, seqO_cons, seqO_nil, seqP_cons, seqP_nil, onO_some', W_callV, reduceIte, isK_bool, isB_tt, isB_tf, isB_ft, isB_ff, W_chk, W_ifT, W_ifF, W_pick, W_nil, Nat.reduceEqDiff, Nat.reduceEqDiff, reduceCtorEq, ↓reduceIte, h0, h1]
    refine index_Name_spec (s := s.cxN cxN) hbd hi1 hi2 (by omega) fun sa xa => ?_
    refine index_Name_spec (xa.bnd hbd) hj1 hj2 (by omega) fun sb xb => ?_
    have hxb : Ext Non Non (s.cxN cxN) sb := xa.step xb hbd (fun _ _ h => h.elim) fun _ h => h.elim
    have hbb : sb.lim ≤ sb.next := hxb.bnd hbd
    refine law18_Names_q7.w law18_Names_S5_7 (by omega) ?_
    simp -implicitDefEqProofs only [law18_Names_r7, W_bind, W_oS, W_on, W_pure, W_mv, W_setF, W_setT, T.get_set, seqO_cons, seqO_nil, seqP_cons, seqP_nil, onO_some', W_callV, reduceIte, isK_bool, isB_tt, isB_tf, isB_ft, isB_ff, W_chk, W_ifT, W_ifF, W_pick, W_nil, Nat.reduceEqDiff, Nat.reduceEqDiff, reduceCtorEq, ↓reduceIte]
    refine index_Parse_spec (by omega) ?_
    rw [W_ext (k := 0) rfl, W_ext (k := 1) rfl, nameB_list, parse_name]
    refine law18_Names_q8.w law18_Names_S7_8 (by omega) ?_
    have nil1 : ∀ k : Int, ¬ (1 ≤ k ∧ k ≤ 999999) → ((nameB k).data.toList == emptyB.data.toList) = true := fun k hk => by
      rw [nameB_list, nameL, if_neg hk]; rfl
    have nil2 : ∀ k : Int, 1 ≤ k ∧ k ≤ 999999 → ((nameB k).data.toList == emptyB.data.toList) = false := fun k hk => by
      rw [nameB_list, nameL, if_pos hk]; rfl
    by_cases hi : 1 ≤ i ∧ i ≤ 999999
    · rw [if_pos hi]
      have d1 : decide (1 ≤ i) = true := decide_eq_true hi.1
      have d2 : decide (i ≤ 999999) = true := decide_eq_true hi.2
      have d3 : decide (((i.toNat : Nat) : Int) = i) = true := decide_eq_true (by omega)
      by_cases hj : 1 ≤ j ∧ j ≤ 999999
      · have s1 := nil2 j hj
        by_cases hij : i < j
        · have d4 : decide (i < j) = true := decide_eq_true hij
          have d5 : Op.bytesLess (nameB i).data.toList (nameB j).data.toList = true := by
            rw [nameB_list, nameB_list]; exact name_less hi.1 hij hj.2
          simp -implicitDefEqProofs only [law18_Names_r8, W_bind, W_oS, W_on, W_pure, W_mv, W_setF, W_setT, T.get_set, seqO_cons, seqO_nil, seqP_cons, seqP_nil, onO_some', W_callV, reduceIte, isK_bool, isB_tt, isB_tf, isB_ft, isB_ff, W_chk, W_ifT, W_ifF, W_pick, W_nil, Nat.reduceEqDiff, Nat.reduceEqDiff, reduceCtorEq, ↓reduceIte, W_add64, W_sub64, W_lss64, W_gtr64, W_leq64, W_geq64, W_eql64, W_neq64, isK_undef, isB_ut, isB_uf, h0, h1, d1, d2, d3, d4, d5, s1, W_neB ty_bool, ne_tt, Bool.not_true, Bool.not_false, W_not, W_neS, W_geS]
          refine W.cond (v := false) law18_Names_S8_9 law18_Names_C9 (by simp [T.get_set]) (by omega) (fun h => by cases h) fun _ => ?_
          exact law18_Names_end (a := a) (s0 := s) hbb (by omega) law18_Names_S9_11 hxb.cx (by simp [T.get_set, h2]) (by simp [T.get_set])
        · have d4 : decide (i < j) = false := decide_eq_false hij
          simp -implicitDefEqProofs only [law18_Names_r8, W_bind, W_oS, W_on, W_pure, W_mv, W_setF, W_setT, T.get_set, seqO_cons, seqO_nil, seqP_cons, seqP_nil, onO_some', W_callV, reduceIte, isK_bool, isB_tt, isB_tf, isB_ft, isB_ff, W_chk, W_ifT, W_ifF, W_pick, W_nil, Nat.reduceEqDiff, Nat.reduceEqDiff, reduceCtorEq, ↓reduceIte, W_add64, W_sub64, W_lss64, W_gtr64, W_leq64, W_geq64, W_eql64, W_neq64, isK_undef, isB_ut, isB_uf, h0, h1, d1, d2, d3, d4, s1, W_neB ty_bool, ne_tt, Bool.not_true, Bool.not_false, W_not, W_neS, W_geS]
          refine W.cond (v := false) law18_Names_S8_9 law18_Names_C9 (by simp [T.get_set]) (by omega) (fun h => by cases h) fun _ => ?_
          exact law18_Names_end (a := a) (s0 := s) hbb (by omega) law18_Names_S9_11 hxb.cx (by simp [T.get_set, h2]) (by simp [T.get_set])
      · have s1 := nil1 j hj
        simp -implicitDefEqProofs only [law18_Names_r8, W_bind, W_oS, W_on, W_pure, W_mv, W_setF, W_setT, T.get_set, seqO_cons, seqO_nil, seqP_cons, seqP_nil, onO_some', W_callV, reduceIte, isK_bool, isB_tt, isB_tf, isB_ft, isB_ff, W_chk, W_ifT, W_ifF, W_pick, W_nil, Nat.reduceEqDiff, Nat.reduceEqDiff, reduceCtorEq, ↓reduceIte, W_add64, W_sub64, W_lss64, W_gtr64, W_leq64, W_geq64, W_eql64, W_neq64, isK_undef, isB_ut, isB_uf, h0, h1, d1, d2, d3, s1, W_neB ty_bool, ne_tt, Bool.not_true, Bool.not_false, W_not, W_neS, W_geS]
        refine W.cond (v := false) law18_Names_S8_9 law18_Names_C9 (by simp [T.get_set]) (by omega) (fun h => by cases h) fun _ => ?_
        exact law18_Names_end (a := a) (s0 := s) hbb (by omega) law18_Names_S9_11 hxb.cx (by simp [T.get_set, h2]) (by simp [T.get_set])
    · rw [if_neg hi]
      have s1 := nil1 i hi
      have d3 : decide (((0 : Nat) : Int) = 0) = true := rfl
      by_cases d1 : 1 ≤ i
      · have d2 : decide (i ≤ 999999) = false := decide_eq_false fun h => hi ⟨d1, h⟩
        have d1 : decide (1 ≤ i) = true := decide_eq_true d1
        simp -implicitDefEqProofs only [law18_Names_r8, W_bind, W_oS, W_on, W_pure, W_mv, W_setF, W_setT, T.get_set, seqO_cons, seqO_nil, seqP_cons, seqP_nil, onO_some', W_callV, reduceIte, isK_bool, isB_tt, isB_tf, isB_ft, isB_ff, W_chk, W_ifT, W_ifF, W_pick, W_nil, Nat.reduceEqDiff, Nat.reduceEqDiff, reduceCtorEq, ↓reduceIte, W_add64, W_sub64, W_lss64, W_gtr64, W_leq64, W_geq64, W_eql64, W_neq64, isK_undef, isB_ut, isB_uf, h0, h1, d1, d2, d3, s1, W_neB ty_bool, ne_ff, Bool.not_true, Bool.not_false, W_not, W_neS, W_geS]
        refine W.cond (v := false) law18_Names_S8_9 law18_Names_C9 (by simp [T.get_set]) (by omega) (fun h => by cases h) fun _ => ?_
        exact law18_Names_end (a := a) (s0 := s) hbb (by omega) law18_Names_S9_11 hxb.cx (by simp [T.get_set, h2]) (by simp [T.get_set])
      · have d1 : decide (1 ≤ i) = false := decide_eq_false d1
        simp -implicitDefEqProofs only [law18_Names_r8, W_bind, W_oS, W_on, W_pure, W_mv, W_setF, W_setT, T.get_set, seqO_cons, seqO_nil, seqP_cons, seqP_nil, onO_some', W_callV, reduceIte, isK_bool, isB_tt, isB_tf, isB_ft, isB_ff, W_chk, W_ifT, W_ifF, W_pick, W_nil, Nat.reduceEqDiff, Nat.reduceEqDiff, reduceCtorEq, ↓reduceIte, W_add64, W_sub64, W_lss64, W_gtr64, W_leq64, W_geq64, W_eql64, W_neq64, isK_undef, isB_ut, isB_uf, h0, h1, d1, d3, s1, W_neB ty_bool, ne_ff, Bool.not_true, Bool.not_false, W_not, W_neS, W_geS]
        refine W.cond (v := false) law18_Names_S8_9 law18_Names_C9 (by simp [T.get_set]) (by omega) (fun h => by cases h) fun _ => ?_
        exact law18_Names_end (a := a) (s0 := s) hbb (by omega) law18_Names_S9_11 hxb.cx (by simp [T.get_set, h2]) (by simp [T.get_set])
end Go.Proofs.Ytofanlcjeohcjaa.Am
/- From what is said of all states of the evaluator to contracts: arguments that lay there ahead of the call. -/
namespace Go.Proofs.Ytofanlcjeohcjaa.Am
open Go.RowKit

/-- A memory of nothing but what lay there ahead of the call. -/
theorem Rel.ofOld {w : World} {r : Inj} {mem : T Cell} (hk : r.known.sure w) (hd : ∀ b b' d, r.blk b = some (b', d) → b' < w.heap.size)
    (ho : ∀ loc c, T.get mem loc = some c → ∃ b v, c = .O (.old b v) ∧ ∃ b' d v', b ≤ loc ∧ r.blk b = some (b', d) ∧ w.cell? ⟨b', loc - b + d, none⟩ = some v' ∧ VR r v v') : Rel w r mem w where
  below := .refl _ _
  dom := fun b b' d e => ⟨Nat.le_refl _, hd b b' d e⟩
  cell := fun l b v e => by obtain ⟨_, _, e2, _⟩ := ho _ _ e; cases e2
  sep := fun l1 l2 b1 v1 b2 v2 b' d1 d2 e => by obtain ⟨_, _, e2, _⟩ := ho _ _ e; cases e2
  obj := fun l o e ht => by obtain ⟨_, _, e2, _⟩ := ho _ _ e; cases e2; cases ht
  sepO := fun l1 l2 o1 o2 b' d1 d2 e _ ht => by obtain ⟨_, _, e2, _⟩ := ho _ _ e; cases e2; cases ht
  tok := fun t sz e => by obtain ⟨_, _, e2, _⟩ := ho _ _ e; cases e2
  sepT := fun t1 t2 s1 s2 k1 k2 e => by obtain ⟨_, _, e2, _⟩ := ho _ _ e; cases e2
  known := hk
  szs := fun l n e => by obtain ⟨_, _, e2, _⟩ := ho _ _ e; cases e2
  olds := {
    old := fun l b v e => by obtain ⟨_, _, e2, h⟩ := ho _ _ e; cases e2; exact h
    newC := fun l b v b' d e => by obtain ⟨_, _, e2, _⟩ := ho _ _ e; cases e2
    newO := fun l o b' d e ht => by obtain ⟨_, _, e2, _⟩ := ho _ _ e; cases e2; cases ht
    newS := fun l n b' d e => by obtain ⟨_, _, e2, _⟩ := ho _ _ e; cases e2 }
/-- A call of given arguments, from any world that has them: it returns what is said, if that has no address in it; nothing that was there is touched. -/
theorem calls_sym {E : Env} (he : EnvOK E) {fuel f : Nat} {args : List Value} {args' : Array Value} {v : Value} {s0 : St} {r : Inj} (ho : E.orc.get f = none) (hx : E.ext.get f = none) (h : W (callW E (runF E fuel) f args) s0 fun u _ => u = v) (hp : plain v = true) {w : World} (ha : VRs r args args'.toList) (hr : Rel w r s0.mem w) (hb : Bnd s0)
    (hf : ∀ b, s0.next ≤ b → r.blk b = none ∧ r.ext b = none) : Calls E.P f args' w fun e w' => e = .returned v ∧ Below w.heap.size w w' := by
  intro cs
  obtain ⟨_, s', h, rfl⟩ := h
  unfold callW at h
  rw [ho, hx] at h
  obtain ⟨s2, e1, rfl⟩ := within_rOf (o := .inl _) (show within cxN (M.bind (M.bind (enterF E f args .normal) (runF E fuel)) fstV) s0 = rOf (.inl _) s' from h)
  obtain ⟨af, s1, o, e2, e3, e4⟩ := fst_rOf (np_enterF _ _ _) e1
  obtain ⟨_, hF, rfl⟩ := enter_ok (r := r) (base := ([], cs)) (cx := cxN) he e2 ha (cs := cs) ⟨⟨rfl, rfl⟩, rfl, .nil⟩
  obtain ⟨w', r', k1, k2, cs', k3, k4⟩ := (runF_ok he fuel).ok e3 hF hr hb (fun b h1 _ => hf b h1)
  cases o with
  | inr c => cases e4
  | inl p =>
    cases e4
    obtain ⟨v', q1, q2, q3⟩ := k4
    obtain ⟨fr', x1, x2, x3⟩ := q3 rfl rfl
    have hcs : cs' = cs := by
      rcases k3 with k3 | ⟨_, _, _, _, _, k, _⟩
      · exact k3.2
      · cases k
    subst hcs
    exact ⟨.returned v', w', fr', ⟨by rw [q1.eq_of_plain hp], k1.rel.below⟩, x3, x1, x2⟩
/-- .. of arguments that have no address in them. -/
theorem VRs.plains {r : Inj} : ∀ {l : List Value}, (∀ v ∈ l, plain v = true) → VRs r l l
  | [], _ => .nil
  | v :: l, h => .cons (.of_plain (h v (by simp))) (VRs.plains fun u hu => h u (by simp [hu]))
theorem calls_plain {E : Env} (he : EnvOK E) {fuel f : Nat} {args : Array Value} {v : Value} (ho : E.orc.get f = none) (hx : E.ext.get f = none) (h : W (callW E (runF E fuel) f args.toList) st0 fun u _ => u = v) (hp : plain v = true) (ha : ∀ v ∈ args.toList, plain v = true) (w : World) :
    Calls E.P f args w fun e w' => e = .returned v ∧ Below w.heap.size w w' :=
  calls_sym he ho hx h hp (VRs.plains ha) (Rel.empty w (Know.no_sure w)) (Nat.le_refl _) fun _ _ => ⟨rfl, rfl⟩

/-! ### What arguments of these types are -/
theorem ok_int {P : Program} {w : World} {rc : Reach} {base : Nat} {t : TypeId} {v : Value} {k : IntKind} (hu : P.underlying t = some (.int k)) (h : Value.okWide P w rc base t v) : ∃ n, v = .int k n ∧ k.min ≤ n ∧ n ≤ k.max := by
  unfold Value.okWide at h
  rw [hu] at h
  simp only at h
  unfold Cell.okWide Cell.ok at h
  rw [hu] at h
  cases v <;> simp at h
  rename_i k' n
  obtain ⟨rfl, h1, h2⟩ := h
  exact ⟨n, rfl, h1, h2⟩
theorem ok_str {P : Program} {w : World} {rc : Reach} {base : Nat} {t : TypeId} {v : Value} (hu : P.underlying t = some .string) (h : Value.okWide P w rc base t v) : ∃ s, v = .string s ∧ s.size ≤ 9223372036854775807 := by
  unfold Value.okWide at h
  rw [hu] at h
  simp only at h
  unfold Cell.okWide Cell.ok at h
  rw [hu] at h
  cases v <;> simp at h
  rename_i s
  refine ⟨s, rfl, ?_⟩
  have : (s.size : Int) ≤ 9223372036854775807 := h
  omega
/-! ### A row of bytes that lay there -/
noncomputable def layT (b : Nat) : List Value → Nat → T Cell → T Cell
  | [], _, t => t
  | v :: l, i, t => layT b l (i + 1) (T.set t i (.O (.old b v)))
theorem layT_get (b : Nat) : ∀ (l : List Value) (i : Nat) (t : T Cell) (j : Nat), T.get (layT b l i t) j = if i ≤ j ∧ j < i + l.length then (l[j - i]?).map (fun v => .O (.old b v)) else T.get t j
  | [], i, t, j => by
    rw [if_neg (by simp only [List.length_nil]; omega)]
    rfl
  | v :: l, i, t, j => by
    show T.get (layT b l (i + 1) (T.set t i (.O (.old b v)))) j = _
    rw [layT_get b l (i + 1), T.get_set]
    simp only [List.length_cons]
    by_cases h1 : j = i
    · subst h1
      rw [if_neg (by omega), if_pos rfl, if_pos (by omega), Nat.sub_self]
      rfl
    · rw [if_neg h1]
      by_cases h2 : i + 1 ≤ j ∧ j < i + 1 + l.length
      · rw [if_pos h2, if_pos (by omega), show j - i = (j - (i + 1)) + 1 by omega]
        rfl
      · rw [if_neg h2, if_neg (by omega)]
/-- A state in which this row lies, from its first place on. -/
noncomputable def stRow (l : List Value) : St := ⟨layT 0 l 0 .E, l.length + 1, 0, [], [], .no⟩
theorem stRow_row (l : List Value) : Row (stRow l) 0 0 l := fun i v e => by
  have hi := (List.getElem?_eq_some_iff.1 e).1
  refine ⟨?_, .inr ?_⟩
  · show 0 + (0 + i) < l.length + 1
    omega
  · show T.get (layT 0 l 0 .E) (0 + (0 + i)) = _
    rw [layT_get, if_pos (by omega), show 0 + (0 + i) - 0 = i by omega, e]
    rfl
/-- Where it lies; a mark for the room behind it. -/
def injRow (b' d : Nat) (k : Tok) : Inj := ⟨fun b => if b = 0 then some (b', d) else none, fun t => if t = 0 then some k else none, .no⟩
theorem stRow_rel {w : World} {l : List Value} {b' d : Nat} {k : Tok} (hb : b' < w.heap.size) (hl : ∀ i v, l[i]? = some v → plain v = true ∧ w.cell? ⟨b', i + d, none⟩ = some v) : Rel w (injRow b' d k) (stRow l).mem w := by
  refine Rel.ofOld (Know.no_sure w) (fun b b2 d2 e => ?_) fun loc c e => ?_
  · simp only [injRow] at e
    split at e
    · cases e; exact hb
    · cases e
  · have e' : T.get (layT 0 l 0 .E) loc = some c := e
    rw [layT_get] at e'
    split at e'
    · rename_i h
      rw [Option.map_eq_some_iff] at e'
      obtain ⟨v, e1, rfl⟩ := e'
      obtain ⟨h1, h2⟩ := hl _ _ e1
      exact ⟨0, v, rfl, b', d, v, Nat.zero_le _, by simp [injRow], h2, .of_plain h1⟩
    · cases e'
/-- A slice of these cells, as the evaluator has it. -/
noncomputable def slRow (n c : Nat) : Value := .slice (some ⟨0, 0, none⟩) n (if c < capU then c else capU + n)
theorem slRow_vr {b' d n c : Nat} (hn : n ≤ c) (hc : n < capU) : VR (injRow b' d ⟨c - n, b', d + n, 1⟩) (slRow n c) (.slice (some ⟨b', d, none⟩) n c) := by
  have h : VR (injRow b' d ⟨c - n, b', d + n, 1⟩) (.slice (some ⟨0, 0, none⟩) n (if c < capU then c else capU + n)) (.slice (some ⟨b', 0 + d, none⟩) n c) := by
    by_cases h : c < capU
    · rw [if_pos h]
      exact .sl (by simp [injRow]) (.inl ⟨Nat.div_eq_of_lt h, rfl⟩) (by rw [Nat.mod_eq_of_lt h]; exact hn)
    · rw [if_neg h]
      have hd : (capU + n) / capU = 1 := by
        rw [Nat.add_div_left _ (by decide), Nat.div_eq_of_lt hc]
      have hm : (capU + n) % capU = n := by
        rw [Nat.add_mod_left, Nat.mod_eq_of_lt hc]
      refine .sl (by simp [injRow]) (.inr ⟨by rw [hd]; decide, ⟨c - n, b', d + n, 1⟩, ?_, ?_, ?_, rfl, ?_⟩) (by rw [hm]; exact Nat.le_refl _)
      · rw [hd]; rfl
      · rw [hd]
      · rw [hm]; simp only; omega
      · rw [hm]; simp only; omega
  rw [Nat.zero_add] at h
  exact h
end Go.Proofs.Ytofanlcjeohcjaa.Am
/- satchellaw18.IndexNames: its contract, for all arguments of its types. -/
namespace Go.Proofs.Ytofanlcjeohcjaa.Am
open Go.RowKit

theorem envS_P : envS.P = Try.prog := by kernel_rfl
theorem names_params : Try.f10.params = #[3, 3, 9] := by kernel_rfl
theorem under_int : Try.prog.underlying 3 = some (.int .i64) := by kernel_rfl
theorem under_str : Try.prog.underlying 9 = some .string := by kernel_rfl
theorem names_orc : envS.orc.get 10 = none := by kernel_rfl
theorem names_ext : envS.ext.get 10 = none := by kernel_rfl
set_option maxRecDepth 1000000 in
theorem walkNames {w : World} {base : Nat} {args : Array Value} (hsz : args.toList.length = Try.f10.params.toList.length)
    (hv : ∀ (j : Nat) t v, Try.f10.params[j]? = some t → args[j]? = some v → Value.okWide Try.prog w .any base t v) : Calls Try.prog 10 args w fun e w' => e = .returned (.bool true) ∧ Below w.heap.size w w' := by
  rw [names_params] at hsz hv
  obtain ⟨l⟩ := args
  match l, hsz with
  | [a, b, c], _ =>
    obtain ⟨i, rfl, hi1, hi2⟩ := ok_int under_int (hv 0 _ a rfl rfl)
    obtain ⟨j, rfl, hj1, hj2⟩ := ok_int under_int (hv 1 _ b rfl rfl)
    obtain ⟨s, rfl, hs⟩ := ok_str under_str (hv 2 _ c rfl rfl)
    have h := calls_plain (args := #[.int .i64 i, .int .i64 j, .string s]) envS_ok names_orc names_ext (law18_Names_W' (n := 1000) (s := st0) (Nat.le_refl _) hi1 hi2 hj1 hj2 (by omega)) rfl (by
      intro v hv
      simp -implicitDefEqProofs only [List.mem_cons, List.not_mem_nil, or_false] at hv
      rcases hv with rfl | rfl | rfl <;> rfl) w
    rw [envS_P] at h
    exact h
end Go.Proofs.Ytofanlcjeohcjaa.Am
/- Arguments that read behind the call as before. -/
namespace Go.Proofs.Ytofanlcjeohcjaa.Am
open Go.RowKit Go.ChangeShapes

/-- A type's zero. -/
noncomputable def zeroT (P : Program) (t : Nat) : Value := ((P.info? t).bind (·.zero)).getD .nilFunc
section
variable {H : Type} {enc : TypeId × Value → H} {P : Program} {W W' : World}
/-- Arguments read behind the call as they did before it. -/
theorem below_all (hl : laidOutB P = true) (hb : Below W.heap.size W W') {sp : Nat → Bool} : ∀ {ts : List TypeId} {vs : List Value} {ds : List (DataW H)} {ps : List MemPlace}, (ts.all fun t => P.readableRec t && decide (t < P.types.size)) = true → DataW.TrodAll enc P W 0 (fun _ => true) true ts vs ds ps → (∀ x ∈ ps, x.block < W.heap.size) → (∀ x ∈ ps, sp x.block = true) →
    DataW.TrodAll enc P W' 0 sp true ts vs ds ps
  | [], _, _, _, _, h, _, _ => by
    obtain ⟨rfl, rfl, rfl⟩ := trodAll_nil h
    exact trodAll_mk0
  | t :: ts, _, _, _, hr, h, hlt, hsp => by
    obtain ⟨v, vs, d, ds, p, q, rfl, rfl, rfl, h1, h2⟩ := trodAll_cons h
    rw [List.all_cons, Bool.and_eq_true, Bool.and_eq_true] at hr
    refine ⟨p, q, WideElems.Trod_stays hl hr.1.1 (of_decide_eq_true hr.1.2) h1 (fun x hx => hb.same (hlt x (List.mem_append_left _ hx))) (fun x hx => hsp x (List.mem_append_left _ hx)), ?_, rfl⟩
    exact below_all hl hb hr.2 h2 (fun x hx => hlt x (List.mem_append_right _ hx)) (fun x hx => hsp x (List.mem_append_right _ hx))
end
end Go.Proofs.Ytofanlcjeohcjaa.Am
