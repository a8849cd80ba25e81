/- Appends to what is nothing or an append's: one rule. -/
import Derived.Test.YtbmkpcjkadifhaaGreatDoorSNo07
import Derived.ChangeKeysEq
import Derived.Laws.Strings
import Derived.Test.YtbmkpcjkadifhaaGreatDoorSNo06
import GoSem.ClaimWide
import Derived.Carry
import Derived.ChangeSame
namespace Go.Proofs.YtbmkpcjkadifhaaGreatDoor.Am
open Go.RowKit
section
variable {s s' : St} {E : Env} {t t2 : Nat}
/-- Nothing, or a slice that an append has made. -/
def MkS (s : St) (sz n : Nat) (l : List Value) (v : Value) (b : Nat) : Prop := (v = .slice none 0 0 ∧ n = 0 ∧ l = []) ∨ (Marked s sz n l v b ∧ 0 < n)
def MkF (sz n b : Nat) (x : Nat) : Prop := 0 < n ∧ In b 0 (n * sz + 1) x
theorem MkS.ext {F G : Nat → Prop} {sz n : Nat} {l : List Value} {v : Value} {b : Nat} (h : MkS s sz n l v b) (e : Ext F G s s') (hG : ∀ x, MkF sz n b x → ¬ G x) : MkS s' sz n l v b := by
  rcases h with h | ⟨h, h0⟩
  · exact .inl h
  · exact .inr ⟨h.ext e fun x hx => hG x ⟨h0, hx⟩, h0⟩
theorem MkS.ext0 {F : Nat → Prop} {sz n : Nat} {l : List Value} {v : Value} {b : Nat} (h : MkS s sz n l v b) (e : Ext F Non s s') : MkS s' sz n l v b := h.ext e fun _ _ => id
theorem MkS.same {sz n : Nat} {l : List Value} {v : Value} {b : Nat} (h : MkS s sz n l v b) (hm : s'.mem = s.mem) (hn : s'.next = s.next) : MkS s' sz n l v b := by
  rcases h with h | ⟨h, h0⟩
  · exact .inl h
  · exact .inr ⟨h.same hm hn, h0⟩
theorem MkS.lt {sz n : Nat} {l : List Value} {v : Value} {b : Nat} (h : MkS s sz n l v b) : ∀ x, MkF sz n b x → x < s.next := by
  intro x hx
  rcases h with ⟨_, h0, _⟩ | ⟨h, _⟩
  · have := hx.1; omega
  · have h1 := h.lt
    have h2 : x < b + 0 + (n * sz + 1) := hx.2.2
    omega
theorem MkS.sl {sz n : Nat} {l : List Value} {v : Value} {b : Nat} (h : MkS s sz n l v b) : ∃ p c, v = .slice p n c := by
  rcases h with ⟨rfl, rfl, _⟩ | ⟨h, _⟩
  · exact ⟨_, _, rfl⟩
  · exact ⟨_, _, h.val⟩
theorem MkS.len {sz n : Nat} {l : List Value} {v : Value} {b : Nat} (h : MkS s sz n l v b) {z : Nat} (ht : slN E t = some z) (Q : Value → St → Prop) : W (aBuiltin E .len [t] [v]) s' Q = Q (.int .i64 (n : Nat)) s' := by
  obtain ⟨p, c, rfl⟩ := h.sl
  exact W_lenSl ht Q
theorem W.appU (hbd : s.lim ≤ s.next) {sz by' n len b : Nat} {z l old : List Value} {v x : Value} {F : Nat → Prop} {Q : Value → St → Prop} {g : Bool} (ht : appT E t t2 = some (sz, by', g, z)) (hm : MkS s sz len old v b) (hx : SrcG s sz by' g z x n l F) (hn : 0 < n) (hs0 : 0 < sz) (hs1 : sz < 1024)
    (hb : (len + n) * (by' + 1) ≤ 16777216) (hl : l.length = n * sz) (h1 : l.all oneCell = true)
    (q : ∀ s2 v2 b2, s.next ≤ b2 → MkS s2 sz (len + n) (old ++ l) v2 b2 → Ext (fun x => F x ∨ MkF sz len b x) (MkF sz len b) s s2 → Q v2 s2) : W (aAppend E t t2 v x) s Q := by
  rcases hm with ⟨rfl, rfl, rfl⟩ | ⟨hm, h0⟩
  · rw [Nat.zero_add] at hb
    refine W.appNil hbd ht hx hn hs0 hs1 hb hl h1 fun s2 v2 b2 hf xf => ?_
    refine q s2 v2 b2 hf.new (.inr ⟨?_, by omega⟩) (xf.weak hbd (fun _ _ h => .inl h) fun _ _ h => h.elim)
    rw [Nat.zero_add]
    exact hf.marked
  · refine W.appMark hbd ht hm hx hn h0 hs0 hs1 hb hl h1 fun s2 v2 b2 hf xf => ?_
    exact q s2 v2 b2 hf.new (.inr ⟨hf.marked, by omega⟩) (xf.weak hbd (fun _ _ h => h.elim .inl fun h => .inr ⟨h0, h⟩) fun _ _ h => ⟨h0, h⟩)
end
end Go.Proofs.YtbmkpcjkadifhaaGreatDoor.Am
/- Numbers of 32 bits held against each other; appends to what is empty or an append's. -/
namespace Go.Proofs.YtbmkpcjkadifhaaGreatDoor.Am
open Go.RowKit
section
variable {s s' : St} {E : Env} {t t2 : Nat} {xo yo : Operand}
theorem cmp32 (c : Nat → Nat → Bool) (m n : Nat) : cmpK c .u32 .u32 m n = some (.bool (c m n)) := by
  unfold cmpK sameK
  rw [Nat.beq_refl]
  show mkB (c m n) = _
  unfold mkB
  cases c m n <;> rfl
theorem eq32_run (m n : Nat) : Cl.get (aBin E .eql t xo yo) (.int .u32 (m : Nat)) (.int .u32 (n : Nat)) s = .some (.bool (decide (m = n))) s := by
  show int3 (cmpK fun m n => Nat.beq m n) (binSlow E .eql t xo yo) (.int .u32 (.ofNat m)) (.int .u32 (.ofNat n)) s = _
  show Option.rec (motive := fun _ => R Value) _ (fun v => .some v s) (cmpK (fun m n => Nat.beq m n) .u32 .u32 m n) = _
  have e : Nat.beq m n = decide (m = n) := by
    by_cases h : m = n
    · subst h
      rw [Nat.beq_refl, decide_eq_true rfl]
    · rw [decide_eq_false h]
      cases hb : Nat.beq m n with
      | false => rfl
      | true => exact absurd (Nat.eq_of_beq_eq_true hb) h
  rw [cmp32, e]
theorem W_eq32 {m n : Nat} (Q : Value → St → Prop) : W (Cl.get (aBin E .eql t xo yo) (.int .u32 (m : Nat)) (.int .u32 (n : Nat))) s Q = Q (.bool (decide (m = n))) s := W_run (eq32_run m n)
theorem W_eq32_0 {m : Nat} (Q : Value → St → Prop) : W (Cl.get (aBin E .eql t xo yo) (.int .u32 (m : Nat)) (.int .u32 0)) s Q = Q (.bool (decide (m = 0))) s := W_eq32 (n := 0) Q
theorem W_eq32_1 {m : Nat} (Q : Value → St → Prop) : W (Cl.get (aBin E .eql t xo yo) (.int .u32 (m : Nat)) (.int .u32 1)) s Q = Q (.bool (decide (m = 1))) s := W_eq32 (n := 1) Q
theorem rem32_run (m n : Nat) (hn : 1 ≤ n) : Cl.get (aBin E .rem t xo yo) (.int .u32 (m : Nat)) (.int .u32 (n : Nat)) s = .some (.int .u32 (m % n : Nat)) s := by
  show int3 remK (binSlow E .rem t xo yo) (.int .u32 (.ofNat m)) (.int .u32 (.ofNat n)) s = _
  show Option.rec (motive := fun _ => R Value) _ (fun v => .some v s) (remK .u32 .u32 m n) = _
  have : remK .u32 .u32 m n = some (.int .u32 (m % n : Nat)) := by
    unfold remK sameK sOpt
    rw [Nat.beq_refl, Nat.ble_eq_true_of_le hn]
    show mkI .u32 (Nat.mod m n) = _
    unfold mkI
    rw [fN_eq]
    rfl
  rw [this]
theorem W_rem32_2 {m : Nat} (Q : Value → St → Prop) : W (Cl.get (aBin E .rem t xo yo) (.int .u32 (m : Nat)) (.int .u32 2)) s Q = Q (.int .u32 (m % 2 : Nat)) s := W_run (rem32_run m 2 (by decide))
/-- Empty, at a place, or a slice that an append has made. -/
def EmS (s : St) (sz n : Nat) (l : List Value) (v : Value) (b : Nat) : Prop := (v = .slice (some ⟨b, 0, none⟩) 0 0 ∧ n = 0 ∧ l = []) ∨ (Marked s sz n l v b ∧ 0 < n)
theorem EmS.same {sz n : Nat} {l : List Value} {v : Value} {b : Nat} (h : EmS s sz n l v b) (hm : s'.mem = s.mem) (hn : s'.next = s.next) : EmS s' sz n l v b := by
  rcases h with h | ⟨h, h0⟩
  · exact .inl h
  · exact .inr ⟨h.same hm hn, h0⟩
theorem EmS.row {sz n : Nat} {l : List Value} {v : Value} {b : Nat} (h : EmS s sz n l v b) : ∃ c, v = .slice (some ⟨b, 0, none⟩) n c ∧ Row s b 0 l := by
  rcases h with ⟨rfl, rfl, rfl⟩ | ⟨h, _⟩
  · exact ⟨_, rfl, fun i u e => by simp at e⟩
  · exact ⟨_, h.val, h.own.row⟩
theorem W.appE (hbd : s.lim ≤ s.next) {sz by' n len b : Nat} {z l old : List Value} {v x : Value} {F : Nat → Prop} {Q : Value → St → Prop} {g : Bool} (ht : appT E t t2 = some (sz, by', g, z)) (hm : EmS s sz len old v b) (hx : SrcG s sz by' g z x n l F) (hs0 : 0 < sz) (hs1 : sz < 1024)
    (hb : (len + n) * (by' + 1) ≤ 16777216) (hl : l.length = n * sz) (h1 : l.all oneCell = true)
    (q : ∀ s2 v2 b2, (b2 = b ∨ s.next ≤ b2) → EmS s2 sz (len + n) (old ++ l) v2 b2 → Ext (fun x => F x ∨ MkF sz len b x) (MkF sz len b) s s2 → Q v2 s2) : W (aAppend E t t2 v x) s Q := by
  by_cases hn : n = 0
  · subst hn
    have hl0 : l = [] := List.eq_nil_of_length_eq_zero (by rw [hl, Nat.zero_mul])
    subst hl0
    have hno : ∀ (o : Nat) x, In b o (0 * sz) x → False := fun o x h => by
      have h1 := h.1
      have h2 := h.2
      rw [Nat.zero_mul] at h2
      omega
    have hle : ∀ c, v = .slice (some ⟨b, 0, none⟩) len c → len ≤ c % capU := fun c hc => by
      rcases hm with ⟨e, rfl, _⟩ | ⟨hm, _⟩
      · exact Nat.zero_le _
      · have e := hm.val
        rw [e] at hc
        have h2 : len < capU := by
          have : len * 1 ≤ (len + 0) * (by' + 1) := Nat.mul_le_mul (by omega) (by omega)
          unfold capU
          omega
        injection hc with _ _ hc
        rw [← hc, Nat.mul_add_mod, Nat.mod_eq_of_lt h2]
        exact Nat.le_refl _
    obtain ⟨c, rfl, _⟩ := hm.row
    refine W.appIn ht hx (by have := hle c rfl; omega) hl h1 (fun i hi => by rw [Nat.zero_mul] at hi; omega) fun s2 n2 x2 _ => ?_
    have x3 : Ext (fun x => F x ∨ MkF sz len b x) (MkF sz len b) s s2 := x2.weak hbd (fun y _ h => h.elim .inl fun h => (hno _ y h).elim) fun y _ h => (hno _ y h).elim
    refine q s2 _ b (.inl rfl) ?_ x3
    rw [List.append_nil, Nat.add_zero]
    have x4 : Ext (fun x => F x ∨ MkF sz len b x) Non s s2 := x2.weak hbd (fun y _ h => h.elim .inl fun h => (hno _ y h).elim) fun y _ h => hno _ y h
    rcases hm with hm | ⟨hm, h0⟩
    · exact .inl hm
    · exact .inr ⟨hm.ext x4 fun _ _ => id, h0⟩
  · have hn0 : 0 < n := by omega
    rcases hm with ⟨rfl, rfl, rfl⟩ | ⟨hm, h0⟩
    · rw [Nat.zero_add] at hb
      refine W.appEmp hbd ht hx hn0 hs0 hs1 hb hl h1 fun s2 v2 b2 hf xf => ?_
      refine q s2 v2 b2 (.inr hf.new) (.inr ⟨?_, by omega⟩) (xf.weak hbd (fun _ _ h => .inl h) fun _ _ h => h.elim)
      rw [Nat.zero_add]
      exact hf.marked
    · refine W.appMark hbd ht hm hx hn0 h0 hs0 hs1 hb hl h1 fun s2 v2 b2 hf xf => ?_
      exact q s2 v2 b2 (.inr hf.new) (.inr ⟨hf.marked, by omega⟩) (xf.weak hbd (fun _ _ h => h.elim .inl fun h => .inr ⟨h0, h⟩) fun _ _ h => ⟨h0, h⟩)
end
end Go.Proofs.YtbmkpcjkadifhaaGreatDoor.Am
/- Arrays of bytes held against each other. -/
namespace Go.Proofs.YtbmkpcjkadifhaaGreatDoor.Am
open Go.RowKit
section
variable {P : Program} {E : Env} {s : St} {t : Nat}
theorem semP_typeInfo {i : TypeInfo} (h : P.info? t = some i) : semP P (typeInfo t) = some i := by
  unfold typeInfo program
  show semP P ((match P.info? t with | some i => pure i | none => _) : Sem TypeInfo) = _
  rw [h]
  rfl
theorem semP_sizeOf {i : TypeInfo} (h : P.info? t = some i) : semP P (sizeOf t) = some i.size := by
  unfold sizeOf
  rw [semP_bind, semP_typeInfo h]
  rfl
theorem semP_part8 {cs : Array Value} {off : Nat} {v : Value} {k : IntKind} (hu : P.underlying t = some (.int k)) (h : cs[off]? = some v) : semP P (part t cs off) = some v := by
  unfold part isAgg
  rw [semP_bind, semP_bind, semP_underlying hu]
  simp only [Option.bind_some, semP_pure, Bool.false_eq_true, if_false, h]
theorem semP_eqInt {k : IntKind} {d : Nat} {a b : Int} (hu : P.underlying t = some (.int k)) : semP P (Op.equalIn (d + 1) t (.int .u8 a) (.int .u8 b)) = some (a == b) := by
  simp only [Op.equalIn, semP_bind, semP_underlying hu, Option.bind_some, if_true, semP_pure]
theorem u8l_arr (l : List Nat) {j : Nat} (h : j < l.length) : (u8l l).toArray[j * 1]? = some (.int .u8 (l.getD j 0 : Nat)) := by
  rw [Nat.mul_one, List.getElem?_toArray, List.getElem?_map, List.getElem?_eq_getElem h, List.getD_eq_getElem?_getD, List.getElem?_eq_getElem h]
  rfl
theorem getD_all (l m : List Nat) (h : l.length = m.length) : (List.range' 0 l.length).all (fun j => l.getD j 0 == m.getD j 0) = decide (l = m) := by
  rw [Bool.eq_iff_iff, List.all_eq_true, decide_eq_true_eq]
  constructor
  · intro q
    refine List.ext_getElem h fun j h1 h2 => ?_
    have := q j (by simp; exact h1)
    rw [beq_iff_eq, List.getD_eq_getElem?_getD, List.getD_eq_getElem?_getD, List.getElem?_eq_getElem h1, List.getElem?_eq_getElem h2] at this
    exact this
  · rintro rfl j _
    exact beq_self_eq_true _
theorem semP_eqArr (d : Nat) {e n : Nat} {i : TypeInfo} (l m : List Nat) (hu : P.underlying t = some (.array n e)) (hi : P.info? e = some i) (hz : i.size = 1) (he : P.underlying e = some (.int .u8)) (hl : l.length = n) (hm : m.length = n) :
    semP P (Op.equalIn (d + 2) t (.agg (u8l l).toArray) (.agg (u8l m).toArray)) = some (decide (l = m)) := by
  rw [← getD_all l m (by rw [hl, hm]), hl]
  rw [show d + 2 = (d + 1) + 1 from rfl]
  unfold Op.equalIn
  simp only [semP_bind, semP_underlying hu, Option.bind_some, semP_sizeOf hi, hz]
  simp only [Std.Legacy.Range.forIn_eq_forIn_range', Std.Legacy.Range.size, Nat.sub_zero, Nat.add_one_sub_one, Nat.div_one]
  have hr : ∀ j ∈ List.range' 0 n, j < n := fun j hj => by simpa using hj
  generalize List.range' 0 n = is at hr
  induction is with
  | nil => rfl
  | cons j is ih =>
    have hj := hr j (by simp)
    have ih := ih fun k hk => hr k (by simp [hk])
    simp only [List.forIn_cons, semP_bind, semP_part8 he (u8l_arr l (show j < l.length by rw [hl]; exact hj)), semP_part8 he (u8l_arr m (show j < m.length by rw [hm]; exact hj)), Option.bind_some, semP_eqInt he, List.all_cons]
    by_cases hq : l.getD j 0 = m.getD j 0
    · rw [hq] at *
      simp only [beq_self_eq_true, Bool.true_and, Bool.not_true, Bool.false_eq_true, if_false, semP_pure, Option.bind_some]
      exact ih
    · have h1 : ((l.getD j 0 : Nat) : Int) ≠ ((m.getD j 0 : Nat) : Int) := fun h => hq (by exact_mod_cast h)
      have h2 : (((l.getD j 0 : Nat) : Int) == ((m.getD j 0 : Nat) : Int)) = false := by simpa using h1
      have h3 : (l.getD j 0 == m.getD j 0) = false := by simpa using hq
      rw [h2, h3]
      simp [semP_pure]
/-- An array of bytes, that is held against another one. -/
noncomputable def arrB (P : Program) (t : Nat) : Option Nat := match P.underlying t with
  | some (.array n e) => (match P.info? e, P.underlying e with
    | some i, some (.int .u8) => bif Nat.beq i.size 1 && !P.eqGuardType P.depth t then some n else none
    | _, _ => none)
  | _ => none
theorem arrB_inv {n : Nat} (h : arrB P t = some n) : ∃ e i, P.underlying t = some (.array n e) ∧ P.info? e = some i ∧ P.underlying e = some (.int .u8) ∧ i.size = 1 ∧ P.eqGuardType P.depth t = false := by
  unfold arrB at h
  split at h
  · rename_i n2 e hu
    split at h
    · rename_i i hi he
      cases hc : (Nat.beq i.size 1 && !P.eqGuardType P.depth t)
      · rw [hc] at h
        cases h
      · rw [hc] at h
        cases h
        rw [Bool.and_eq_true] at hc
        exact ⟨e, i, hu, hi, he, Nat.eq_of_beq_eq_true hc.1, by simpa using hc.2⟩
    · cases h
  · cases h
theorem plain_u8 (l : List Nat) : plain (.agg (u8l l).toArray) = true := by
  show (u8l l).toArray.toList.all (plainD 3) = true
  rw [List.all_eq_true]
  intro v hv
  simp only [List.mem_map] at hv
  obtain ⟨n, _, rfl⟩ := hv
  rfl
theorem semP_guardArr {xo yo : Operand} {op : BinOp} {l m : List Nat} (hop : op = .eql ∨ op = .neq) (hg : P.eqGuardType P.depth t = false) : semP P (eqGuard op t xo yo (.agg (u8l l).toArray) (.agg (u8l m).toArray)) = some () := by
  have hp : semP P program = some P := rfl
  rcases hop with rfl | rfl <;> (unfold eqGuard; simp only [Bool.not_true, Bool.not_false, Bool.false_eq_true, if_false, if_true, semP_bind, hp, Option.bind_some, hg, semP_pure])
theorem eqArr_run {n : Nat} {l m : List Nat} {xo yo : Operand} (h : arrB E.P t = some n) (hl : l.length = n) (hm : m.length = n) :
    Cl.get (aBin E .eql t xo yo) (.agg (u8l l).toArray) (.agg (u8l m).toArray) s = .some (.bool (decide (l = m))) s := by
  obtain ⟨e, i, h1, h2, h3, h4, h5⟩ := arrB_inv h
  show binSlow E .eql t xo yo (.agg (u8l l).toArray) (.agg (u8l m).toArray) s = _
  unfold binSlow
  rw [plain_u8, plain_u8]
  show M.on (semP E.P (do eqGuard .eql t xo yo (.agg (u8l l).toArray) (.agg (u8l m).toArray); binOp .eql t (.agg (u8l l).toArray) (.agg (u8l m).toArray))) pV s = _
  rw [semP_bind, semP_guardArr (.inl rfl) h5]
  show M.on (semP E.P (do pure (.bool (← Op.equalIn (9998 + 2) t (.agg (u8l l).toArray) (.agg (u8l m).toArray))))) pV s = _
  rw [semP_bind, semP_eqArr 9998 l m h1 h2 h4 h3 hl hm]
  rfl
theorem neArr_run {n : Nat} {l m : List Nat} {xo yo : Operand} (h : arrB E.P t = some n) (hl : l.length = n) (hm : m.length = n) :
    Cl.get (aBin E .neq t xo yo) (.agg (u8l l).toArray) (.agg (u8l m).toArray) s = .some (.bool (!decide (l = m))) s := by
  obtain ⟨e, i, h1, h2, h3, h4, h5⟩ := arrB_inv h
  show binSlow E .neq t xo yo (.agg (u8l l).toArray) (.agg (u8l m).toArray) s = _
  unfold binSlow
  rw [plain_u8, plain_u8]
  show M.on (semP E.P (do eqGuard .neq t xo yo (.agg (u8l l).toArray) (.agg (u8l m).toArray); binOp .neq t (.agg (u8l l).toArray) (.agg (u8l m).toArray))) pV s = _
  rw [semP_bind, semP_guardArr (.inr rfl) h5]
  show M.on (semP E.P (do pure (.bool (!(← Op.equalIn (9998 + 2) t (.agg (u8l l).toArray) (.agg (u8l m).toArray)))))) pV s = _
  rw [semP_bind, semP_eqArr 9998 l m h1 h2 h4 h3 hl hm]
  rfl
theorem W_eqArr {n : Nat} {l m : List Nat} {xo yo : Operand} (h : arrB E.P t = some n) (hl : l.length = n) (hm : m.length = n) (Q : Value → St → Prop) : W (Cl.get (aBin E .eql t xo yo) (.agg (u8l l).toArray) (.agg (u8l m).toArray)) s Q = Q (.bool (decide (l = m))) s := W_run (eqArr_run h hl hm)
theorem W_neArr {n : Nat} {l m : List Nat} {xo yo : Operand} (h : arrB E.P t = some n) (hl : l.length = n) (hm : m.length = n) (Q : Value → St → Prop) : W (Cl.get (aBin E .neq t xo yo) (.agg (u8l l).toArray) (.agg (u8l m).toArray)) s Q = Q (.bool (!decide (l = m))) s := W_run (neArr_run h hl hm)

/-! ### Texts -/
theorem bin_str {op : BinOp} {xo yo : Operand} {a b : ByteArray} {v : Value} (hc : ∀ s, Cl.get (aBin E op t xo yo) (.string a) (.string b) s = binSlow E op t xo yo (.string a) (.string b) s) (hg : semP E.P (eqGuard op t xo yo (.string a) (.string b)) = some ()) (hb : semP E.P (binOp op t (.string a) (.string b)) = some v) (hv : ∀ s : St, pV v s = .some v s) :
    Cl.get (aBin E op t xo yo) (.string a) (.string b) s = .some v s := by
  rw [hc]
  unfold binSlow
  show M.on (semP E.P (do eqGuard op t xo yo (.string a) (.string b); binOp op t (.string a) (.string b))) pV s = _
  rw [semP_bind, hg]
  show M.on (semP E.P (binOp op t (.string a) (.string b))) pV s = _
  rw [hb]
  exact hv s
theorem W_eqS {xo yo : Operand} (a b : ByteArray) (Q : Value → St → Prop) : W (Cl.get (aBin E .eql t xo yo) (.string a) (.string b)) s Q = Q (.bool (a.data.toList == b.data.toList)) s :=
  W_run (bin_str (fun _ => rfl) rfl (by rw [← ByteArray.toList_eq, ← ByteArray.toList_eq]; rfl) fun _ => rfl)
theorem W_neS {xo yo : Operand} (a b : ByteArray) (Q : Value → St → Prop) : W (Cl.get (aBin E .neq t xo yo) (.string a) (.string b)) s Q = Q (.bool (!(a.data.toList == b.data.toList))) s :=
  W_run (bin_str (fun _ => rfl) rfl (by rw [← ByteArray.toList_eq, ← ByteArray.toList_eq]; rfl) fun _ => rfl)
theorem W_geS {xo yo : Operand} (a b : ByteArray) (Q : Value → St → Prop) : W (Cl.get (aBin E .geq t xo yo) (.string a) (.string b)) s Q = Q (.bool (!Op.bytesLess a.data.toList b.data.toList)) s :=
  W_run (bin_str (fun _ => rfl) rfl (by rw [← ByteArray.toList_eq, ← ByteArray.toList_eq]; rfl) fun _ => rfl)
theorem W_addS {xo yo : Operand} {a b : ByteArray} (h : a.size + b.size ≤ 9223372036854775807) (Q : Value → St → Prop) : W (Cl.get (aBin E .add t xo yo) (.string a) (.string b)) s Q = Q (.string (a ++ b)) s :=
  W_run (bin_str (fun _ => rfl) rfl (by
    show semP E.P (if ((a.size + b.size : Nat) : Int) > IntKind.i64.max then _ else _) = _
    rw [if_neg (by show ¬ ((a.size + b.size : Nat) : Int) > 9223372036854775807; omega)]
    rfl) fun _ => rfl)
theorem isStrT_inv (h : isStrT E t = true) : ∃ i, T.get E.ty t = some i ∧ i.u = .string := by
  unfold isStrT at h
  split at h
  · rename_i i hi
    split at h
    · rename_i hs
      exact ⟨i, hi, hs⟩
    · cases h
  · cases h
theorem W_lenS (h : isStrT E t = true) (a : ByteArray) (Q : Value → St → Prop) : W (aBuiltin E .len [t] [.string a]) s Q = Q (.int .i64 (a.size : Nat)) s := by
  obtain ⟨i, h1, h2⟩ := isStrT_inv h
  refine W_run ?_
  show aLen E t (.string a) s = _
  unfold aLen
  rw [bind_run (show ti E t s = .some i s by unfold ti; rw [h1]; rfl), h2]
  show pN a.size s = _
  unfold pN
  rw [fN_eq]
  rfl
theorem W_idxS {kd : IntKind} {k : Nat} {a : ByteArray} {b : UInt8} (h : isStrT E t = true) (hb : a.data.toList[k]? = some b) (Q : Value → St → Prop) : W (kIdx E t (.string a) (.int kd (k : Nat))) s Q = Q (.int .u8 (b.toNat : Nat)) s := by
  obtain ⟨i, h1, h2⟩ := isStrT_inv h
  refine W_run ?_
  unfold kIdx
  rw [bind_run (show ti E t s = .some i s by unfold ti; rw [h1]; rfl), bind_run (show asN (.int kd (k : Nat)) s = .some k s from rfl)]
  unfold idxV
  rw [h2]
  show M.on (a.data.toList[k]?) _ s = _
  rw [hb]
  rfl
theorem W_slS {a : ByteArray} {lo hi : Option Value} {l h : Nat} (ht : isStrT E t = true) (hlo : bndV lo 0 = some l) (hhi : bndV hi a.size = some h) (hl : l ≤ h) (hc : h ≤ a.size) (Q : Value → St → Prop) : W (aSlice E t (.string a) lo hi) s Q = Q (.string (a.extract l h)) s := by
  obtain ⟨i, h1, h2⟩ := isStrT_inv ht
  refine W_run ?_
  unfold aSlice
  rw [bind_run (show ti E t s = .some i s by unfold ti; rw [h1]; rfl), h2]
  show slStr a lo hi s = _
  unfold slStr
  rw [bind_run (bnd_run hhi hc), bind_run (bnd_run hlo hl)]
  rfl
end
end Go.Proofs.YtbmkpcjkadifhaaGreatDoor.Am
/- Reads of whatever; pointers against nil; structs, texts and slices among arguments of plain types. -/
namespace Go.Proofs.YtbmkpcjkadifhaaGreatDoor.Am
open Go.RowKit Go.ChangeShapes Go.WideShapes

theorem cellsOf_agg (l : List Value) : cellsOf (.agg l.toArray) = l := rfl
/-- Reads of whatever. -/
abbrev Any : Nat → Prop := fun _ => True
theorem Ext.any {F G : Nat → Prop} {s s1 : St} (h : Ext F G s s1) (hb : s.lim ≤ s.next) : Ext Any G s s1 := h.weak hb (fun _ _ _ => trivial) fun _ _ h => h
theorem Ext.then0 {F : Nat → Prop} {s s1 s2 : St} (h : Ext Any Non s s1) (k : Ext F Non s1 s2) (hb : s.lim ≤ s.next) : Ext Any Non s s2 := h.trans k hb (fun _ _ _ => trivial) fun _ _ h => h
theorem Ext.thenRd {s s1 : St} (h : Ext Any Non s s1) (hb : s.lim ≤ s.next) (l : Nat) : Ext Any Non s (s1.rdN l) := h.then0 (Ext.rdN (F := Any) s1 l fun _ => trivial) hb
/-- What lies behind the first state's end is turned. -/
theorem Ext.thenW {F : Nat → Prop} {s s1 s2 : St} {b o n : Nat} (h : Ext Any Non s s1) (k : Ext F (In b o n) s1 s2) (hb : s.lim ≤ s.next) (hn : s.next ≤ b) : Ext Any Non s s2 := h.trans k hb (fun _ _ _ => trivial) fun y hy hq => by
  have h1 := hq.1
  have h2 : y < s.next := hy
  omega
theorem Ext.cx' {F G : Nat → Prop} {s s1 : St} {c : Ctx} (x : Ext F G (s.cxN c) s1) : Ext F G s (s1.cxN s.cx) := ⟨x.nxt, x.lim, rfl, x.mem, x.rd, x.wr⟩
section
variable {E : Env} {t : Nat} {s : St} {xo yo : Operand}
theorem neSN {a : Addr} (h : ptrT E t = true) : Cl.get (aBin E .neq t xo yo) (.pointer (some a)) (.pointer none) s = .some (.bool true) s := by
  unfold ptrT at h
  split at h
  · rename_i i hi
    split at h
    · rename_i e hu
      show refEq E .neq t (.pointer (some a)) (.pointer none) s = _
      unfold refEq
      rw [bind_run (show ti E t s = .some i s by unfold ti; rw [hi]; rfl), hu]
      rfl
    · cases h
  · cases h
theorem W_neSN {a : Addr} (h : ptrT E t = true) (Q : Value → St → Prop) : W (Cl.get (aBin E .neq t xo yo) (.pointer (some a)) (.pointer none)) s Q = Q (.bool true) s := W_run (neSN h)
end
def fieldsB (P : Program) (t : TypeId) (l : List (TypeId × Nat)) : Bool := match P.underlying t with
  | some (.struct fs) => decide (fs.toList.map (fun x => (x.type, x.offset)) = l)
  | _ => false
theorem HoldsT.struct {P : Program} {N F : Nat} {s : St} {t : TypeId} {us : List Value} {l : List (TypeId × Nat)} (hb : fieldsB P t l = true) (h : HoldsT P N s (F + 1) t us) : us.length = P.cellsOf t ∧ ∀ x ∈ l, HoldsT P N s F x.1 ((us.drop x.2).take (P.cellsOf x.1)) := by
  unfold fieldsB at hb
  unfold HoldsT at h
  cases hu : P.underlying t with
  | none => rw [hu] at hb; cases hb
  | some u =>
    rw [hu] at hb h
    cases u <;> try (cases hb; done)
    have e := of_decide_eq_true hb
    refine ⟨h.1, fun x hx => ?_⟩
    rw [← e] at hx
    obtain ⟨y, hy, rfl⟩ := List.mem_map.1 hx
    exact h.2 y hy
theorem HoldsT.string' {P : Program} {N F : Nat} {s : St} {t : TypeId} {us : List Value} (hu : P.underlying t = some .string) (h : HoldsT P N s (F + 1) t us) : ∃ x : ByteArray, us = [.string x] := by
  unfold HoldsT at h
  rw [hu] at h
  obtain ⟨x, e, _⟩ := h
  exact ⟨x, e⟩
theorem HoldsT.slice' {P : Program} {N F : Nat} {s : St} {t e : TypeId} {us : List Value} (hu : P.underlying t = some (.slice e)) (h : HoldsT P N s (F + 1) t us) : ∃ p n c, us = [.slice p n c] := by
  unfold HoldsT at h
  rw [hu] at h
  rcases h with h | h | ⟨b, n, c, h, _⟩
  · exact ⟨_, _, _, h⟩
  · exact ⟨_, _, _, h⟩
  · exact ⟨_, _, _, h⟩
theorem HoldsT.int' {P : Program} {N F : Nat} {s : St} {t : TypeId} {k : IntKind} {us : List Value} (hu : P.underlying t = some (.int k)) (h : HoldsT P N s (F + 1) t us) : ∃ n, us = [.int k n] ∧ (Lit.int k n).wf = true := by
  unfold HoldsT at h
  rw [hu] at h
  exact h
theorem HoldsA.one {P : Program} {N F : Nat} {s : St} {t : TypeId} {u : Value} (hb : aggT P t = false) (h : HoldsA P N s F t u) : HoldsT P N s F t [u] := by
  obtain ⟨us, h1, ⟨h2, _⟩ | ⟨_, rfl⟩⟩ := h
  · rw [hb] at h2; cases h2
  · exact h1
theorem HoldsA.agg {P : Program} {N F : Nat} {s : St} {t : TypeId} {u : Value} (hb : aggT P t = true) (h : HoldsA P N s F t u) : ∃ us, u = .agg us.toArray ∧ HoldsT P N s F t us := by
  obtain ⟨us, h1, ⟨_, h2⟩ | ⟨h2, _⟩⟩ := h
  · exact ⟨us, h2, h1⟩
  · rw [hb] at h2; cases h2
end Go.Proofs.YtbmkpcjkadifhaaGreatDoor.Am
/- Arguments that read behind the call as before. -/
namespace Go.Proofs.YtbmkpcjkadifhaaGreatDoor.Am
open Go.RowKit Go.ChangeShapes

/-- A type's zero. -/
noncomputable def zeroT (P : Program) (t : Nat) : Value := ((P.info? t).bind (·.zero)).getD .nilFunc
section
variable {H : Type} {enc : TypeId × Value → H} {P : Program} {W W' : World}
/-- Arguments read behind the call as they did before it. -/
theorem below_all (hl : laidOutB P = true) (hb : Below W.heap.size W W') {sp : Nat → Bool} : ∀ {ts : List TypeId} {vs : List Value} {ds : List (DataW H)} {ps : List MemPlace}, (ts.all fun t => P.readableRec t && decide (t < P.types.size)) = true → DataW.TrodAll enc P W 0 (fun _ => true) true ts vs ds ps → (∀ x ∈ ps, x.block < W.heap.size) → (∀ x ∈ ps, sp x.block = true) →
    DataW.TrodAll enc P W' 0 sp true ts vs ds ps
  | [], _, _, _, _, h, _, _ => by
    obtain ⟨rfl, rfl, rfl⟩ := trodAll_nil h
    exact trodAll_mk0
  | t :: ts, _, _, _, hr, h, hlt, hsp => by
    obtain ⟨v, vs, d, ds, p, q, rfl, rfl, rfl, h1, h2⟩ := trodAll_cons h
    rw [List.all_cons, Bool.and_eq_true, Bool.and_eq_true] at hr
    refine ⟨p, q, WideElems.Trod_stays hl hr.1.1 (of_decide_eq_true hr.1.2) h1 (fun x hx => hb.same (hlt x (List.mem_append_left _ hx))) (fun x hx => hsp x (List.mem_append_left _ hx)), ?_, rfl⟩
    exact below_all hl hb hr.2 h2 (fun x hx => hlt x (List.mem_append_right _ hx)) (fun x hx => hsp x (List.mem_append_right _ hx))
end
end Go.Proofs.YtbmkpcjkadifhaaGreatDoor.Am
