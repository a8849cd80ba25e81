/- What an abstract state says of a world: values, memory, marks of spare room. -/
import Derived.Test.YtkgncjlgmnbfoaaGreatDoorAmTrie
import Derived.Laws.World
import Derived.Laws.Sem
import Derived.Laws.Cells
import Derived.Laws.NewBlocks
import Derived.Laws.IdiomCopy
import Derived.Below
namespace Go.Proofs.YtkgncjlgmnbfoaaGreatDoor.Am

/-- What a mark of spare room stands for: so many elements more, in this block, from this cell on, each of so many cells. -/
structure Tok where
  e : Nat
  b : Nat
  p : Nat
  sz : Nat

/-- The digits of a number, base 16, the last one first: what each cell of an element is. -/
def shapeL : Nat → Nat → List Nat
  | 0, _ => []
  | k + 1, n => if n = 0 then [] else n % 16 :: shapeL k (n / 16)
/-- What a cell is: an integer (its kind and 1), a truth value (9), a slice (10), a string (11), anything else (12). -/
def CellK (d : Nat) (v : Value) : Prop :=
  match d with
  | 9 => ∃ b, v = .bool b
  | 10 => ∃ p n c, v = .slice p n c
  | 11 => ∃ s, v = .string s
  | 12 => oneCell v = true
  | d => ∃ k n, v = .int k n ∧ kNum k + 1 = d
/-- A slice whose elements are there, each of these cells. -/
def SlG (v : Value) (sh : List Nat) (w : World) : Prop :=
  ∀ p n c, v = .slice p n c → n = 0 ∨ ∃ b o, p = some ⟨b, o, none⟩ ∧ b < w.heap.size ∧ n < 4611686018427387904 ∧ ∀ i j d, i < n → sh[j]? = some d → ∃ x, w.cell? ⟨b, o + i * sh.length + j, none⟩ = some x ∧ CellK d x
/-- Values that are named by numbers: 'n + 1024 * k' names a slice, in the first world, whose elements have the shape k. -/
structure Know where
  tv : Nat → Value
def Know.no : Know := ⟨fun _ => .nilFunc⟩
def Know.sure (K : Know) (w : World) : Prop := ∀ b, SlG (K.tv b) (shapeL 40 (b / 1024)) w
theorem Know.no_sure (w : World) : Know.no.sure w := fun b p n c e => by cases e
/-- Where abstract blocks lie: a block, and how far behind its first cell; what the marks stand for. -/
structure Inj where
  blk : Nat → Option (Nat × Nat)
  ext : Nat → Option Tok
  known : Know
def Inj.nil (K : Know) : Inj := ⟨fun _ => none, fun _ => none, K⟩

structure Inj.le (r r' : Inj) : Prop where
  one : ∀ b x, r.blk b = some x → r'.blk b = some x
  two : ∀ t x, r.ext t = some x → r'.ext t = some x
  three : r'.known = r.known
theorem Inj.le_refl (r : Inj) : r.le r := ⟨fun _ _ h => h, fun _ _ h => h, rfl⟩
theorem Inj.le_trans {a b c : Inj} (h : a.le b) (k : b.le c) : a.le c := ⟨fun x y e => k.1 x y (h.1 x y e), fun x y e => k.2 x y (h.2 x y e), k.3.trans h.3⟩

def CapR (r : Inj) (b' o c c' : Nat) : Prop :=
  (c / capU = 0 ∧ c' = c) ∨ (c / capU ≠ 0 ∧ ∃ k, r.ext (c / capU / 1024) = some k ∧ k.sz = c / capU % 1024 ∧ c' = c % capU + k.e ∧ k.b = b' ∧ o + (c % capU) * k.sz = k.p)

def FnR (r : Inj) : Fn → Fn → Prop
  | .yield l, .yield l' => ∃ d, r.blk l = some (l', d)
  | .func f, .func f' => f = f'
  | _, _ => False

/-- What a value that is not known may be. -/
def TopR (K : Know) : Nat → Nat → Value → Prop
  | 0, _, v => oneCell v = true
  | 1, b, v => ∃ k n, v = .int k n ∧ kNum k = b
  | 2, _, v => ∃ b, v = .bool b
  | 3, _, v => ∃ p n c, v = .slice p n c
  | 4, _, v => ∃ s, v = .string s
  | 5, b, v => v = K.tv b ∧ ∃ p n c, v = .slice p n c
  | _, _, _ => False
theorem TopR.one {K : Know} {t b : Nat} {v : Value} (h : TopR K t b v) : oneCell v = true := by
  match t, h with
  | 0, h => exact h
  | 1, ⟨k, n, e, _⟩ => subst e; rfl
  | 2, ⟨b, e⟩ => subst e; rfl
  | 3, ⟨p, n, c, e⟩ => subst e; rfl
  | 4, ⟨s, e⟩ => subst e; rfl
  | 5, ⟨_, p, n, c, e⟩ => subst e; rfl
  | _ + 6, h => exact h.elim

inductive VR (r : Inj) : Value → Value → Prop
  | bool (b : Bool) : VR r (.bool b) (.bool b)
  | int (k : IntKind) (n : Int) : VR r (.int k n) (.int k n)
  | float (k : FloatKind) (n : Nat) : VR r (.float k n) (.float k n)
  | complex {k : FloatKind} {a b : Nat} {v' : Value} : TopR r.known a b v' → VR r (.complex k a b) v'
  | string (s : ByteArray) : VR r (.string s) (.string s)
  | ptrNil : VR r (.pointer none) (.pointer none)
  | ptr {b o b' d : Nat} : r.blk b = some (b', d) → VR r (.pointer (some ⟨b, o, none⟩)) (.pointer (some ⟨b', o + d, none⟩))
  | slNil : VR r (.slice none 0 0) (.slice none 0 0)
  | sl {b o b' d l c c' : Nat} : r.blk b = some (b', d) → CapR r b' (o + d) c c' → l ≤ c % capU → VR r (.slice (some ⟨b, o, none⟩) l c) (.slice (some ⟨b', o + d, none⟩) l c')
  | slEnd {a a' : Addr} {c c' : Nat} : c / capU ≠ 0 → c % capU = 0 → VR r (.slice (some a) 0 c) (.slice (some a') 0 c')
  | mapNil : VR r (.map none) (.map none)
  | map {m m' d : Nat} : r.blk m = some (m', d) → VR r (.map (some m)) (.map (some m'))
  | chanNil : VR r (.chan none) (.chan none)
  | iter {b b' : Nat} : r.blk b = some (b', 0) → VR r (.chan (some b)) (.pointer (some ⟨b', 0, none⟩))
  | func {f f' : Fn} {a a' c c' : Array Value} : FnR r f f' → a.size = a'.size → (∀ (i : Nat) v v', a[i]? = some v → a'[i]? = some v' → VR r v v') →
      c.size = c'.size → (∀ (i : Nat) v v', c[i]? = some v → c'[i]? = some v' → VR r v v') → VR r (.func f a c) (.func f' a' c')
  | nilFunc : VR r .nilFunc .nilFunc
  | iface {t : TypeId} {v v' : Value} : VR r v v' → VR r (.iface t v) (.iface t v')
  | nilIface : VR r .nilIface .nilIface
  | agg {c c' : Array Value} : c.size = c'.size → (∀ (i : Nat) v v', c[i]? = some v → c'[i]? = some v' → VR r v v') → VR r (.agg c) (.agg c')
  | tuple {c c' : Array Value} : c.size = c'.size → (∀ (i : Nat) v v', c[i]? = some v → c'[i]? = some v' → VR r v v') → VR r (.tuple c) (.tuple c')

theorem CapR.mono {r r' : Inj} (h : r.le r') {b o c c' : Nat} (k : CapR r b o c c') : CapR r' b o c c' := by
  rcases k with k | ⟨h1, k, h2, h3⟩
  · exact .inl k
  · exact .inr ⟨h1, k, h.2 _ _ h2, h3⟩
theorem FnR.mono {r r' : Inj} (h : r.le r') {f f' : Fn} (k : FnR r f f') : FnR r' f f' := by
  cases f <;> cases f' <;> simp only [FnR] at k ⊢
  · exact k
  · obtain ⟨d, k⟩ := k
    exact ⟨d, h.1 _ _ k⟩
theorem VR.mono {r r' : Inj} (h : r.le r') {v v' : Value} (k : VR r v v') : VR r' v v' := by
  induction k with
  | bool b => exact .bool b
  | int k n => exact .int k n
  | float k n => exact .float k n
  | complex e => exact .complex (by rw [h.3]; exact e)
  | string s => exact .string s
  | ptrNil => exact .ptrNil
  | ptr e => exact .ptr (h.1 _ _ e)
  | slNil => exact .slNil
  | sl e c l => exact .sl (h.1 _ _ e) (c.mono h) l
  | slEnd a b => exact .slEnd a b
  | mapNil => exact .mapNil
  | map e => exact .map (h.1 _ _ e)
  | chanNil => exact .chanNil
  | iter e => exact .iter (h.1 _ _ e)
  | func f a _ c _ i1 i2 => exact .func (f.mono h) a i1 c i2
  | nilFunc => exact .nilFunc
  | iface _ i => exact .iface i
  | nilIface => exact .nilIface
  | agg a _ i => exact .agg a i
  | tuple a _ i => exact .tuple a i

/-- Lists of values, one by one. -/
def VRs (r : Inj) (l l' : List Value) : Prop := l.length = l'.length ∧ ∀ (i : Nat) v v', l[i]? = some v → l'[i]? = some v' → VR r v v'
theorem VRs.nil {r : Inj} : VRs r [] [] := ⟨rfl, fun i v v' h => by simp at h⟩
theorem VRs.cons {r : Inj} {v v' : Value} {l l' : List Value} (h : VR r v v') (k : VRs r l l') : VRs r (v :: l) (v' :: l') :=
  ⟨by simp [k.1], fun i a a' e e' => by
    cases i with
    | zero => simp at e e'; subst e; subst e'; exact h
    | succ i => simp at e e'; exact k.2 i a a' e e'⟩
theorem VRs.inv {r : Inj} {v : Value} {l m : List Value} (h : VRs r (v :: l) m) : ∃ v' l', m = v' :: l' ∧ VR r v v' ∧ VRs r l l' := by
  cases m with
  | nil => have := h.1; simp at this
  | cons v' l' => exact ⟨v', l', rfl, h.2 0 v v' rfl rfl, by simpa using h.1, fun i a a' e e' => h.2 (i + 1) a a' (by simpa using e) (by simpa using e')⟩
theorem VRs.inv_nil {r : Inj} {m : List Value} (h : VRs r [] m) : m = [] := List.eq_nil_of_length_eq_zero h.1.symm
theorem VRs.mono {r r' : Inj} (h : r.le r') {l l' : List Value} (k : VRs r l l') : VRs r' l l' := ⟨k.1, fun i v v' e e' => (k.2 i v v' e e').mono h⟩
theorem VRs.append {r : Inj} {a a' b b' : List Value} (h : VRs r a a') (k : VRs r b b') : VRs r (a ++ b) (a' ++ b') :=
  ⟨by simp [h.1, k.1], fun i v v' e e' => by
    by_cases hi : i < a.length
    · rw [List.getElem?_append_left hi] at e
      rw [List.getElem?_append_left (by rw [← h.1]; exact hi)] at e'
      exact h.2 i v v' e e'
    · rw [List.getElem?_append_right (by omega)] at e
      rw [List.getElem?_append_right (by rw [← h.1]; omega), ← h.1] at e'
      exact k.2 _ v v' e e'⟩
theorem VRs.take {r : Inj} {a a' : List Value} (h : VRs r a a') (n : Nat) : VRs r (a.take n) (a'.take n) :=
  ⟨by simp [h.1], fun i v v' e e' => by
    rw [List.getElem?_take] at e e'
    by_cases hi : i < n
    · rw [if_pos hi] at e e'
      exact h.2 i v v' e e'
    · rw [if_neg hi] at e
      cases e⟩
theorem VRs.drop {r : Inj} {a a' : List Value} (h : VRs r a a') (n : Nat) : VRs r (a.drop n) (a'.drop n) :=
  ⟨by simp [h.1], fun i v v' e e' => by
    rw [List.getElem?_drop] at e e'
    exact h.2 _ v v' e e'⟩
theorem VRs.get {r : Inj} {a a' : List Value} (h : VRs r a a') {i : Nat} {v : Value} (e : a[i]? = some v) : ∃ v', a'[i]? = some v' ∧ VR r v v' := by
  have hi : i < a.length := (List.getElem?_eq_some_iff.1 e).1
  have hi' : i < a'.length := by rw [← h.1]; exact hi
  exact ⟨a'[i], List.getElem?_eq_getElem hi', h.2 i v _ e (List.getElem?_eq_getElem hi')⟩
theorem VRs.ofArr {r : Inj} {c c' : Array Value} (h : c.size = c'.size) (k : ∀ (i : Nat) v v', c[i]? = some v → c'[i]? = some v' → VR r v v') : VRs r c.toList c'.toList :=
  ⟨by simpa using h, fun i v v' e e' => k i v v' (by simpa using e) (by simpa using e')⟩
theorem VRs.agg {r : Inj} {l l' : List Value} (h : VRs r l l') : VR r (.agg l.toArray) (.agg l'.toArray) := .agg (by simpa using h.1) fun i v v' e e' => h.2 i v v' (by simpa using e) (by simpa using e')
theorem VRs.tuple {r : Inj} {l l' : List Value} (h : VRs r l l') : VR r (.tuple l.toArray) (.tuple l'.toArray) := .tuple (by simpa using h.1) fun i v v' e e' => h.2 i v v' (by simpa using e) (by simpa using e')
theorem VR.undef {r : Inj} : VR r undef undef := .tuple rfl (fun i v v' e => by simp at e)

theorem plain_all {n : Nat} {c : Array Value} (h : c.toList.all (plainD n) = true) : ∀ x ∈ c, plainD n x = true := fun x hx => List.all_eq_true.1 h x (by simpa using hx)
/-- What has no address in it reads as it stands. -/
theorem VR.ofPlain {r : Inj} : ∀ (n : Nat) (v : Value), plainD n v = true → VR r v v
  | _, .bool b, _ => .bool b
  | _, .int k n, _ => .int k n
  | _, .float k n, _ => .float k n
  | n, .complex k a b, h => by cases n <;> simp [plainD] at h
  | _, .string s, _ => .string s
  | _, .pointer none, _ => .ptrNil
  | n, .pointer (some a), h => by cases n <;> simp [plainD] at h
  | n, .slice a l c, h => by
    cases a with
    | some a => cases n <;> simp [plainD] at h
    | none =>
      have : l = 0 ∧ c = 0 := by
        cases l <;> cases c <;> cases n <;> simp [plainD] at h ⊢
      obtain ⟨rfl, rfl⟩ := this
      exact .slNil
  | _, .map none, _ => .mapNil
  | n, .map (some a), h => by cases n <;> simp [plainD] at h
  | _, .chan none, _ => .chanNil
  | n, .chan (some a), h => by cases n <;> simp [plainD] at h
  | n, .func f a c, h => by
    have : (∃ g, f = .func g) ∧ a = #[] ∧ c = #[] := by
      cases f <;> cases n <;> simp [plainD] at h ⊢ <;> exact h
    obtain ⟨⟨g, rfl⟩, rfl, rfl⟩ := this
    exact .func rfl rfl (fun i v v' e => by simp at e) rfl (fun i v v' e => by simp at e)
  | _, .nilFunc, _ => .nilFunc
  | n + 1, .iface t v, h => .iface (VR.ofPlain n v (by simpa [plainD] using h))
  | 0, .iface t v, h => by simp [plainD] at h
  | _, .nilIface, _ => .nilIface
  | n + 1, .agg c, h => .agg rfl fun i v v' e e' => by
    have h1 : ∀ x ∈ c, plainD n x = true := plain_all h
    rw [e] at e'
    cases e'
    exact VR.ofPlain n v (h1 v (Array.mem_of_getElem? e))
  | 0, .agg c, h => by simp [plainD] at h
  | n + 1, .tuple c, h => .tuple rfl fun i v v' e e' => by
    have h1 : ∀ x ∈ c, plainD n x = true := plain_all h
    rw [e] at e'
    cases e'
    exact VR.ofPlain n v (h1 v (Array.mem_of_getElem? e))
  | 0, .tuple c, h => by simp [plainD] at h
theorem arr_ext_of {_r : Inj} {c c' : Array Value} (h : c.size = c'.size) (k : ∀ (i : Nat) v v', c[i]? = some v → c'[i]? = some v' → v' = v) : c' = c := by
  apply Array.ext h.symm
  intro i h1 h2
  exact k i _ _ (Array.getElem?_eq_getElem h2) (Array.getElem?_eq_getElem h1)
/-- .. and is the same on both sides. -/
theorem VR.plain_eq {r : Inj} {v v' : Value} (h : VR r v v') : ∀ n, plainD n v = true → v' = v := by
  induction h with
  | complex e => intro n h; cases n <;> simp [plainD] at h
  | bool | int | float | string | ptrNil | slNil | mapNil | chanNil | nilFunc | nilIface => exact fun _ _ => rfl
  | ptr e => intro n h; cases n <;> simp [plainD] at h
  | sl e c l => intro n h; cases n <;> simp [plainD] at h
  | slEnd => intro n h; cases n <;> simp [plainD] at h
  | iter e => intro n h; cases n <;> simp [plainD] at h
  | map e => intro n h; cases n <;> simp [plainD] at h
  | @func f f' a a' c c' hf h1 _ h2 _ _ _ =>
    intro n h
    have : (∃ g, f = .func g) ∧ a = #[] ∧ c = #[] := by
      cases f <;> cases n <;> simp [plainD] at h ⊢ <;> exact h
    obtain ⟨⟨g, rfl⟩, rfl, rfl⟩ := this
    cases f' <;> simp [FnR] at hf
    subst hf
    have e1 : a' = #[] := by simpa using h1.symm
    have e2 : c' = #[] := by simpa using h2.symm
    rw [e1, e2]
  | iface _ ih =>
    intro n h
    cases n with
    | zero => simp [plainD] at h
    | succ n => rw [ih n (by simpa [plainD] using h)]
  | @agg c c' hs _ ih =>
    intro n h
    cases n with
    | zero => simp [plainD] at h
    | succ n =>
      have h1 : ∀ x ∈ c, plainD n x = true := plain_all h
      rw [arr_ext_of (_r := r) hs fun i v v' e e' => ih i v v' e e' n (h1 v (Array.mem_of_getElem? e))]
  | @tuple c c' hs _ ih =>
    intro n h
    cases n with
    | zero => simp [plainD] at h
    | succ n =>
      have h1 : ∀ x ∈ c, plainD n x = true := plain_all h
      rw [arr_ext_of (_r := r) hs fun i v v' e e' => ih i v v' e e' n (h1 v (Array.mem_of_getElem? e))]
theorem VR.of_plain {r : Inj} {v : Value} (h : plain v = true) : VR r v v := VR.ofPlain 4 v h
theorem VR.eq_of_plain {r : Inj} {v v' : Value} (k : VR r v v') (h : plain v = true) : v' = v := k.plain_eq 4 h
end Go.Proofs.YtkgncjlgmnbfoaaGreatDoor.Am
