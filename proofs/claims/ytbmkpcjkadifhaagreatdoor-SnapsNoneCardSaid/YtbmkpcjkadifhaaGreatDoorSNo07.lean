/- Runs of the evaluator said of all states: operations on memory, on rows, on numbers. -/
import Derived.Test.YtbmkpcjkadifhaaGreatDoorSNo06
import GoSem.ClaimWide
import Derived.ChangeShapes
import Derived.ChangeSlices
import Derived.WideShapes
import Derived.OpenShut
namespace Go.Proofs.YtbmkpcjkadifhaaGreatDoor.Am

/-! ### Types, as far as operations ask -/
noncomputable def tyS (E : Env) (t : Nat) : Option (Nat × Bool) := match T.get E.ty t with | some i => some (i.size, i.agg) | none => none
noncomputable def slN (E : Env) (t : Nat) : Option Nat := match T.get E.ty t with
  | some i => (match i.u with | .slice e => (match T.get E.ty e with | some ie => some ie.size | none => none) | _ => none)
  | none => none
noncomputable def arrN (E : Env) (t : Nat) : Option (Nat × Nat) := match T.get E.ty t with
  | some i => (match i.u with | .array n e => (match T.get E.ty e with | some ie => some (n, ie.size) | none => none) | _ => none)
  | none => none
noncomputable def fldN (E : Env) (t f : Nat) : Option (Nat × Nat × Bool) := match T.get E.ty t with
  | some i => (match i.u with | .struct fs => (match fs.toList[f]? with | some fd => (match T.get E.ty fd.type with | some fi => some (fd.offset, fi.size, fi.agg) | none => none) | none => none) | _ => none)
  | none => none
noncomputable def zeroL (E : Env) (t : Nat) : Option (List Value) := match T.get E.ty t with | some i => some i.zero | none => none
noncomputable def intK (E : Env) (t : Nat) : Option IntKind := match T.get E.ty t with | some i => (match i.u with | .int k => some k | _ => none) | none => none
noncomputable def hasT (E : Env) (t : Nat) : Bool := (T.get E.ty t).isSome

section
variable {α β : Type} {s : St} {E : Env} {t : Nat}
theorem tyS_inv {n : Nat} {g : Bool} (h : tyS E t = some (n, g)) : ∃ i, T.get E.ty t = some i ∧ i.size = n ∧ i.agg = g := by
  unfold tyS at h
  split at h
  · rename_i i e
    cases h
    exact ⟨i, e, rfl, rfl⟩
  · cases h
theorem slN_inv {n : Nat} (h : slN E t = some n) : ∃ i e ie, T.get E.ty t = some i ∧ i.u = .slice e ∧ T.get E.ty e = some ie ∧ ie.size = n := by
  unfold slN at h
  split at h
  · rename_i i e
    split at h
    · rename_i e2 q
      split at h
      · rename_i ie q2
        cases h
        exact ⟨i, e2, ie, e, q, q2, rfl⟩
      · cases h
    · cases h
  · cases h
theorem arrN_inv {n m : Nat} (h : arrN E t = some (n, m)) : ∃ i e ie, T.get E.ty t = some i ∧ i.u = .array n e ∧ T.get E.ty e = some ie ∧ ie.size = m := by
  unfold arrN at h
  split at h
  · rename_i i e
    split at h
    · rename_i n2 e2 q
      split at h
      · rename_i ie q2
        cases h
        exact ⟨i, e2, ie, e, q, q2, rfl⟩
      · cases h
    · cases h
  · cases h
theorem fldN_inv {f off sz : Nat} {g : Bool} (h : fldN E t f = some (off, sz, g)) : ∃ i fs fd fi, T.get E.ty t = some i ∧ i.u = .struct fs ∧ fs.toList[f]? = some fd ∧ T.get E.ty fd.type = some fi ∧ fd.offset = off ∧ fi.size = sz ∧ fi.agg = g := by
  unfold fldN at h
  split at h
  · rename_i i e
    split at h
    · rename_i fs q
      split at h
      · rename_i fd q2
        split at h
        · rename_i fi q3
          cases h
          exact ⟨i, fs, fd, fi, e, q, q2, q3, rfl, rfl, rfl⟩
        · cases h
      · cases h
    · cases h
  · cases h
theorem W.ti {i : TI} {Q : TI → St → Prop} (h : T.get E.ty t = some i) (q : Q i s) : W (ti E t) s Q := W.ofOpt h q
theorem W_ti {i : TI} (h : T.get E.ty t = some i) (Q : TI → St → Prop) : W (ti E t) s Q = Q i s := W_run (by unfold ti; rw [h]; rfl)

/-! ### Loads and stores -/
theorem W.load1 {b o : Nat} {v : Value} {Q : Value → St → Prop} (ht : tyS E t = some (1, false)) (h : At s b o v) (q : Q v (s.rdN (b + o))) : W (kLoad E t (.pointer (some ⟨b, o, none⟩))) s Q := by
  obtain ⟨i, h1, h2, h3⟩ := tyS_inv ht
  refine W.bind (W.pure (W.bind (W.ti h1 ?_)))
  show W (M.if i.agg _ _) s Q
  rw [h3]
  exact W.rdV h q
theorem W.loadA {b o n : Nat} {l : List Value} {Q : Value → St → Prop} (ht : tyS E t = some (n, true)) (h : Row s b o l) (hl : l.length = n)
    (q : ∀ s1, s1.mem = s.mem → s1.next = s.next → Ext (In b o n) Non s s1 → Q (.agg l.toArray) s1) : W (kLoad E t (.pointer (some ⟨b, o, none⟩))) s Q := by
  obtain ⟨i, h1, h2, h3⟩ := tyS_inv ht
  subst hl
  refine W.bind (W.pure (W.bind (W.ti h1 ?_)))
  show W (M.if i.agg (M.bind (Am.rdL i.size ⟨b, o, none⟩) fun l => M.pure (Value.agg l.toArray)) _) s Q
  rw [h3, h2]
  exact W.bind (W.rdL h fun s1 e1 e2 e3 => W.pure (q s1 e1 e2 e3))
theorem cells_one {v : Value} (h : oneCell v = true) : cellsOf v = [v] := by cases v <;> simp [oneCell] at h <;> rfl
theorem W.store {b o n : Nat} {g : Bool} {v : Value} {Q : Value → St → Prop} (ht : tyS E t = some (n, g)) (hl : (cellsOf v).length = n) (h1 : (cellsOf v).all oneCell = true) (h : ∀ i, i < n → ∃ u, Own s b (o + i) u)
    (q : ∀ s1, s1.next = s.next → Ext (In b o n) (In b o n) s s1 → OwnRow s1 b o (cellsOf v) → Q undef s1) : W (kStore E t (.pointer (some ⟨b, o, none⟩)) v) s Q := by
  obtain ⟨i, g1, g2, g3⟩ := tyS_inv ht
  subst hl
  refine W.bind (W.pure (W.bind (W.bind (W.ti g1 (W.chk ?_ (W.wrL h h1 fun s1 e1 e2 e3 => W.pure (q s1 e1 e2 e3)))))))
  rw [g2]
  exact Nat.beq_refl _
theorem W.store1 {b o : Nat} {g : Bool} {u v : Value} {Q : Value → St → Prop} (ht : tyS E t = some (1, g)) (hv : oneCell v = true) (h : Own s b o u)
    (q : ∀ s1, s1.next = s.next → Ext (In b o 1) (In b o 1) s s1 → Own s1 b o v → Q undef s1) : W (kStore E t (.pointer (some ⟨b, o, none⟩)) v) s Q := by
  refine W.store ht (by rw [cells_one hv]; rfl) (by rw [cells_one hv]; simp [hv]) (fun i hi => ⟨u, by rw [show o + i = o by omega]; exact h⟩) fun s1 e1 e2 e3 => q s1 e1 e2 ?_
  have := e3 0 v (by rw [cells_one hv]; rfl)
  exact this
theorem W.alloc {z : List Value} {Q : Value → St → Prop} (ht : zeroL E t = some z) (q : ∀ s1, s1.next = s.next + z.length + 1 → Ext Non Non s s1 → OwnRow s1 s.next 0 z → Q (.pointer (some ⟨s.next, 0, none⟩)) s1) : W (kAlloc E t) s Q := by
  unfold zeroL at ht
  split at ht
  · rename_i i e
    cases ht
    exact W.bind (W.ti e (W.bind (W.newL fun s1 e1 e2 e3 => W.pure (q s1 e1 e2 e3))))
  · cases ht
theorem W.box {v : Value} {Q : Value → St → Prop} (q : ∀ s1, s1.next = s.next + (cellsOf v).length + 1 → Ext Non Non s s1 → OwnRow s1 s.next 0 (cellsOf v) → Q (.pointer (some ⟨s.next, 0, none⟩)) s1) : W (kBox v) s Q :=
  W.bind (W.newL fun s1 e1 e2 e3 => W.pure (q s1 e1 e2 e3))
theorem W_fld {f off sz b o : Nat} {g : Bool} (h : fldN E t f = some (off, sz, g)) (h0 : 0 < sz) (Q : Value → St → Prop) : W (kFld E t (.pointer (some ⟨b, o, none⟩)) f) s Q = Q (.pointer (some ⟨b, o + off, none⟩)) s := by
  obtain ⟨i, fs, fd, fi, h1, h2, h3, h4, h5, h6, h7⟩ := fldN_inv h
  subst h5; subst h6
  refine W_run ?_
  unfold kFld
  rw [bind_run (show ti E t s = .some i s by unfold ti; rw [h1]; rfl), bind_run (show asA (.pointer (some ⟨b, o, none⟩)) s = .some ⟨b, o, none⟩ s from rfl)]
  rw [bind_run (show fldOf E i.u f s = .some (fd.offset, fi, fd.type) s by unfold fldOf; rw [h2]; simp only [h3]; exact bind_run (show ti E fd.type s = .some fi s by unfold ti; rw [h4]; rfl))]
  show M.chk (Nat.blt 0 fi.size) (ptrA (addA ⟨b, o, none⟩ fd.offset)) s = _
  rw [blt_t h0]
  show ptrA ⟨b, o + fd.offset, none⟩ s = _
  unfold ptrA
  rw [fA_eq]
  rfl
theorem partV_run {n : Nat} {ty : Nat} {g : Bool} {cs : List Value} {off : Nat} {v : Value} (h : tyS E ty = some (n, g)) (hv : (g = false ∧ cs[off]? = some v) ∨ (g = true ∧ v = .agg ((cs.drop off).take n).toArray)) : partV E ty cs off s = .some v s := by
  obtain ⟨i, h1, h2, h3⟩ := tyS_inv h
  subst h2; subst h3
  unfold partV
  rw [bind_run (show ti E ty s = .some i s by unfold ti; rw [h1]; rfl)]
  rcases hv with ⟨e, hv⟩ | ⟨e, hv⟩
  · rw [e]
    show M.ofOpt (cs[off]?) s = _
    rw [hv]
    rfl
  · rw [e, hv]
    rfl
theorem W_field {f off sz : Nat} {g : Bool} {cs : Array Value} {v : Value} (h : fldN E t f = some (off, sz, g)) (hv : (g = false ∧ cs.toList[off]? = some v) ∨ (g = true ∧ v = .agg ((cs.toList.drop off).take sz).toArray)) (Q : Value → St → Prop) : W (kField E t (.agg cs) f) s Q = Q v s := by
  obtain ⟨i, fs, fd, fi, h1, h2, h3, h4, h5, h6, h7⟩ := fldN_inv h
  subst h5
  refine W_run ?_
  unfold kField
  rw [bind_run (show ti E t s = .some i s by unfold ti; rw [h1]; rfl), bind_run (show asCs (.agg cs) s = .some cs.toList s from rfl)]
  rw [bind_run (show fldOf E i.u f s = .some (fd.offset, fi, fd.type) s by unfold fldOf; rw [h2]; simp only [h3]; exact bind_run (show ti E fd.type s = .some fi s by unfold ti; rw [h4]; rfl))]
  exact partV_run (by unfold tyS; rw [h4]; simp [h6, h7]) hv
theorem W_idxSl {sz b o n c k : Nat} {kd : IntKind} (h : slN E t = some sz) (hk : k < n) (Q : Value → St → Prop) : W (kIdxA E t (.slice (some ⟨b, o, none⟩) n c) (.int kd (k : Nat))) s Q = Q (.pointer (some ⟨b, o + k * sz, none⟩)) s := by
  obtain ⟨i, e, ie, h1, h2, h3, h4⟩ := slN_inv h
  subst h4
  refine W_run ?_
  unfold kIdxA
  rw [bind_run (show ti E t s = .some i s by unfold ti; rw [h1]; rfl), bind_run (show asN (.int kd (k : Nat)) s = .some k s from rfl)]
  unfold idxN
  rw [h2]
  simp only
  rw [bind_run (show ti E e s = .some ie s by unfold ti; rw [h3]; rfl)]
  rw [blt_t hk]
  show ptrA ⟨b, o + k * ie.size, none⟩ s = _
  unfold ptrA
  rw [fA_eq]
  rfl
theorem W_idxArr {n sz b o k : Nat} {kd : IntKind} (h : arrN E t = some (n, sz)) (hk : k < n) (Q : Value → St → Prop) : W (kIdxA E t (.pointer (some ⟨b, o, none⟩)) (.int kd (k : Nat))) s Q = Q (.pointer (some ⟨b, o + k * sz, none⟩)) s := by
  obtain ⟨i, e, ie, h1, h2, h3, h4⟩ := arrN_inv h
  subst h4
  refine W_run ?_
  unfold kIdxA
  rw [bind_run (show ti E t s = .some i s by unfold ti; rw [h1]; rfl), bind_run (show asN (.int kd (k : Nat)) s = .some k s from rfl)]
  unfold idxN
  rw [h2]
  simp only
  rw [bind_run (show ti E e s = .some ie s by unfold ti; rw [h3]; rfl)]
  rw [blt_t hk]
  show ptrA ⟨b, o + k * ie.size, none⟩ s = _
  unfold ptrA
  rw [fA_eq]
  rfl
theorem W_nil (a : Addr) (Q : Value → St → Prop) : W (kNil (.pointer (some a))) s Q = Q (.pointer (some a)) s := W_run rfl
theorem W_lenSl {sz n c : Nat} {p : Option Addr} (h : slN E t = some sz) (Q : Value → St → Prop) : W (aBuiltin E .len [t] [.slice p n c]) s Q = Q (.int .i64 (n : Nat)) s := by
  obtain ⟨i, e, ie, h1, h2, h3, h4⟩ := slN_inv h
  refine W_run ?_
  show aLen E t (.slice p n c) s = _
  unfold aLen
  rw [bind_run (show ti E t s = .some i s by unfold ti; rw [h1]; rfl)]
  rw [h2]
  show pN n s = _
  unfold pN
  rw [fN_eq]
  rfl
theorem W_conv {d : Nat} {k k' : IntKind} {n : Int} (h1 : hasT E t = true) (h2 : intK E d = some k') (Q : Value → St → Prop) : W (kConvB E t d (.int k n)) s Q = Q (.int k' (k'.wrap n)) s := by
  refine W_run ?_
  show convI E t d k n s = _
  unfold hasT at h1
  obtain ⟨i, hi⟩ := Option.isSome_iff_exists.1 h1
  unfold intK at h2
  split at h2
  · rename_i id hd
    split at h2
    · rename_i k2 hu
      cases h2
      unfold convI
      rw [bind_run (show ti E t s = .some i s by unfold ti; rw [hi]; rfl), bind_run (show ti E d s = .some id s by unfold ti; rw [hd]; rfl)]
      simp only [hu]
      show fI (wrapF k' n) (fun n => M.pure (Value.int k' n)) s = _
      rw [fI_eq, wrapF_eq]
      rfl
    · cases h2
  · cases h2
theorem W_ext {k : Nat} {vs : Array Value} {v : Value} (h : vs.toList[k]? = some v) (Q : Value → St → Prop) : W (kExt k (.tuple vs)) s Q = Q v s := W_run (by show M.ofOpt (vs.toList[k]?) s = _; rw [h]; rfl)
theorem W_callV {call round : CallT} {f : Nat} {l : List Value} (Q : Value → St → Prop) : W (callV call round (.func (.func f) #[] #[]) l) s Q = W (call f l) s Q := by
  show W (call f ([] ++ (l ++ []))) s Q = _
  rw [List.append_nil, List.nil_append]
theorem W.orc {ih : AF → M (Value × FrameMode)} {f : Nat} {m : List Value → M Value} {args : List Value} {Q : Value → St → Prop} (ho : E.orc.get f = some m) (h : W (m args) s Q) : W (callW E ih f args) s Q := by
  unfold callW
  rw [ho]
  exact h
theorem St.cxN_cxN (s : St) (c : Ctx) : (s.cxN c).cxN s.cx = s := rfl
theorem rdN_cxN (s : St) (l : Nat) (c : Ctx) : (s.cxN c).rdN l = (s.rdN l).cxN c := rfl
end
end Go.Proofs.YtbmkpcjkadifhaaGreatDoor.Am
/- Runs of the evaluator said of all states: rows of bytes, texts. -/
namespace Go.Proofs.YtbmkpcjkadifhaaGreatDoor.Am

section
variable {α β : Type} {s : St} {E : Env} {t : Nat}
/-- A byte. -/
abbrev u8 (n : Nat) : Value := .int .u8 (n : Int)
abbrev u8l (l : List Nat) : List Value := l.map fun n : Nat => Value.int .u8 (n : Int)
theorem u8l_length (l : List Nat) : (u8l l).length = l.length := by simp
/-- A slice that reads as these bytes. -/
def Bs (s : St) (v : Value) (l : List Nat) : Prop :=
  (v = .slice none 0 0 ∧ l = []) ∨ ∃ b o c, v = .slice (some ⟨b, o, none⟩) l.length c ∧ l.length ≤ c % capU ∧ sizeOk c 1 = true ∧ Row s b o (u8l l)
/-- Where it lies. -/
def BsF (v : Value) : Nat → Prop := match v with
  | .slice (some ⟨b, o, _⟩) n _ => In b o n
  | _ => Non
theorem Bs.ext {F G : Nat → Prop} {s s' : St} {v : Value} {l : List Nat} (h : Bs s v l) (e : Ext F G s s') (hG : ∀ x, BsF v x → ¬ G x) : Bs s' v l := by
  rcases h with h | ⟨b, o, c, rfl, h1, h2, h3⟩
  · exact .inl h
  · refine .inr ⟨b, o, c, rfl, h1, h2, h3.ext e fun i hi => hG _ ?_⟩
    rw [u8l_length] at hi
    exact ⟨by omega, by omega⟩
theorem Bs.ext0 {F : Nat → Prop} {s s' : St} {v : Value} {l : List Nat} (h : Bs s v l) (e : Ext F Non s s') : Bs s' v l := h.ext e fun _ _ => id
theorem Bs.same {s s' : St} {v : Value} {l : List Nat} (h : Bs s v l) (hm : s'.mem = s.mem) (hn : s'.next = s.next) : Bs s' v l := by
  rcases h with h | ⟨b, o, c, h0, h1, h2, h3⟩
  · exact .inl h
  · exact .inr ⟨b, o, c, h0, h1, h2, fun i v e => (h3 i v e).same hm hn⟩
/-- It is a slice of so many elements. -/
theorem Bs.sl {v : Value} {l : List Nat} (h : Bs s v l) : ∃ p c, v = .slice p l.length c := by
  rcases h with ⟨rfl, rfl⟩ | ⟨b, o, c, rfl, _⟩
  · exact ⟨_, _, rfl⟩
  · exact ⟨_, _, rfl⟩
theorem Bs.len {v : Value} {l : List Nat} {sz : Nat} (h : Bs s v l) (ht : slN E t = some sz) (Q : Value → St → Prop) : W (aBuiltin E .len [t] [v]) s Q = Q (.int .i64 (l.length : Nat)) s := by
  obtain ⟨p, c, rfl⟩ := h.sl
  exact W_lenSl ht Q
theorem Row.at {b o : Nat} {l : List Nat} (h : Row s b o (u8l l)) {k x : Nat} (hk : l[k]? = some x) : At s b (o + k) (u8 x) := h k _ (by rw [List.getElem?_map, hk]; rfl)
theorem Row.take {b o n : Nat} {l : List Value} (h : Row s b o l) : Row s b o (l.take n) := fun i v e => by
  rw [List.getElem?_take] at e
  split at e
  · exact h i v e
  · cases e
theorem Row.drop {b o n : Nat} {l : List Value} (h : Row s b o l) : Row s b (o + n) (l.drop n) := fun i v e => by
  rw [List.getElem?_drop] at e
  have := h _ v e
  rw [show o + n + i = o + (n + i) by omega]
  exact this
theorem OwnRow.take {b o n : Nat} {l : List Value} (h : OwnRow s b o l) : OwnRow s b o (l.take n) := fun i v e => by
  rw [List.getElem?_take] at e
  split at e
  · exact h i v e
  · cases e
theorem OwnRow.drop {b o n : Nat} {l : List Value} (h : OwnRow s b o l) : OwnRow s b (o + n) (l.drop n) := fun i v e => by
  rw [List.getElem?_drop] at e
  have := h _ v e
  rw [show o + n + i = o + (n + i) by omega]
  exact this
/-- A text of bytes. -/
def txt (l : List Nat) : ByteArray := ⟨(l.map UInt8.ofNat).toArray⟩
theorem bytesL_u8 : ∀ (l : List Nat), bytesL (u8l l) = some (l.map UInt8.ofNat)
  | [] => rfl
  | n :: l => by
    show onO (some (UInt8.ofNat n)) (fun b => onO (bytesL (u8l l)) fun l => some (b :: l)) = _
    rw [bytesL_u8 l]
    rfl
noncomputable def isStrT (E : Env) (t : Nat) : Bool := match T.get E.ty t with | some i => (match i.u with | .string => true | _ => false) | none => false
noncomputable def isU8S (E : Env) (t : Nat) : Bool := match T.get E.ty t with
  | some i => (match i.u with | .slice e => (match T.get E.ty e with | some ie => (match ie.u with | .int .u8 => true | _ => false) | none => false) | _ => false)
  | none => false
/-- What is read of bytes, as a text. -/
theorem W.str {d : Nat} {v : Value} {l : List Nat} {Q : Value → St → Prop} (h : Bs s v l) (hz : l ≠ [] ∨ ∃ b o c, v = .slice (some ⟨b, o, none⟩) l.length c) (h1 : isU8S E t = true) (h2 : isStrT E d = true)
    (q : ∀ s1, s1.mem = s.mem → s1.next = s.next → Ext (BsF v) Non s s1 → Q (.string (txt l)) s1) : W (kConvB E t d v) s Q := by
  have h' : ∃ b o c, v = .slice (some ⟨b, o, none⟩) l.length c ∧ Row s b o (u8l l) := by
    rcases h with ⟨rfl, rfl⟩ | ⟨b, o, c, rfl, _, _, h3⟩
    · rcases hz with hz | ⟨b, o, c, hz⟩
      · exact absurd rfl hz
      · cases hz
    · exact ⟨b, o, c, rfl, h3⟩
  obtain ⟨b, o, c, rfl, h3⟩ := h'
  unfold isU8S at h1
  split at h1
  · rename_i i hi
    split at h1
    · rename_i e hu
      split at h1
      · rename_i ie he
        split at h1
        · rename_i hk
          unfold isStrT at h2
          split at h2
          · rename_i id hd
            split at h2
            · rename_i hs
              have conv : ∀ s : St, kConvB E t d (.slice (some ⟨b, o, none⟩) l.length c) s = strOf ⟨b, o, none⟩ l.length s := fun s => by
                show convSS E t d ⟨b, o, none⟩ l.length c s = _
                unfold convSS
                rw [bind_run (show Am.ti E t s = .some i s by unfold Am.ti; rw [hi]; rfl), bind_run (show Am.ti E d s = .some id s by unfold Am.ti; rw [hd]; rfl)]
                simp only [hu, hs]
                show kConv E t d (.slice (some ⟨b, o, none⟩) l.length c) s = _
                show convSl E t d ⟨b, o, none⟩ l.length s = _
                unfold convSl
                rw [bind_run (show Am.ti E t s = .some i s by unfold Am.ti; rw [hi]; rfl), bind_run (show Am.ti E d s = .some id s by unfold Am.ti; rw [hd]; rfl)]
                simp only [hu, hs]
                rw [bind_run (show Am.ti E e s = .some ie s by unfold Am.ti; rw [he]; rfl)]
                simp only [hk]
              refine W.cast (conv s) ?_
              have hl : l.length = (u8l l).length := (u8l_length l).symm
              show W (M.bind (Am.rdL l.length ⟨b, o, none⟩) fun x => M.on (bytesL x) fun bs => M.pure (.string ⟨bs.toArray⟩)) s Q
              rw [hl]
              refine W.bind (W.rdL h3 fun s1 e1 e2 e3 => W.on (bytesL_u8 l) (W.pure (q s1 e1 e2 ?_)))
              rw [u8l_length] at e3
              exact e3
            · cases h2
          · cases h2
        · cases h1
      · cases h1
    · cases h1
  · cases h1
/-- .. of nil. -/
theorem str_nil {d : Nat} {Q : Value → St → Prop} (hc : M.chk (plain (.slice none 0 0)) (M.on (semP E.P (convert t d (.slice none 0 0))) pV) s = .some (.string (txt [])) s) (q : Q (.string (txt [])) s) : W (kConvB E t d (.slice none 0 0)) s Q := W.of hc q
theorem semP_underlying {P : Program} {u : TypeDesc} (h : P.underlying t = some u) : semP P (underlying t) = some u := by
  unfold underlying program
  show semP P ((match P.underlying t with | some d => pure d | none => _) : Sem TypeDesc) = _
  rw [h]
  rfl
end
end Go.Proofs.YtbmkpcjkadifhaaGreatDoor.Am
/- Runs of the evaluator said of all states: slices made, cut, appended to, copied. -/
namespace Go.Proofs.YtbmkpcjkadifhaaGreatDoor.Am

/-- Of an append's types: an element's cells, its bytes, whether so many zeros are meant, its zero. -/
noncomputable def appT (E : Env) (t t2 : Nat) : Option (Nat × Nat × Bool × List Value) := match T.get E.ty t, T.get E.ty t2 with
  | some i, some i2 => (match i.u with | .slice e => (match T.get E.ty e with | some ie => some (ie.size, ie.bytes, isIntD i2.u, ie.zero) | none => none) | _ => none)
  | _, _ => none
/-- Of a slice's type: its element's cells, bytes, zero. -/
noncomputable def elT (E : Env) (t : Nat) : Option (Nat × Nat × List Value) := match T.get E.ty t with
  | some i => (match i.u with | .slice e => (match T.get E.ty e with | some ie => some (ie.size, ie.bytes, ie.zero) | none => none) | _ => none)
  | none => none
section
variable {α β : Type} {s : St} {E : Env} {t t2 : Nat}
theorem appT_inv {sz by' : Nat} {g : Bool} {z : List Value} (h : appT E t t2 = some (sz, by', g, z)) : ∃ i i2 e ie, T.get E.ty t = some i ∧ T.get E.ty t2 = some i2 ∧ i.u = .slice e ∧ T.get E.ty e = some ie ∧ ie.size = sz ∧ ie.bytes = by' ∧ isIntD i2.u = g ∧ ie.zero = z := by
  unfold appT at h
  split at h
  · rename_i i i2 h1 h2
    split at h
    · rename_i e hu
      split at h
      · rename_i ie he
        cases h
        exact ⟨i, i2, e, ie, h1, h2, hu, he, rfl, rfl, rfl, rfl⟩
      · cases h
    · cases h
  · cases h
theorem elT_inv {sz by' : Nat} {z : List Value} (h : elT E t = some (sz, by', z)) : ∃ i e ie, T.get E.ty t = some i ∧ i.u = .slice e ∧ T.get E.ty e = some ie ∧ ie.size = sz ∧ ie.bytes = by' ∧ ie.zero = z := by
  unfold elT at h
  split at h
  · rename_i i h1
    split at h
    · rename_i e hu
      split at h
      · rename_i ie he
        cases h
        exact ⟨i, e, ie, h1, hu, he, rfl, rfl, rfl⟩
      · cases h
    · cases h
  · cases h
/-- What is read of a source. -/
def Src (s : St) (sz : Nat) (x : Value) (n : Nat) (l : List Value) (F : Nat → Prop) : Prop :=
  (∃ p c, x = .slice p n c) ∧ ∃ s1, srcL sz x n s = .some l s1 ∧ s1.mem = s.mem ∧ s1.next = s.next ∧ Ext F Non s s1
theorem src_row {b o n c sz : Nat} {l : List Value} (h : Row s b o l) (hl : l.length = n * sz) : Src s sz (.slice (some ⟨b, o, none⟩) n c) n l (In b o (n * sz)) := by
  refine ⟨⟨_, _, rfl⟩, ?_⟩
  obtain ⟨a, s1, e, rfl, h1, h2, h3⟩ := W.rdL (Q := fun a s1 => a = l ∧ s1.mem = s.mem ∧ s1.next = s.next ∧ Ext (fun x => b + o ≤ x ∧ x < b + o + l.length) Non s s1) h fun s1 e1 e2 e3 => ⟨rfl, e1, e2, e3⟩
  refine ⟨s1, ?_, h1, h2, ?_⟩
  · show rdL (n * sz) ⟨b, o, none⟩ s = _
    rw [← hl]
    exact e
  · rw [hl] at h3
    exact h3
theorem src_nil {sz : Nat} : Src s sz (.slice none 0 0) 0 [] Non := ⟨⟨_, _, rfl⟩, s, rfl, rfl, rfl, Ext.refl s⟩
/-- What is appended: elements of a source, or so many zeros. -/
def SrcG (s : St) (sz by' : Nat) (g : Bool) (z : List Value) (x : Value) (n : Nat) (l : List Value) (F : Nat → Prop) : Prop :=
  ∀ ie : TI, ie.size = sz → ie.bytes = by' → ie.zero = z → (∀ s' : St, appN g ie.bytes x s' = .some n s') ∧ ∃ s1, appL g ie x n s = .some l s1 ∧ s1.mem = s.mem ∧ s1.next = s.next ∧ Ext F Non s s1
theorem Src.g {sz by' n : Nat} {z l : List Value} {x : Value} {F : Nat → Prop} (h : Src s sz x n l F) : SrcG s sz by' false z x n l F := fun ie h1 _ _ => by
  obtain ⟨⟨p, c, rfl⟩, s1, e, m1, n1, x1⟩ := h
  subst h1
  exact ⟨fun _ => rfl, s1, e, m1, n1, x1⟩
theorem src_zeros {sz by' n : Nat} {z : List Value} (h : n * (by' + 1) ≤ 16777216) : SrcG s sz by' true z (.int .i64 (n : Nat)) n (rep n z) Non := fun ie _ h2 h3 => by
  subst h2; subst h3
  refine ⟨fun s' => ?_, s, rfl, rfl, rfl, Ext.refl s⟩
  show M.chk (Nat.ble (n * (ie.bytes + 1)) 16777216) (M.pure n) s' = _
  rw [Nat.ble_eq_true_of_le h]
  rfl
/-- An append within the room that there is. -/
theorem W.appIn {sz by' len n b o c : Nat} {z l : List Value} {x : Value} {F : Nat → Prop} {Q : Value → St → Prop} {g : Bool} (ht : appT E t t2 = some (sz, by', g, z)) (hx : SrcG s sz by' g z x n l F) (hr : len + n ≤ c % capU) (hl : l.length = n * sz) (h1 : l.all oneCell = true)
    (own : ∀ i, i < n * sz → ∃ u, Own s b (o + len * sz + i) u)
    (q : ∀ s2, s2.next = s.next → Ext (fun x => F x ∨ In b (o + len * sz) (n * sz) x) (In b (o + len * sz) (n * sz)) s s2 → OwnRow s2 b (o + len * sz) l → Q (.slice (some ⟨b, o, none⟩) (len + n) c) s2) : W (aAppend E t t2 (.slice (some ⟨b, o, none⟩) len c) x) s Q := by
  obtain ⟨i, i2, e, ie, g1, g2, g3, g4, g5, g6, g7, g8⟩ := appT_inv ht
  obtain ⟨hN, s1, e1, m1, n1, x1⟩ := hx ie g5 g6 g8
  subst g5
  refine W.bind (W.ti g1 (W.bind (W.ti g2 ?_)))
  rw [g3, g7]
  refine W.bind (W.ti g4 (W.bind (W.of (hN s) (W.bind ?_))))
  refine W.of e1 ?_
  show W (M.if (Nat.ble (Nat.add len n) (Nat.mod c capU)) _ _) s1 Q
  rw [show Nat.ble (Nat.add len n) (Nat.mod c capU) = true from Nat.ble_eq_true_of_le hr]
  have own1 : ∀ i, i < l.length → ∃ u, Own s1 b (o + len * ie.size + i) u := fun i hi => by
    obtain ⟨u, hu⟩ := own i (by rw [← hl]; exact hi)
    exact ⟨u, hu.same m1 n1⟩
  refine W.bind (m := Am.wrL l (addA ⟨b, o, none⟩ (Nat.mul len ie.size))) (W.wrL own1 h1 fun s2 n2 x2 r2 => ?_)
  show W (Am.fA (⟨b, o, none⟩ : Addr) fun a => Am.fN (Nat.add len n) fun l => Am.fN c fun c => M.pure (.slice (some a) l c)) s2 Q
  refine W.fA (W.fN (W.fN (W.pure (q s2 (n2.trans n1) ?_ r2))))
  rw [hl] at x2
  obtain ⟨d1, p1, p2⟩ := x1.rd
  obtain ⟨d2, p3, p4⟩ := x2.rd
  obtain ⟨d3, p5, p6⟩ := x1.wr
  obtain ⟨d4, p7, p8⟩ := x2.wr
  refine ⟨Nat.le_of_eq (n2.trans n1).symm, x2.lim.trans x1.lim, x2.cx.trans x1.cx, fun y q1 q2 => by rw [x2.mem y (by rw [n1]; exact q1) q2, m1], ⟨d2 ++ d1, by rw [p3, p1, List.append_assoc], fun y hy => ?_⟩, ⟨d4 ++ d3, by rw [p7, p5, List.append_assoc], fun y hy => ?_⟩⟩
  · rcases List.mem_append.1 hy with hy | hy
    · have := p4 y hy
      rw [x1.lim] at this
      exact ⟨this.1, .inr this.2⟩
    · exact ⟨(p2 y hy).1, .inl (p2 y hy).2⟩
  · rcases List.mem_append.1 hy with hy | hy
    · have := p8 y hy
      rw [x1.lim] at this
      exact this
    · exact (p6 y hy).2.elim
/-- What an append lays anew: a block of its own, with a mark of its room. -/
structure Fresh1 (s s' : St) (sz n : Nat) (l : List Value) (v : Value) (b : Nat) : Prop where
  val : v = .slice (some ⟨b, 0, none⟩) n (capU * ((b + n * sz) * 1024 + sz) + n)
  new : s.next ≤ b
  own : OwnRow s' b 0 l
  len : l.length = n * sz
  tok : T.get s'.mem (b + n * sz) = some (.O (.tok false sz))
  lt : b + n * sz < s'.next
/-- An append to nothing that has room: a new block. -/
theorem W.appNil (hbd : s.lim ≤ s.next) {sz by' n : Nat} {z l : List Value} {x : Value} {F : Nat → Prop} {Q : Value → St → Prop} {g : Bool} (ht : appT E t t2 = some (sz, by', g, z)) (hx : SrcG s sz by' g z x n l F) (hn : 0 < n) (hs0 : 0 < sz) (hs1 : sz < 1024) (hb : n * (by' + 1) ≤ 16777216) (hl : l.length = n * sz) (h1 : l.all oneCell = true)
    (q : ∀ s2 v b, Fresh1 s s2 sz n l v b → Ext F Non s s2 → Q v s2) : W (aAppend E t t2 (.slice none 0 0) x) s Q := by
  obtain ⟨i, i2, e, ie, g1, g2, g3, g4, g5, g6, g7, g8⟩ := appT_inv ht
  obtain ⟨hN, s1, e1, m1, n1, x1⟩ := hx ie g5 g6 g8
  subst g5; subst g6
  refine W.bind (W.ti g1 (W.bind (W.ti g2 ?_)))
  rw [g3, g7]
  refine W.bind (W.ti g4 (W.bind (W.of (hN s) (W.bind ?_))))
  refine W.of e1 ?_
  show W (M.if (Nat.ble (Nat.add 0 n) (Nat.mod 0 capU)) _ _) s1 Q
  have hz : Nat.ble (Nat.add 0 n) (Nat.mod 0 capU) = false := by
    cases hq : Nat.ble (Nat.add 0 n) (Nat.mod 0 capU) with
    | false => rfl
    | true =>
      have h2 := Nat.le_of_ble_eq_true hq
      have h3 : Nat.mod 0 capU = 0 := Nat.zero_mod _
      rw [h3] at h2
      have h4 : Nat.add 0 n = n := Nat.zero_add n
      rw [h4] at h2
      omega
  rw [hz]
  show W (grow ie.size ie.bytes none 0 0 n l) s1 Q
  unfold grow
  refine W.chk ?_ (W.bind (W.pure (W.bind ?_)))
  · rw [h1, hl, Nat.zero_add]
    simp only [Bool.and_true, Bool.and_eq_true, Bool.or_eq_true]
    refine ⟨⟨⟨⟨Nat.ble_eq_true_of_le hb, blt_t hs0⟩, blt_t hs1⟩, .inr rfl⟩, Nat.beq_refl _⟩
  · show W (useUp ie.size none (Nat.mod 0 capU) (Nat.div 0 capU)) s1 _
    have hd : Nat.div 0 capU = 0 := Nat.zero_div _
    rw [hd]
    show W (M.pure ()) s1 _
    refine W.pure (W.bind (W.newL fun s2 n2 x2 r2 => W.fN (W.bind (W.wrC ?_ ?_))))
    · rw [n2, n1]
      simp only [Nat.add_eq, Nat.mul_eq, Nat.zero_mul, List.take_zero, List.nil_append, hl, Nat.zero_add]
      omega
    · show W (Am.fA (⟨s1.next, 0, none⟩ : Addr) fun a => Am.fN (Nat.add 0 n) fun l => Am.fN _ fun c => M.pure (.slice (some a) l c)) _ Q
      have hlen : ([].take (Nat.mul 0 ie.size) ++ l : List Value) = l := by simp
      rw [hlen] at n2 r2
      have hadd : Nat.add 0 n = n := Nat.zero_add n
      refine W.fA (W.fN (W.fN (W.pure (q _ _ s1.next ⟨?_, Nat.le_of_eq n1.symm, ?_, hl, ?_, ?_⟩ ?_))))
      · rw [hadd]
        rfl
      · intro k v hk
        have hk' := (List.getElem?_eq_some_iff.1 hk).1
        have := r2 k v hk
        refine ⟨this.1, ?_⟩
        show T.get (T.set s2.mem _ _) _ = _
        rw [T.get_set, if_neg]
        · exact this.2
        · rw [hadd]
          show s1.next + (0 + k) ≠ s1.next + n * ie.size
          omega
      · show T.get (T.set s2.mem (Nat.add s1.next (Nat.mul (Nat.add 0 n) ie.size)) _) _ = _
        rw [hadd, T.get_set]
        exact if_pos rfl
      · show s1.next + n * ie.size < s2.next
        rw [n2, hl]
        omega
      · obtain ⟨d1, p1, p2⟩ := x1.rd
        obtain ⟨d2, p3, p4⟩ := x2.rd
        obtain ⟨d3, p5, p6⟩ := x1.wr
        obtain ⟨d4, p7, p8⟩ := x2.wr
        obtain ⟨d5, p9, p10⟩ := notes_ext (Nat.add s1.next (Nat.mul (Nat.add 0 n) ie.size)) s2.lim s2.wr
        refine ⟨?_, x2.lim.trans x1.lim, x2.cx.trans x1.cx, fun y q1 q2 => ?_, ⟨d2 ++ d1, ?_, ?_⟩, ⟨[], ?_, fun _ h => by cases h⟩⟩
        · show s.next ≤ s2.next
          rw [n2, n1]; omega
        · show T.get (T.set s2.mem _ _) y = _
          rw [T.get_set, if_neg, x2.mem y (by rw [n1]; exact q1) id, m1]
          rw [hadd]
          show y ≠ s1.next + n * ie.size
          rw [n1]; omega
        · show s2.rd = _
          rw [p3, p1, List.append_assoc]
        · intro y hy
          rcases List.mem_append.1 hy with hy | hy
          · exact (p4 y hy).2.elim
          · exact p2 y hy
        · show notes _ s2.lim s2.wr = s.wr
          have e1 : s2.wr = s.wr := by
            have h5 : d3 = [] := by
              cases d3 with
              | nil => rfl
              | cons y l => exact (p6 y (by simp)).2.elim
            have h7 : d4 = [] := by
              cases d4 with
              | nil => rfl
              | cons y l => exact (p8 y (by simp)).2.elim
            rw [p7, p5, h5, h7]; rfl
          unfold notes
          rw [blt_f, e1]
          show s2.lim ≤ s1.next + Nat.mul (Nat.add 0 n) ie.size
          rw [x2.lim, x1.lim, n1]
          omega
/-- An append to a slice of no element that has no room: a new block. -/
theorem W.appEmp (hbd : s.lim ≤ s.next) {sz by' n b0 o0 : Nat} {z l : List Value} {x : Value} {F : Nat → Prop} {Q : Value → St → Prop} {g : Bool} (ht : appT E t t2 = some (sz, by', g, z)) (hx : SrcG s sz by' g z x n l F) (hn : 0 < n) (hs0 : 0 < sz) (hs1 : sz < 1024) (hb : n * (by' + 1) ≤ 16777216) (hl : l.length = n * sz) (h1 : l.all oneCell = true)
    (q : ∀ s2 v b, Fresh1 s s2 sz n l v b → Ext F Non s s2 → Q v s2) : W (aAppend E t t2 (.slice (some ⟨b0, o0, none⟩) 0 0) x) s Q := by
  obtain ⟨i, i2, e, ie, g1, g2, g3, g4, g5, g6, g7, g8⟩ := appT_inv ht
  obtain ⟨hN, s1, e1, m1, n1, x1⟩ := hx ie g5 g6 g8
  subst g5; subst g6
  refine W.bind (W.ti g1 (W.bind (W.ti g2 ?_)))
  rw [g3, g7]
  refine W.bind (W.ti g4 (W.bind (W.of (hN s) (W.bind ?_))))
  refine W.of e1 ?_
  show W (M.if (Nat.ble (Nat.add 0 n) (Nat.mod 0 capU)) _ _) s1 Q
  have hz : Nat.ble (Nat.add 0 n) (Nat.mod 0 capU) = false := by
    cases hq : Nat.ble (Nat.add 0 n) (Nat.mod 0 capU) with
    | false => rfl
    | true =>
      have h2 := Nat.le_of_ble_eq_true hq
      have h3 : Nat.mod 0 capU = 0 := Nat.zero_mod _
      rw [h3] at h2
      have h4 : Nat.add 0 n = n := Nat.zero_add n
      rw [h4] at h2
      omega
  rw [hz]
  show W (grow ie.size ie.bytes (some ⟨b0, o0, none⟩) 0 0 n l) s1 Q
  unfold grow
  have hold : oldL ie.size (some ⟨b0, o0, none⟩) (Bool.rec (motive := fun _ => Nat) (Nat.mod 0 capU) 0 (Nat.beq (Nat.div 0 capU) 0)) s1 = .some [] s1 := by
    have hd : Nat.div 0 capU = 0 := Nat.zero_div _
    rw [hd]
    show Am.rdL (0 * ie.size) ⟨b0, o0, none⟩ s1 = _
    rw [Nat.zero_mul]
    rfl
  refine W.chk ?_ (W.bind (W.of hold (W.bind ?_)))
  · rw [h1, hl, Nat.zero_add]
    simp only [Bool.and_true, Bool.and_eq_true, Bool.or_eq_true]
    refine ⟨⟨⟨⟨Nat.ble_eq_true_of_le hb, blt_t hs0⟩, blt_t hs1⟩, .inr rfl⟩, Nat.beq_refl _⟩
  · show W (useUp ie.size (some ⟨b0, o0, none⟩) (Nat.mod 0 capU) (Nat.div 0 capU)) s1 _
    have hd : Nat.div 0 capU = 0 := Nat.zero_div _
    rw [hd]
    show W (M.pure ()) s1 _
    refine W.pure (W.bind (W.newL fun s2 n2 x2 r2 => W.fN (W.bind (W.wrC ?_ ?_))))
    · rw [n2, n1]
      simp only [Nat.add_eq, Nat.mul_eq, Nat.zero_mul, List.take_zero, List.nil_append, hl, Nat.zero_add]
      omega
    · show W (Am.fA (⟨s1.next, 0, none⟩ : Addr) fun a => Am.fN (Nat.add 0 n) fun l => Am.fN _ fun c => M.pure (.slice (some a) l c)) _ Q
      have hlen : ([].take (Nat.mul 0 ie.size) ++ l : List Value) = l := by simp
      rw [hlen] at n2 r2
      have hadd : Nat.add 0 n = n := Nat.zero_add n
      refine W.fA (W.fN (W.fN (W.pure (q _ _ s1.next ⟨?_, Nat.le_of_eq n1.symm, ?_, hl, ?_, ?_⟩ ?_))))
      · rw [hadd]
        rfl
      · intro k v hk
        have hk' := (List.getElem?_eq_some_iff.1 hk).1
        have := r2 k v hk
        refine ⟨this.1, ?_⟩
        show T.get (T.set s2.mem _ _) _ = _
        rw [T.get_set, if_neg]
        · exact this.2
        · rw [hadd]
          show s1.next + (0 + k) ≠ s1.next + n * ie.size
          omega
      · show T.get (T.set s2.mem (Nat.add s1.next (Nat.mul (Nat.add 0 n) ie.size)) _) _ = _
        rw [hadd, T.get_set]
        exact if_pos rfl
      · show s1.next + n * ie.size < s2.next
        rw [n2, hl]
        omega
      · obtain ⟨d1, p1, p2⟩ := x1.rd
        obtain ⟨d2, p3, p4⟩ := x2.rd
        obtain ⟨d3, p5, p6⟩ := x1.wr
        obtain ⟨d4, p7, p8⟩ := x2.wr
        obtain ⟨d5, p9, p10⟩ := notes_ext (Nat.add s1.next (Nat.mul (Nat.add 0 n) ie.size)) s2.lim s2.wr
        refine ⟨?_, x2.lim.trans x1.lim, x2.cx.trans x1.cx, fun y q1 q2 => ?_, ⟨d2 ++ d1, ?_, ?_⟩, ⟨[], ?_, fun _ h => by cases h⟩⟩
        · show s.next ≤ s2.next
          rw [n2, n1]; omega
        · show T.get (T.set s2.mem _ _) y = _
          rw [T.get_set, if_neg, x2.mem y (by rw [n1]; exact q1) id, m1]
          rw [hadd]
          show y ≠ s1.next + n * ie.size
          rw [n1]; omega
        · show s2.rd = _
          rw [p3, p1, List.append_assoc]
        · intro y hy
          rcases List.mem_append.1 hy with hy | hy
          · exact (p4 y hy).2.elim
          · exact p2 y hy
        · show notes _ s2.lim s2.wr = s.wr
          have e1 : s2.wr = s.wr := by
            have h5 : d3 = [] := by
              cases d3 with
              | nil => rfl
              | cons y l => exact (p6 y (by simp)).2.elim
            have h7 : d4 = [] := by
              cases d4 with
              | nil => rfl
              | cons y l => exact (p8 y (by simp)).2.elim
            rw [p7, p5, h5, h7]; rfl
          unfold notes
          rw [blt_f, e1]
          show s2.lim ≤ s1.next + Nat.mul (Nat.add 0 n) ie.size
          rw [x2.lim, x1.lim, n1]
          omega
end
end Go.Proofs.YtbmkpcjkadifhaaGreatDoor.Am
/- Runs of the evaluator said of all states: slices cut, built, made, copied. -/
namespace Go.Proofs.YtbmkpcjkadifhaaGreatDoor.Am

def bndV (o : Option Value) (d : Nat) : Option Nat := match o with
  | none => some d
  | some (.int _ (.ofNat n)) => some n
  | _ => none
section
variable {α β : Type} {s : St} {E : Env} {t t2 : Nat}
theorem bnd_run {o : Option Value} {top d n : Nat} (h : bndV o d = some n) (ht : n ≤ top) : bnd o top d s = .some n s := by
  unfold bndV at h
  split at h
  · cases h; rfl
  · cases h
    show M.chk (Nat.ble n top) (M.pure n) s = _
    rw [Nat.ble_eq_true_of_le ht]
    rfl
  · cases h
theorem W_slSl {sz len c b o l h : Nat} {lo hi : Option Value} (ht : slN E t = some sz) (hlo : bndV lo 0 = some l) (hhi : bndV hi len = some h) (hl : l ≤ h) (hc : h ≤ c % capU) (hs : sizeOk c sz = true) (Q : Value → St → Prop) :
    W (aSlice E t (.slice (some ⟨b, o, none⟩) len c) lo hi) s Q = Q (.slice (some ⟨b, if l < c % capU then o + l * sz else o, none⟩) (h - l) (c - l)) s := by
  obtain ⟨i, e, ie, h1, h2, h3, h4⟩ := slN_inv ht
  subst h4
  refine W_run ?_
  unfold aSlice
  rw [bind_run (show ti E t s = .some i s by unfold ti; rw [h1]; rfl)]
  simp only [h2]
  rw [bind_run (show ti E e s = .some ie s by unfold ti; rw [h3]; rfl)]
  unfold slSl
  show M.bind (bnd hi (c % capU) len) _ s = _
  rw [bind_run (bnd_run hhi hc), bind_run (bnd_run hlo hl), hs]
  show pSl _ _ _ s = _
  unfold pSl
  rw [fA_eq, fN_eq, fN_eq]
  show R.some _ s = _
  by_cases hq : l < c % capU
  · rw [if_pos hq, show Nat.blt l (Nat.mod c capU) = true from blt_t hq]
    rfl
  · rw [if_neg hq, show Nat.blt l (Nat.mod c capU) = false from blt_f (Nat.le_of_not_lt hq)]
    rfl
theorem W_slArr {n sz b o l h : Nat} {lo hi : Option Value} (ht : arrN E t = some (n, sz)) (hn : n < capU) (hlo : bndV lo 0 = some l) (hhi : bndV hi n = some h) (hl : l ≤ h) (hc : h ≤ n) (Q : Value → St → Prop) :
    W (aSlice E t (.pointer (some ⟨b, o, none⟩)) lo hi) s Q = Q (.slice (some ⟨b, if n = l then o else o + l * sz, none⟩) (h - l) (n - l)) s := by
  obtain ⟨i, e, ie, h1, h2, h3, h4⟩ := arrN_inv ht
  subst h4
  refine W_run ?_
  unfold aSlice
  rw [bind_run (show ti E t s = .some i s by unfold ti; rw [h1]; rfl)]
  simp only [h2]
  rw [bind_run (show ti E e s = .some ie s by unfold ti; rw [h3]; rfl)]
  unfold slArr
  rw [blt_t hn]
  show M.bind (bnd hi n n) _ s = _
  rw [bind_run (bnd_run hhi hc), bind_run (bnd_run hlo hl)]
  unfold pSl
  rw [fA_eq, fN_eq, fN_eq]
  show R.some _ s = _
  by_cases hq : n = l
  · rw [if_pos hq, show Nat.beq n l = true by rw [hq]; exact Nat.beq_refl l]
    rfl
  · rw [if_neg hq, show Nat.beq n l = false by
      cases e : Nat.beq n l with
      | false => rfl
      | true => exact absurd (Nat.eq_of_beq_eq_true e) hq]
    rfl
theorem sizeOk_sub {c l sz : Nat} (h : l ≤ c % capU) (hs : sizeOk c sz = true) : sizeOk (c - l) sz = true := by
  unfold sizeOk at *
  show Bool.rec (motive := fun _ => Bool) (Nat.beq (Nat.mod ((c - l) / capU) 1024) sz) true (Nat.beq ((c - l) / capU) 0) = true
  rw [(cap_sub h).1]
  exact hs
theorem sizeOk_exact {c sz : Nat} (h : c < capU) : sizeOk c sz = true := by
  unfold sizeOk
  show Bool.rec (motive := fun _ => Bool) (Nat.beq (Nat.mod (c / capU) 1024) sz) true (Nat.beq (c / capU) 0) = true
  rw [Nat.div_eq_of_lt h]
  rfl
/-- A part of a slice of bytes. -/
theorem Bs.sub' {b o c i j : Nat} {l : List Nat} (hij : i ≤ j) (hj : j ≤ l.length) (h1 : l.length ≤ c % capU) (h2 : sizeOk c 1 = true) (h3 : Row s b o (u8l l)) :
    ∃ o', (.slice (some ⟨b, if i < c % capU then o + i * 1 else o, none⟩) (j - i) (c - i) : Value) = .slice (some ⟨b, o', none⟩) ((l.take j).drop i).length (c - i) ∧ ((l.take j).drop i).length ≤ (c - i) % capU ∧ sizeOk (c - i) 1 = true ∧ Row s b o' (u8l ((l.take j).drop i)) ∧ (o' = o + i ∨ ((l.take j).drop i).length = 0) := by
  have hlen : ((l.take j).drop i).length = j - i := by rw [List.length_drop, List.length_take]; omega
  refine ⟨_, by rw [hlen], ?_, sizeOk_sub (by omega) h2, ?_, ?_⟩
  · rw [hlen, (cap_sub (by omega)).2]
    omega
  · by_cases hq : i < c % capU
    · rw [if_pos hq, Nat.mul_one]
      have := (h3.take (n := j)).drop (n := i)
      rw [← List.map_take, ← List.map_drop] at this
      exact this
    · have h0 : (l.take j).drop i = [] := List.eq_nil_of_length_eq_zero (by rw [hlen]; omega)
      rw [h0]
      intro k v e
      simp at e
  · by_cases hq : i < c % capU
    · left; rw [if_pos hq, Nat.mul_one]
    · right; rw [hlen]; omega
/-- A literal of elements, all told. -/
theorem W.buildS (hbd : s.lim ≤ s.next) {sz by' len : Nat} {z r : List Value} {ps : List (Nat × Value)} {Q : Value → St → Prop} (ht : elT E t = some (sz, by', z)) (h1 : len * sz ≤ 16777216) (hr : fillAll (fun k => some (k * sz, sz)) ps (rep len z) = some r) (h2 : len < capU)
    (q : ∀ s2, s2.next = s.next + r.length + 1 → Ext Non Non s s2 → OwnRow s2 s.next 0 r → Q (.slice (some ⟨s.next, 0, none⟩) len len) s2) : W (aBuildS E t len ps) s Q := by
  obtain ⟨i, e, ie, g1, g2, g3, g4, g5, g6⟩ := elT_inv ht
  subst g4; subst g6
  refine W.bind (W.ti g1 ?_)
  rw [g2]
  refine W.bind (W.ti g3 (W.chk ?_ (W.bind (W.ofOpt hr (W.bind (W.newL fun s2 n2 x2 r2 => W.bind (W.wrC ?_ (W.pure (q _ n2 ?_ ?_)))))))))
  · rw [Bool.and_eq_true]
    exact ⟨Nat.ble_eq_true_of_le h1, blt_t h2⟩
  · show s.next + r.length < s2.next
    omega
  · obtain ⟨d2, p3, p4⟩ := x2.rd
    obtain ⟨d4, p7, p8⟩ := x2.wr
    refine ⟨x2.nxt, x2.lim, x2.cx, fun y q1 q2 => ?_, ⟨d2, p3, p4⟩, ⟨d4, ?_, p8⟩⟩
    · show T.get (T.set s2.mem _ _) y = _
      rw [T.get_set, if_neg, x2.mem y q1 q2]
      show y ≠ s.next + r.length
      omega
    · show notes _ s2.lim s2.wr = _
      unfold notes
      rw [blt_f]
      · exact p7
      · show s2.lim ≤ s.next + r.length
        rw [x2.lim]; omega
  · intro k v hk
    have hk' := (List.getElem?_eq_some_iff.1 hk).1
    have := r2 k v hk
    refine ⟨this.1, ?_⟩
    show T.get (T.set s2.mem _ _) _ = _
    rw [T.get_set, if_neg]
    · exact this.2
    · show s.next + (0 + k) ≠ s.next + r.length
      omega
theorem W.mkSl {sz by' l c : Nat} {k1 k2 : IntKind} {z : List Value} {Q : Value → St → Prop} (ht : elT E t = some (sz, by', z)) (h1 : l ≤ c) (h2 : c * (by' + 1) ≤ 16777216)
    (q : ∀ s2, s2.next = s.next + (rep c z).length + 1 → Ext Non Non s s2 → OwnRow s2 s.next 0 (rep c z) → Q (.slice (some ⟨s.next, 0, none⟩) l c) s2) : W (kMkSl E t (.int k1 (l : Nat)) (.int k2 (c : Nat))) s Q := by
  obtain ⟨i, e, ie, g1, g2, g3, g4, g5, g6⟩ := elT_inv ht
  subst g5; subst g6
  refine W.bind (W.ti g1 (W.bind (W.pure (W.bind (W.pure ?_)))))
  unfold Am.mkSl
  rw [g2]
  refine W.bind (W.ti g3 (W.chk ?_ (W.bind (W.newL fun s2 n2 x2 r2 => W.pure (q _ n2 x2 r2)))))
  rw [Bool.and_eq_true]
  exact ⟨Nat.ble_eq_true_of_le h1, Nat.ble_eq_true_of_le h2⟩
theorem W.copy {sz by' b o n c m k : Nat} {z l : List Value} {p : Option Addr} {c2 : Nat} {F : Nat → Prop} {Q : Value → St → Prop} (ht : elT E t = some (sz, by', z)) (hk : k = Nat.min n m)
    (hx : ∃ s1, srcL sz (.slice p m c2) k s = .some l s1 ∧ s1.mem = s.mem ∧ s1.next = s.next ∧ Ext F Non s s1) (hl : l.length = k * sz) (h1 : l.all oneCell = true) (own : ∀ i, i < k * sz → ∃ u, Own s b (o + i) u)
    (q : ∀ s2, s2.next = s.next → Ext (fun x => F x ∨ In b o (k * sz) x) (In b o (k * sz)) s s2 → OwnRow s2 b o l → Q (.int .i64 (k : Nat)) s2) : W (aBuiltin E .copy [t, t2] [.slice (some ⟨b, o, none⟩) n c, .slice p m c2]) s Q := by
  obtain ⟨i, e, ie, g1, g2, g3, g4, g5, g6⟩ := elT_inv ht
  obtain ⟨s1, e1, m1, n1, x1⟩ := hx
  subst g4
  show W (aCopy E t (some ⟨b, o, none⟩) n (.slice p m c2)) s Q
  refine W.bind (W.ti g1 ?_)
  rw [g2]
  refine W.bind (W.ti g3 (W.bind (W.pure ?_)))
  refine W.fN ?_
  rw [← hk]
  refine W.bind (W.of e1 ?_)
  have own1 : ∀ i, i < l.length → ∃ u, Own s1 b (o + i) u := fun i hi => by
    obtain ⟨u, hu⟩ := own i (by rw [← hl]; exact hi)
    exact ⟨u, hu.same m1 n1⟩
  refine W.bind (m := Am.wrL l ⟨b, o, none⟩) (W.wrL own1 h1 fun s2 n2 x2 r2 => ?_)
  show W (Am.fN k fun n => M.pure (.int .i64 (.ofNat n))) s2 Q
  refine W.fN (W.pure (q s2 (n2.trans n1) ?_ r2))
  rw [hl] at x2
  obtain ⟨d1, p1, p2⟩ := x1.rd
  obtain ⟨d2, p3, p4⟩ := x2.rd
  obtain ⟨d3, p5, p6⟩ := x1.wr
  obtain ⟨d4, p7, p8⟩ := x2.wr
  refine ⟨Nat.le_of_eq (n2.trans n1).symm, x2.lim.trans x1.lim, x2.cx.trans x1.cx, fun y q1 q2 => by rw [x2.mem y (by rw [n1]; exact q1) q2, m1], ⟨d2 ++ d1, by rw [p3, p1, List.append_assoc], fun y hy => ?_⟩, ⟨d4 ++ d3, by rw [p7, p5, List.append_assoc], fun y hy => ?_⟩⟩
  · rcases List.mem_append.1 hy with hy | hy
    · have := p4 y hy
      rw [x1.lim] at this
      exact ⟨this.1, .inr this.2⟩
    · exact ⟨(p2 y hy).1, .inl (p2 y hy).2⟩
  · rcases List.mem_append.1 hy with hy | hy
    · have := p8 y hy
      rw [x1.lim] at this
      exact this
    · exact (p6 y hy).2.elim
theorem W_slNil {sz : Nat} {lo hi : Option Value} (ht : slN E t = some sz) (hlo : bndV lo 0 = some 0) (hhi : bndV hi 0 = some 0) (Q : Value → St → Prop) : W (aSlice E t (.slice none 0 0) lo hi) s Q = Q (.slice none 0 0) s := by
  obtain ⟨i, e, ie, h1, h2, h3, h4⟩ := slN_inv ht
  refine W_run ?_
  unfold aSlice
  rw [bind_run (show ti E t s = .some i s by unfold ti; rw [h1]; rfl)]
  simp only [h2]
  rw [bind_run (show ti E e s = .some ie s by unfold ti; rw [h3]; rfl), bind_run (bnd_run hhi (Nat.le_refl 0)), bind_run (bnd_run hlo (Nat.le_refl 0))]
  rfl
/-- A room with a mark. -/
theorem mark_mod {q N : Nat} (h : N < capU) : (capU * q + N) % capU = N := (enc (q := q) h).2
theorem mark_ok {m sz N : Nat} (h : N < capU) (h1 : sz < 1024) : sizeOk (capU * (m * 1024 + sz) + N) sz = true := by
  unfold sizeOk
  show Bool.rec (motive := fun _ => Bool) (Nat.beq (Nat.mod ((capU * (m * 1024 + sz) + N) / capU) 1024) sz) true (Nat.beq ((capU * (m * 1024 + sz) + N) / capU) 0) = true
  rw [(enc h).1]
  have : Nat.mod (m * 1024 + sz) 1024 = sz := by show (m * 1024 + sz) % 1024 = sz; omega
  rw [this, Nat.beq_refl]
  cases Nat.beq (m * 1024 + sz) 0 <;> rfl
theorem W_app {v x : Value} (Q : Value → St → Prop) : W (aBuiltin E .append [t, t2] [v, x]) s Q = W (aAppend E t t2 v x) s Q := propext Iff.rfl
/-- On, where what is turned is new. -/
theorem Ext.step {F F' G' : Nat → Prop} {s s1 s2 : St} (h : Ext F Non s s1) (k : Ext F' G' s1 s2) (hb : s.lim ≤ s.next) (hF : ∀ l, l < s.lim → F' l → F l) (hG : ∀ l, G' l → s.next ≤ l) : Ext F Non s s2 :=
  h.trans k hb hF fun l hl hg => absurd (hG l hg) (Nat.not_le_of_lt hl)
theorem OwnRow.append {b o : Nat} {l l' : List Value} (h : OwnRow s b o l) (k : OwnRow s b (o + l.length) l') : OwnRow s b o (l ++ l') := fun i v e => by
  by_cases hi : i < l.length
  · rw [List.getElem?_append_left hi] at e
    exact h i v e
  · rw [List.getElem?_append_right (by omega)] at e
    have := k _ v e
    rw [show o + l.length + (i - l.length) = o + i by omega] at this
    exact this
/-- So many places of one's own. -/
def Owned (s : St) (b o n : Nat) : Prop := ∀ j, j < n → ∃ u, Own s b (o + j) u
theorem OwnRow.owned {b o : Nat} {l : List Value} (h : OwnRow s b o l) : Owned s b o l.length := fun j hj => ⟨l[j], h j _ (List.getElem?_eq_getElem hj)⟩
theorem Owned.ext {F : Nat → Prop} {b o n a : Nat} {l : List Value} {s2 : St} (h : Owned s b o n) (e : Ext F (In b a l.length) s s2) (k : OwnRow s2 b a l) : Owned s2 b o n := fun j hj => by
  by_cases hq : In b a l.length (b + (o + j))
  · obtain ⟨h1, h2⟩ := hq
    have hi : o + j - a < l.length := by omega
    refine ⟨l[o + j - a], ?_⟩
    have := k (o + j - a) (l[o + j - a]) (List.getElem?_eq_getElem hi)
    rw [show a + (o + j - a) = o + j by omega] at this
    exact this
  · obtain ⟨u, hu⟩ := h j hj
    exact ⟨u, hu.ext e hq⟩
theorem Bs.src {v : Value} {l : List Nat} (h : Bs s v l) : Src s 1 v l.length (u8l l) (BsF v) := by
  rcases h with ⟨rfl, rfl⟩ | ⟨b, o, c, rfl, _, _, h3⟩
  · exact src_nil
  · have := src_row (s := s) (sz := 1) (n := l.length) (c := c) h3 (by rw [u8l_length, Nat.mul_one])
    rw [Nat.mul_one] at this
    exact this
theorem u8l_one (l : List Nat) : (u8l l).all oneCell = true := by
  rw [List.all_eq_true]
  intro x hx
  obtain ⟨n, _, rfl⟩ := List.mem_map.1 hx
  rfl
theorem shr_run (k kk : IntKind) (m n : Nat) (hn : n ≤ btOf k) (xo yo : Operand) : Cl.get (aBin E .shr t xo yo) (.int k (m : Nat)) (.int kk (n : Nat)) s = .some (.int k (m >>> n : Nat)) s := by
  show int3 shrK (binSlow E .shr t xo yo) (.int k (.ofNat m)) (.int kk (.ofNat n)) s = _
  show Option.rec (motive := fun _ => R Value) _ (fun v => .some v s) (shrK k kk m n) = _
  have : shrK k kk m n = some (.int k (m >>> n : Nat)) := by
    unfold shrK
    rw [Nat.ble_eq_true_of_le hn]
    show mkI k (Nat.shiftRight m n) = _
    unfold mkI
    rw [fN_eq]
    rfl
  rw [this]
theorem W_shr {k kk : IntKind} {m n : Nat} {xo yo : Operand} (hn : n ≤ btOf k) (Q : Value → St → Prop) : W (Cl.get (aBin E .shr t xo yo) (.int k (m : Nat)) (.int kk (n : Nat))) s Q = Q (.int k (m >>> n : Nat)) s := W_run (shr_run k kk m n hn xo yo)
theorem W_shr8 {k kk : IntKind} {m : Nat} {xo yo : Operand} (hn : 8 ≤ btOf k) (Q : Value → St → Prop) : W (Cl.get (aBin E .shr t xo yo) (.int k (m : Nat)) (.int kk 8)) s Q = Q (.int k (m >>> 8 : Nat)) s := W_shr (n := 8) hn Q
theorem W_shr16 {k kk : IntKind} {m : Nat} {xo yo : Operand} (hn : 16 ≤ btOf k) (Q : Value → St → Prop) : W (Cl.get (aBin E .shr t xo yo) (.int k (m : Nat)) (.int kk 16)) s Q = Q (.int k (m >>> 16 : Nat)) s := W_shr (n := 16) hn Q
theorem W_shr24 {k kk : IntKind} {m : Nat} {xo yo : Operand} (hn : 24 ≤ btOf k) (Q : Value → St → Prop) : W (Cl.get (aBin E .shr t xo yo) (.int k (m : Nat)) (.int kk 24)) s Q = Q (.int k (m >>> 24 : Nat)) s := W_shr (n := 24) hn Q
theorem bt_u32 : btOf .u32 = 32 := rfl
theorem wrap_u8 (n : Nat) : IntKind.u8.wrap (n : Int) = ((n % 256 : Nat) : Int) := by
  have e : IntKind.u8.wrap (n : Int) = (n : Int) % 256 := by unfold IntKind.wrap; simp [IntKind.bits, IntKind.signed]
  rw [e]
  omega
/-- Bytes just built. -/
theorem OwnRow.bn {b : Nat} {l : List Nat} (h : OwnRow s b 0 (u8l l)) (hl : l.length < capU) : Bs s (.slice (some ⟨b, 0, none⟩) l.length l.length) l :=
  .inr ⟨b, 0, l.length, rfl, by rw [Nat.mod_eq_of_lt hl]; exact Nat.le_refl _, sizeOk_exact hl, h.row⟩
/-! Within a region that draws -/
theorem oS_some {γ : Type} (a : α) (f : α → M γ) : oS (some a) f = f a := rfl
theorem on_some' {γ : Type} (a : α) (f : α → M γ) : M.on (some a) f = f a := rfl
theorem run_of_W {m : M α} {v : α} (h : ∀ (s : St) (Q : α → St → Prop), W m s Q = Q v s) (s : St) : m s = .some v s := by
  have : W m s fun a s' => a = v ∧ s' = s := by rw [h]; exact ⟨rfl, rfl⟩
  obtain ⟨a, s', e, rfl, rfl⟩ := this
  exact e
/-- An operation that leaves all as it is. -/
theorem W_dq {γ : Type} {m : M α} {v : α} {f : α × OpLog → M γ} {mem : T Cell} {next : Nat} {Q : γ → St → Prop} (h : ∀ (s : St) (Q : α → St → Prop), W m s Q = Q v s) : W (M.bind (apartO m) f) (dSt mem next) Q = W (f (v, ⟨next, next, [], []⟩)) (dSt mem next) Q := by
  rw [W_bind]
  refine W_run ?_
  show Am.apartO m ⟨mem, next, 0, [], [], .no⟩ = _
  unfold Am.apartO
  have e := run_of_W h ⟨mem, next, next, [], [], .no⟩
  simp only [e]
  rfl
theorem W_dpure {γ : Type} (v : α) (f : α × OpLog → M γ) (mem : T Cell) (next : Nat) (Q : γ → St → Prop) : W (M.bind (apartO (M.pure v)) f) (dSt mem next) Q = W (f (v, ⟨next, next, [], []⟩)) (dSt mem next) Q := W_dq fun _ _ => W_pure _ _
/-- A load. -/
theorem W.dload {γ : Type} {b o : Nat} {v : Value} {f : Value × OpLog → M γ} {mem : T Cell} {next : Nat} {Q : γ → St → Prop} (ht : tyS E t = some (1, false)) (h : At (dSt mem next) b o v)
    (k : ∀ rd : List Nat, (∀ x ∈ rd, x = b + o) → W (f (v, ⟨next, next, rd, []⟩)) (dSt mem next) Q) : W (M.bind (apartO (kLoad E t (.pointer (some ⟨b, o, none⟩)))) f) (dSt mem next) Q := by
  refine W.dop (W.load1 ht (h.same rfl rfl) ⟨fun x => x = b + o, Ext.rdN _ _ fun _ => rfl, fun rd hr => k rd fun x hx => (hr x hx).2⟩)
/-- Operations that make nothing and turn nothing. -/
theorem apartM_q {n0 : Nat} {l : List OpLog} {bef : List Nat} (hl : l.length ≤ bef.length) (h : ∀ m ∈ l, m.wr = [] ∧ m.lo = m.hi) : apartM n0 l bef = true :=
  apartM_ok hl (fun k m b e1 _ => ⟨(h m (List.mem_of_getElem? e1)).1, fun i a _ e3 => .inr fun x _ _ hx => by have := (h a (List.mem_of_getElem? e3)).2; omega⟩) fun m hm => (h m hm).1
theorem neqU (k : IntKind) (hk : isI64 k = false) (m n : Nat) (xo yo : Operand) : Cl.get (aBin E .neq t xo yo) (.int k (m : Nat)) (.int k (n : Nat)) s = .some (.bool (!decide (m = n))) s := by
  show int2 _ (int3 (cmpK fun m n => !Nat.beq m n) (binSlow E .neq t xo yo)) (.int k (.ofNat m)) (.int k (.ofNat n)) s = _
  unfold int2
  simp only [caseI, hk]
  show Option.rec (motive := fun _ => R Value) _ (fun v => .some v s) (cmpK (fun m n => !Nat.beq m n) k k m n) = _
  have : cmpK (fun m n => !Nat.beq m n) k k m n = some (.bool (!decide (m = n))) := by
    unfold cmpK sameK
    rw [Nat.beq_refl]
    show mkB (!Nat.beq m n) = _
    by_cases h : m = n
    · rw [h, Nat.beq_refl]; simp; rfl
    · have : Nat.beq m n = false := by
        cases e : Nat.beq m n with
        | false => rfl
        | true => exact absurd (Nat.eq_of_beq_eq_true e) h
      rw [this]; simp [h]; rfl
  rw [this]
theorem W_neqU8 {m n : Nat} {xo yo : Operand} (Q : Value → St → Prop) : W (Cl.get (aBin E .neq t xo yo) (.int .u8 (m : Nat)) (.int .u8 (n : Nat))) s Q = Q (.bool (!decide (m = n))) s := W_run (neqU .u8 rfl m n xo yo)
/-- Is a slice nil? -/
theorem eqNil {sz n b o c : Nat} {xo yo : Operand} (h : slN E t = some sz) : Cl.get (aBin E .eql t xo yo) (.slice (some ⟨b, o, none⟩) n c) (.slice none 0 0) s = .some (.bool false) s := by
  obtain ⟨i, e, ie, h1, h2, h3, h4⟩ := slN_inv h
  show refEq E .eql t (.slice (some ⟨b, o, none⟩) n c) (.slice none 0 0) s = _
  unfold refEq
  rw [bind_run (show ti E t s = .some i s by unfold ti; rw [h1]; rfl), h2]
  rfl
theorem W_eqNil {sz n b o c : Nat} {xo yo : Operand} (h : slN E t = some sz) (Q : Value → St → Prop) : W (Cl.get (aBin E .eql t xo yo) (.slice (some ⟨b, o, none⟩) n c) (.slice none 0 0)) s Q = Q (.bool false) s := W_run (eqNil h)
theorem W_not (b : Bool) (P : Program) (Q : Value → St → Prop) : W (kUn P .not (.bool b)) s Q = Q (.bool (!b)) s := W_run (by show rB (!b) s = _; exact rB_eq _ _)
noncomputable def ptrT (E : Env) (t : Nat) : Bool := match T.get E.ty t with | some i => (match i.u with | .pointer _ => true | _ => false) | none => false
theorem eqNilP {a : Addr} {xo yo : Operand} (h : ptrT E t = true) : Cl.get (aBin E .eql t xo yo) (.pointer (some a)) (.pointer none) s = .some (.bool false) s := by
  unfold ptrT at h
  split at h
  · rename_i i hi
    split at h
    · rename_i e hu
      show refEq E .eql t (.pointer (some a)) (.pointer none) s = _
      unfold refEq
      rw [bind_run (show ti E t s = .some i s by unfold ti; rw [hi]; rfl), hu]
      rfl
    · cases h
  · cases h
theorem W_eqNilP {a : Addr} {xo yo : Operand} (h : ptrT E t = true) (Q : Value → St → Prop) : W (Cl.get (aBin E .eql t xo yo) (.pointer (some a)) (.pointer none)) s Q = Q (.bool false) s := W_run (eqNilP h)
theorem rem_run (m n : Nat) (hn : 1 ≤ n) (xo yo : Operand) : Cl.get (aBin E .rem t xo yo) (.int .i64 (m : Nat)) (.int .i64 (n : Nat)) s = .some (.int .i64 (m % n : Nat)) s := by
  show int3 remK (binSlow E .rem t xo yo) (.int .i64 (.ofNat m)) (.int .i64 (.ofNat n)) s = _
  show Option.rec (motive := fun _ => R Value) _ (fun v => .some v s) (remK .i64 .i64 m n) = _
  have : remK .i64 .i64 m n = some (.int .i64 (m % n : Nat)) := by
    unfold remK sameK
    rw [Nat.beq_refl, Nat.ble_eq_true_of_le hn]
    show mkI .i64 (Nat.mod m n) = _
    unfold mkI
    rw [fN_eq]
    rfl
  rw [this]
theorem W_rem {m n : Nat} {xo yo : Operand} (hn : 1 ≤ n) (Q : Value → St → Prop) : W (Cl.get (aBin E .rem t xo yo) (.int .i64 (m : Nat)) (.int .i64 (n : Nat))) s Q = Q (.int .i64 (m % n : Nat)) s := W_run (rem_run m n hn xo yo)
theorem W_rem64' {m : Nat} {xo yo : Operand} (Q : Value → St → Prop) : W (Cl.get (aBin E .rem t xo yo) (.int .i64 (m : Nat)) (.int .i64 64)) s Q = Q (.int .i64 (m % 64 : Nat)) s := W_rem (n := 64) (by decide) Q
/-- Values in a row, loaded as one. -/
theorem W.dloadA {γ : Type} {b o n : Nat} {l : List Value} {f : Value × OpLog → M γ} {mem : T Cell} {next : Nat} {Q : γ → St → Prop} (ht : tyS E t = some (n, true)) (h : Row (dSt mem next) b o l) (hl : l.length = n)
    (k : ∀ (mem1 : T Cell) (rd : List Nat), mem1 = mem → (∀ x ∈ rd, In b o n x) → W (f (.agg l.toArray, ⟨next, next, rd, []⟩)) (dSt mem1 next) Q) : W (M.bind (apartO (kLoad E t (.pointer (some ⟨b, o, none⟩)))) f) (dSt mem next) Q := by
  refine W.dop (W.loadA ht (fun i v e => (h i v e).same rfl rfl) hl fun s1 m1 n1 x1 => ⟨In b o n, x1, fun rd hr => ?_⟩)
  rw [show s1.next = next from n1]
  exact k s1.mem rd m1 fun x hx => (hr x hx).2
theorem capU_gt {n : Nat} (h : n ≤ 1073741824) : n < capU := by unfold capU; omega
theorem W_capNil {sz : Nat} (h : slN E t = some sz) (Q : Value → St → Prop) : W (aBuiltin E .cap [t] [.slice none 0 0]) s Q = Q (.int .i64 ((0 : Nat) : Int)) s := by
  obtain ⟨i, e, ie, h1, h2, h3, h4⟩ := slN_inv h
  refine W_run ?_
  show aCap E t (.slice none 0 0) s = _
  unfold aCap
  rw [bind_run (show ti E t s = .some i s by unfold ti; rw [h1]; rfl)]
  simp only [h2]
  rw [blt_t capU_pos]
  rfl
end
end Go.Proofs.YtbmkpcjkadifhaaGreatDoor.Am
/- Results that lie in cells; structs and arrays built. -/
namespace Go.Proofs.YtbmkpcjkadifhaaGreatDoor.Am
open Go.RowKit
section
variable {E : Env} {s : St} {t : Nat}
/-- The end of a frame whose one result lies in a cell. -/
theorem W.endC {n f nt g r : Nat} {tm : T Value} {todo P : List Item} {ki : CallKind} {fn : Func} {a : Addr} {up : Option FrameMode} {Q : Value × FrameMode → St → Prop} (ht : skim 64 todo = P) (hP : (∃ k, P = .code .ret :: k) ∨ P = []) (hn : 2 ≤ n)
    (hf : E.fn.get f = some fn) (hr : fn.results.toList = [.cell r t]) (hc : s.cx = .cx up (some [])) (hv : Am.T.get tm r = some (.pointer (some a))) (q : W (kLoad E t (.pointer (some a))) s fun v s1 => Q (v, up.getD .run) s1) : W (runF E n ⟨f, nt, g, tm, todo, .run, ki, none⟩) s Q := by
  obtain ⟨m, rfl⟩ : ∃ m, n = m + 2 := ⟨n - 2, by omega⟩
  subst ht
  have h1 : W (runF E (m + 1) ⟨f, nt, g, tm, skim 64 todo, .returning, ki, none⟩) s Q := by
    refine W.run ?_
    show W (unwindF E (deferW E (runF E m)) ⟨f, nt, g, tm, skim 64 todo, .returning, ki, none⟩) s _
    refine W.bind (W.of (a := s.cx) (s' := s) (by obtain ⟨mem, next, lim, rd, wr, cx⟩ := s; rfl) ?_)
    rw [hc]
    show W (outF E ⟨f, nt, g, tm, skim 64 todo, .returning, ki, none⟩ up) s _
    refine W.on hf (W.bind ?_)
    show W (M.bind (resL E tm fn.results.toList) fun l => M.pure (tupV l)) s _
    rw [hr]
    refine W.bind ?_
    show W (M.bind (M.on (Am.T.get tm r) fun a => M.bind (asA a) fun a => aLoad E t a) fun v => M.bind (M.pure []) fun l => M.pure (v :: l)) s _
    rw [hv]
    refine W.bind ?_
    show W (kLoad E t (.pointer (some a))) s _
    refine q.mono fun v s1 q => ?_
    exact W.bind (W.pure (W.pure (W.pure (W.pure (W.pure q)))))
  rcases hP with ⟨k, ht⟩ | ht
  · refine W.code ht ?_
    rw [ht] at h1
    exact W.pure h1
  · refine W.run ?_
    show W (noP (runItems E (callW E (runF E (m + 1))) (roundW (runF E (m + 1))) ⟨f, nt, g, tm, skim 64 todo, .run, ki, none⟩ (skim 64 todo))) s _
    rw [ht] at h1 ⊢
    exact W.np (W.pure h1)
/-- A struct, an array of given parts. -/
noncomputable def buildN (E : Env) (t : Nat) (ps : List (Nat × Value)) : Option (List Value) :=
  match T.get E.ty t with
  | some i => (match i.u with
    | .struct fs => fillAll (placeS E fs) ps i.zero
    | .array _ e => (match T.get E.ty e with
      | some ie => fillAll (fun k => some (k * ie.size, ie.size)) ps i.zero
      | none => none)
    | _ => none)
  | none => none
theorem W_build {ps : List (Nat × Value)} {r : List Value} (h : buildN E t ps = some r) (Q : Value → St → Prop) : W (aBuild E t ps) s Q = Q (.agg r.toArray) s := by
  unfold buildN at h
  split at h
  · rename_i i hi
    split at h
    · rename_i fs hu
      refine W_run ?_
      unfold aBuild
      rw [bind_run (show ti E t s = .some i s by unfold ti; rw [hi]; rfl)]
      rw [hu]
      simp only [h]
      rfl
    · rename_i e hu
      split at h
      · rename_i ie he
        refine W_run ?_
        unfold aBuild
        rw [bind_run (show ti E t s = .some i s by unfold ti; rw [hi]; rfl)]
        rw [hu]
        simp only
        rw [bind_run (show ti E _ s = .some ie s by unfold ti; rw [he]; rfl), h]
        rfl
      · cases h
    · cases h
  · cases h
end
end Go.Proofs.YtbmkpcjkadifhaaGreatDoor.Am
/- Products; elements of an array that is a value. -/
namespace Go.Proofs.YtbmkpcjkadifhaaGreatDoor.Am
open Go.RowKit
section
variable {E : Env} {s : St} {t : Nat}
theorem mul_run (m n : Nat) (hn : m * n ≤ 9223372036854775807) (xo yo : Operand) : Cl.get (aBin E .mul t xo yo) (.int .i64 (m : Nat)) (.int .i64 (n : Nat)) s = .some (.int .i64 (m * n : Nat)) s := by
  show int3 mulK (binSlow E .mul t xo yo) (.int .i64 (.ofNat m)) (.int .i64 (.ofNat n)) s = _
  show Option.rec (motive := fun _ => R Value) _ (fun v => .some v s) (mulK .i64 .i64 m n) = _
  have : mulK .i64 .i64 m n = some (.int .i64 (m * n : Nat)) := by
    unfold mulK sameK fitI
    rw [Nat.beq_refl]
    show (Bool.rec (motive := fun _ => Option Value) _ (mkI .i64 (m * n)) (Nat.ble (m * n) (mxOf .i64)) : Option Value) = _
    rw [Nat.ble_eq_true_of_le (show m * n ≤ mxOf .i64 from hn)]
    show mkI .i64 (m * n) = _
    unfold mkI
    rw [fN_eq]
    rfl
  rw [this]
theorem W_mul {m n : Nat} {xo yo : Operand} (hn : m * n ≤ 9223372036854775807) (Q : Value → St → Prop) : W (Cl.get (aBin E .mul t xo yo) (.int .i64 (m : Nat)) (.int .i64 (n : Nat))) s Q = Q (.int .i64 (m * n : Nat)) s := W_run (mul_run m n hn xo yo)
theorem W_mul4 {n : Nat} {xo yo : Operand} (hn : 4 * n ≤ 9223372036854775807) (Q : Value → St → Prop) : W (Cl.get (aBin E .mul t xo yo) (.int .i64 4) (.int .i64 (n : Nat))) s Q = Q (.int .i64 (4 * n : Nat)) s := W_mul (m := 4) hn Q
theorem W_mul8 {n : Nat} {xo yo : Operand} (hn : 8 * n ≤ 9223372036854775807) (Q : Value → St → Prop) : W (Cl.get (aBin E .mul t xo yo) (.int .i64 8) (.int .i64 (n : Nat))) s Q = Q (.int .i64 (8 * n : Nat)) s := W_mul (m := 8) hn Q
/-- An array of one-cell elements. -/
noncomputable def arrU (E : Env) (t : Nat) : Option Nat := match T.get E.ty t with
  | some i => (match i.u with | .array n e => (match T.get E.ty e with | some ie => bif Nat.beq ie.size 1 && !ie.agg then some n else none | none => none) | _ => none)
  | none => none
theorem arrU_inv {n : Nat} (h : arrU E t = some n) : ∃ i e ie, T.get E.ty t = some i ∧ i.u = .array n e ∧ T.get E.ty e = some ie ∧ ie.size = 1 ∧ ie.agg = false := by
  unfold arrU at h
  split at h
  · rename_i i e
    split at h
    · rename_i n2 e2 q
      split at h
      · rename_i ie q2
        cases hc : (Nat.beq ie.size 1 && !ie.agg)
        · rw [hc] at h
          cases h
        · rw [hc] at h
          cases h
          rw [Bool.and_eq_true] at hc
          exact ⟨i, e2, ie, e, q, q2, Nat.eq_of_beq_eq_true hc.1, by simpa using hc.2⟩
      · cases h
    · cases h
  · cases h
theorem W_idxV {n k : Nat} {kd : IntKind} {cs : Array Value} {v : Value} (h : arrU E t = some n) (hk : k < n) (hv : cs.toList[k]? = some v) (Q : Value → St → Prop) : W (kIdx E t (.agg cs) (.int kd (k : Nat))) s Q = Q v s := by
  obtain ⟨i, e, ie, h1, h2, h3, h4, h5⟩ := arrU_inv h
  refine W_run ?_
  unfold kIdx
  rw [bind_run (show ti E t s = .some i s by unfold ti; rw [h1]; rfl), bind_run (show asN (.int kd (k : Nat)) s = .some k s from rfl)]
  unfold idxV
  rw [h2]
  simp only
  rw [bind_run (show ti E e s = .some ie s by unfold ti; rw [h3]; rfl), blt_t hk]
  show partV E e cs.toList (k * ie.size) s = _
  refine partV_run (n := 1) (g := false) (by unfold tyS; rw [h3]; simp [h4, h5]) (.inl ⟨rfl, ?_⟩)
  rw [h4, Nat.mul_one]
  exact hv
end
end Go.Proofs.YtbmkpcjkadifhaaGreatDoor.Am
/- Ends of frames with results of both kinds. -/
namespace Go.Proofs.YtbmkpcjkadifhaaGreatDoor.Am
open Go.RowKit
section
variable {E : Env} {s : St} {t : Nat}
theorem W.resNil {tm : T Value} {Q : List Value → St → Prop} (q : Q [] s) : W (resL E tm []) s Q := W.pure q
theorem W.resTmp {tm : T Value} {r : Nat} {v : Value} {rs : List ResultVar} {Q : List Value → St → Prop} (h : Am.T.get tm r = some v) (q : W (resL E tm rs) s fun l s1 => Q (v :: l) s1) : W (resL E tm (.tmp r :: rs)) s Q := by
  show W (M.bind (M.ofOpt (Am.T.get tm r)) fun v => M.bind (resL E tm rs) fun l => M.pure (v :: l)) s Q
  rw [h]
  exact W.bind (W.pure (W.bind (q.mono fun l s1 q => W.pure q)))
theorem W.resCell {tm : T Value} {r : Nat} {a : Addr} {rs : List ResultVar} {Q : List Value → St → Prop} (h : Am.T.get tm r = some (.pointer (some a))) (q : W (kLoad E t (.pointer (some a))) s fun v s1 => W (resL E tm rs) s1 fun l s2 => Q (v :: l) s2) : W (resL E tm (.cell r t :: rs)) s Q := by
  show W (M.bind (M.on (Am.T.get tm r) fun a => M.bind (asA a) fun a => aLoad E t a) fun v => M.bind (resL E tm rs) fun l => M.pure (v :: l)) s Q
  rw [h]
  refine W.bind ?_
  show W (kLoad E t (.pointer (some a))) s _
  exact q.mono fun v s1 q => W.bind (q.mono fun l s2 q => W.pure q)
/-- The end of a frame that no deferred call keeps, whatever its results. -/
theorem W.endG {n f nt g : Nat} {tm : T Value} {todo P : List Item} {ki : CallKind} {fn : Func} {rs : List ResultVar} {up : Option FrameMode} {Q : Value × FrameMode → St → Prop} (ht : skim 64 todo = P) (hP : (∃ k, P = .code .ret :: k) ∨ P = []) (hn : 2 ≤ n)
    (hf : E.fn.get f = some fn) (hr : fn.results.toList = rs) (hc : s.cx = .cx up (some [])) (q : W (resL E tm rs) s fun l s1 => Q (tupV l, up.getD .run) s1) : W (runF E n ⟨f, nt, g, tm, todo, .run, ki, none⟩) s Q := by
  obtain ⟨m, rfl⟩ : ∃ m, n = m + 2 := ⟨n - 2, by omega⟩
  subst ht
  have h1 : W (runF E (m + 1) ⟨f, nt, g, tm, skim 64 todo, .returning, ki, none⟩) s Q := by
    refine W.run ?_
    show W (unwindF E (deferW E (runF E m)) ⟨f, nt, g, tm, skim 64 todo, .returning, ki, none⟩) s _
    refine W.bind (W.of (a := s.cx) (s' := s) (by obtain ⟨mem, next, lim, rd, wr, cx⟩ := s; rfl) ?_)
    rw [hc]
    show W (outF E ⟨f, nt, g, tm, skim 64 todo, .returning, ki, none⟩ up) s _
    refine W.on hf (W.bind ?_)
    show W (M.bind (resL E tm fn.results.toList) fun l => M.pure (tupV l)) s _
    rw [hr]
    exact W.bind (q.mono fun l s1 q => W.pure (W.pure (W.pure q)))
  rcases hP with ⟨k, ht⟩ | ht
  · refine W.code ht ?_
    rw [ht] at h1
    exact W.pure h1
  · refine W.run ?_
    show W (noP (runItems E (callW E (runF E (m + 1))) (roundW (runF E (m + 1))) ⟨f, nt, g, tm, skim 64 todo, .run, ki, none⟩ (skim 64 todo))) s _
    rw [ht] at h1 ⊢
    exact W.np (W.pure h1)
end
end Go.Proofs.YtbmkpcjkadifhaaGreatDoor.Am
/- A range over a function: the loop, its rounds, its end; the end of a frame that had one. -/
namespace Go.Proofs.YtbmkpcjkadifhaaGreatDoor.Am
open Go.RowKit
section
variable {E : Env} {s : St} {t : Nat}
/-- A place that holds something that is no value. -/
def Obj (s : St) (l : Nat) (o : AObj) : Prop := l < s.next ∧ T.get s.mem l = some (.O o)
theorem Obj.ext {F G : Nat → Prop} {s s' : St} {l : Nat} {o : AObj} (h : Obj s l o) (e : Ext F G s s') (hG : ¬ G l) : Obj s' l o := ⟨Nat.lt_of_lt_of_le h.1 e.nxt, by rw [e.mem _ h.1 hG]; exact h.2⟩
theorem Obj.same {s s' : St} {l : Nat} {o : AObj} (h : Obj s l o) (hm : s'.mem = s.mem) (hn : s'.next = s.next) : Obj s' l o := by
  unfold Obj at *
  rw [hm, hn]
  exact h
theorem W.newO {o : AObj} {Q : Nat → St → Prop} (q : ∀ s1, s1.next = s.next + 1 → Ext Non Non s s1 → Obj s1 s.next o → Q s.next s1) : W (newO o) s Q := by
  obtain ⟨mem, next, lim, rd, wr, cx⟩ := s
  refine ⟨next, ⟨T.set mem next (.O o), next + 1, lim, rd, wr, cx⟩, ?_, q _ rfl ⟨by simp only; omega, rfl, rfl, fun l hl _ => ?_, ⟨[], rfl, fun _ h => by cases h⟩, ⟨[], rfl, fun _ h => by cases h⟩⟩ ⟨by simp only; omega, ?_⟩⟩
  · show Am.fN next (fun b => Am.fN (Nat.succ b) fun n => R.some b (St.mk (T.set mem b (.O o)) n lim rd wr cx)) = _
    rw [fN_eq, fN_eq]
  · simp only at hl ⊢
    rw [T.get_set, if_neg (by omega)]
  · simp only
    rw [T.get_set, if_pos rfl]
theorem W.getCx {Q : Ctx → St → Prop} (q : Q s.cx s) : W getCx s Q := by
  obtain ⟨mem, next, lim, rd, wr, cx⟩ := s
  exact ⟨cx, _, rfl, q⟩
theorem W.putCx {c : Ctx} {Q : Unit → St → Prop} (q : Q () (s.cxN c)) : W (putCx c) s Q := by
  obtain ⟨mem, next, lim, rd, wr, cx⟩ := s
  exact ⟨(), _, rfl, q⟩
abbrev collD (d : Nat) : Deferred := { target := .collected d, args := #[] }
noncomputable def rfP (l : List Item) : Option (Nat × List Nat × Code × Code) := match l with | .code (.rangeFunc (.tmp t) ps as bd) :: _ => some (t, ps.toList, as, bd) | _ => none
noncomputable def asC (l : List Item) : Code := match l with | .code (.rangeFunc _ _ as _) :: _ => as | _ => .skip
noncomputable def bdC (l : List Item) : Code := match l with | .code (.rangeFunc _ _ _ bd) :: _ => bd | _ => .skip
noncomputable def roundI (l : List Item) : List Item := match l with | .code (.rangeFunc _ _ as bd) :: _ => [.code as, .beginRound, .code bd] | _ => []
theorem rfP_inv {P : List Item} {t : Nat} {ps : List Nat} {as bd : Code} (h : rfP P = some (t, ps, as, bd)) : ∃ pa : Array Nat, P = .code (.rangeFunc (.tmp t) pa as bd) :: P.tail ∧ pa.toList = ps := by
  unfold rfP at h
  split at h
  · cases h
    exact ⟨_, rfl, rfl⟩
  · cases h
/-- A range over a function, from which no round goes away. -/
theorem W.rangeFunc {n f nt g f2 : Nat} {tm : T Value} {T P : List Item} {ki : CallKind} {first cap : Array Value} {up : Option FrameMode} {dfs : List Deferred} {ps : List Nat} {as bd : Code} {Q : Value × FrameMode → St → Prop} (ht : skim 64 T = P) (hP : rfP P = some (t, ps, as, bd)) (hv : Am.T.get tm t = some (.func (.func f2) first cap)) (hx : E.ext.get f2 = none)
    (hc : s.cx = .cx up (some dfs)) (hn : 0 < n)
    (h : ∀ s1, s1.next = s.next + 2 → Ext Non Non s s1 → Obj s1 s.next (.deferred (some [])) → Obj s1 (s.next + 1) (.loop .ready none f nt g tm ps as bd s.next) →
      W (callW E (runF E (n - 1)) f2 (first.toList ++ (.func (.yield (s.next + 1)) #[] #[] :: cap.toList))) (s1.cxN (.cx up (some (collD s.next :: dfs)))) fun _ s2 => Obj s2 (s.next + 1) (.loop .ready none f nt g tm ps as bd s.next) ∧
        W (runF E (n - 1) ⟨f, nt, g, tm, P.tail, .run, ki, none⟩) ((s2.rdN (s.next + 1)).wrN (s.next + 1) (.O (.loop .exhausted none f nt g tm ps as bd s.next))) Q) : W (runF E n ⟨f, nt, g, tm, T, .run, ki, none⟩) s Q := by
  obtain ⟨m, rfl⟩ : ∃ m, n = m + 1 := ⟨n - 1, by omega⟩
  rw [Nat.add_sub_cancel] at h
  obtain ⟨pa, hP2, rfl⟩ := rfP_inv hP
  rw [hP2] at ht
  refine W.code ht ?_
  show W (M.on (Am.T.get tm t) fun fv => rangeF E (callW E (runF E m)) ⟨f, nt, g, tm, .code (.rangeFunc (.tmp t) pa as bd) :: P.tail, .run, ki, none⟩ fv pa as bd P.tail) s _
  refine W.on hv (W.bind (W.bind (W.newO fun sa na xa oa => W.bind (W.getCx ?_))))
  have hca : sa.cx = .cx up (some dfs) := by rw [xa.cx]; exact hc
  rw [hca]
  refine W.bind (W.putCx (W.pure (W.bind (W.newO fun sb nb xb ob => ?_))))
  have hb : W (callW E (runF E m) f2 (first.toList ++ (.func (.yield (s.next + 1)) #[] #[] :: cap.toList))) sb fun _ s2 => Obj s2 (s.next + 1) (.loop .ready none f nt g tm pa.toList as bd s.next) ∧
        W (runF E m ⟨f, nt, g, tm, P.tail, .run, ki, none⟩) ((s2.rdN (s.next + 1)).wrN (s.next + 1) (.O (.loop .exhausted none f nt g tm pa.toList as bd s.next))) Q := by
    have hn1 : (sa.cxN (.cx up (some (collD s.next :: dfs)))).next = s.next + 1 := na
    rw [hn1] at ob nb
    have hcb : sb.cx = .cx up (some (collD s.next :: dfs)) := xb.cx
    have x : Ext Non Non s (sb.cxN s.cx) := by
      refine ⟨?_, ?_, rfl, fun l hl hg => ?_, ?_, ?_⟩
      · show s.next ≤ sb.next
        omega
      · exact xb.lim.trans xa.lim
      · exact (xb.mem l (show l < sa.next by omega) hg).trans (xa.mem l hl hg)
      · obtain ⟨d1, p1, p2⟩ := xa.rd
        obtain ⟨d2, p3, p4⟩ := xb.rd
        refine ⟨d2 ++ d1, ?_, fun l hl => ?_⟩
        · rw [List.append_assoc, ← p1]; exact p3
        · rcases List.mem_append.1 hl with hl | hl
          · exact (p4 l hl).2.elim
          · exact (p2 l hl).2.elim
      · obtain ⟨d1, p1, p2⟩ := xa.wr
        obtain ⟨d2, p3, p4⟩ := xb.wr
        refine ⟨d2 ++ d1, ?_, fun l hl => ?_⟩
        · rw [List.append_assoc, ← p1]; exact p3
        · rcases List.mem_append.1 hl with hl | hl
          · exact (p4 l hl).2.elim
          · exact (p2 l hl).2.elim
    have := h (sb.cxN s.cx) (by show sb.next = _; omega) x (by
      have h1 : Obj (sa.cxN (.cx up (some (collD s.next :: dfs)))) s.next (.deferred (some [])) := oa.same rfl rfl
      exact (h1.ext xb id).same rfl rfl) (ob.same rfl rfl)
    rw [show (sb.cxN s.cx).cxN (.cx up (some (collD s.next :: dfs))) = sb by
      rw [← hcb]; rfl] at this
    exact this
  have hn1 : (sa.cxN (.cx up (some (collD s.next :: dfs)))).next = s.next + 1 := na
  rw [hn1]
  refine W.bind (W.np ?_)
  show W (M.chk (E.ext.get f2).isNone (callW E (runF E m) f2 (first.toList ++ (.func (.yield (s.next + 1)) #[] #[] :: cap.toList)))) sb _
  refine W.chk (by rw [hx]; rfl) (hb.mono fun _ s2 q => ?_)
  obtain ⟨q1, q2⟩ := q
  show W (M.bind (Am.rdC (s.next + 1)) _) s2 _
  refine W.bind (W.rdC q1.2 q1.1 ?_)
  exact W.bind (W.wrC q1.1 (W.pure q2))
theorem W.yield {call round : CallT} {l : Nat} {args : List Value} {Q : Value → St → Prop} (h : W (round l args) s Q) : W (callV call round (.func (.yield l) #[] #[]) args) s Q := h
/-- A round. -/
theorem W.round {n l f nt g d : Nat} {tm : T Value} {ps : List Nat} {as bd : Code} {st : LoopState} {pe : Option Code} {args : List Value} {Q : Value → St → Prop} (hO : Obj s l (.loop st pe f nt g tm ps as bd d)) (ha : args.length = ps.length) (hps : ps.all (fun p => Nat.blt p nt) = true)
    (h : W (runF E n ⟨f, nt, g, setPs g ps args tm, [.code as, .beginRound, .code bd], .run, .normal, some l⟩) ((s.rdN l).cxN cxR) fun p s1 => Q p.1 (s1.cxN s.cx)) : W (roundW (runF E n) l args) s Q := by
  refine W.np (W.within (W.bind (W.bind ?_)))
  refine W.bind (W.rdC (s := s.cxN cxR) hO.2 hO.1 ?_)
  show W (M.chk (Nat.beq args.length ps.length && ps.all fun p => Nat.blt p nt) _) _ _
  refine W.chk (by rw [ha, hps, Nat.beq_refl]; rfl) (W.pure ?_)
  exact h.mono fun p s1 q => W.pure q
theorem W.begR {n l f nt g f' nt' g' d : Nat} {tm tm' : T Value} {T k : List Item} {ki : CallKind} {ps : List Nat} {as bd : Code} {pe : Option Code} {Q : Value × FrameMode → St → Prop} (ht : skim 64 T = .beginRound :: k) (hO : Obj s l (.loop .ready pe f' nt' g' tm' ps as bd d)) (hn : 0 < n)
    (h : W (runF E (n - 1) ⟨f, nt, g, tm, k, .run, ki, some l⟩) ((s.rdN l).wrN l (.O (.loop .busy pe f' nt' g' tm' ps as bd d))) Q) : W (runF E n ⟨f, nt, g, tm, T, .run, ki, some l⟩) s Q := by
  obtain ⟨m, rfl⟩ : ∃ m, n = m + 1 := ⟨n - 1, by omega⟩
  rw [Nat.add_sub_cancel] at h
  refine W.run ?_
  show W (noP (runItems E (callW E (runF E m)) (roundW (runF E m)) ⟨f, nt, g, tm, skim 64 T, .run, ki, some l⟩ (skim 64 T))) s _
  rw [ht]
  refine W.np ?_
  show W (M.bind (Am.rdC l) _) s _
  exact W.bind (W.rdC hO.2 hO.1 (W.bind (W.wrC hO.1 (W.pure h))))
/-- A round's end: on with the next one. -/
theorem W.endR {n l f nt g f' nt' g' d : Nat} {tm tm' : T Value} {T : List Item} {ki : CallKind} {ps : List Nat} {as bd : Code} {st : LoopState} {pe : Option Code} {Q : Value × FrameMode → St → Prop} (ht : skim 64 T = []) (hO : Obj s l (.loop st pe f' nt' g' tm' ps as bd d)) (hn : 0 < n)
    (q : Q (.bool true, .run) ((s.rdN l).wrN l (.O (.loop .ready none f' nt' g' tm' ps as bd d)))) : W (runF E n ⟨f, nt, g, tm, T, .run, ki, some l⟩) s Q := by
  obtain ⟨m, rfl⟩ : ∃ m, n = m + 1 := ⟨n - 1, by omega⟩
  refine W.run ?_
  show W (noP (runItems E (callW E (runF E m)) (roundW (runF E m)) ⟨f, nt, g, tm, skim 64 T, .run, ki, some l⟩ (skim 64 T))) s _
  rw [ht]
  refine W.np ?_
  show W (M.bind (Am.rdC l) _) s _
  exact W.bind (W.rdC hO.2 hO.1 (W.bind (W.wrC hO.1 (W.pure (W.pure q)))))
/-- The end of a frame that a range over a function has left a mark in. -/
theorem W.endK {n f nt g d : Nat} {tm : T Value} {todo P : List Item} {ki : CallKind} {fn : Func} {rs : List ResultVar} {up : Option FrameMode} {Q : Value × FrameMode → St → Prop} (ht : skim 64 todo = P) (hP : (∃ k, P = .code .ret :: k) ∨ P = []) (hn : 3 ≤ n)
    (hf : E.fn.get f = some fn) (hr : fn.results.toList = rs) (hc : s.cx = .cx up (some [collD d])) (hO : Obj s d (.deferred (some []))) (q : W (resL E tm rs) (((s.cxN (.cx up (some []))).rdN d).wrN d (.O (.deferred none))) fun l s1 => Q (tupV l, up.getD .run) s1) : W (runF E n ⟨f, nt, g, tm, todo, .run, ki, none⟩) s Q := by
  obtain ⟨m, rfl⟩ : ∃ m, n = m + 3 := ⟨n - 3, by omega⟩
  subst ht
  have h1 : W (runF E (m + 2) ⟨f, nt, g, tm, skim 64 todo, .returning, ki, none⟩) s Q := by
    refine W.run ?_
    show W (unwindF E (deferW E (runF E (m + 1))) ⟨f, nt, g, tm, skim 64 todo, .returning, ki, none⟩) s _
    refine W.bind (W.getCx ?_)
    rw [hc]
    show W (noP (M.bind (Am.putCx (.cx up (some []))) fun _ => runD (deferW E (runF E (m + 1))) ⟨f, nt, g, tm, skim 64 todo, .returning, ki, none⟩ (collD d))) s _
    refine W.np (W.bind (W.putCx ?_))
    show W (M.bind (Am.rdC d) _) _ _
    refine W.bind (W.rdC (s := s.cxN (.cx up (some []))) hO.2 hO.1 (W.bind (W.wrC hO.1 (W.pure ?_))))
    refine W.run ?_
    show W (unwindF E (deferW E (runF E m)) ⟨f, nt, g, tm, skim 64 todo, .returning, ki, none⟩) _ _
    refine W.bind (W.getCx ?_)
    show W (outF E ⟨f, nt, g, tm, skim 64 todo, .returning, ki, none⟩ up) _ _
    refine W.on hf (W.bind ?_)
    show W (M.bind (resL E tm fn.results.toList) fun l => M.pure (tupV l)) _ _
    rw [hr]
    exact W.bind (q.mono fun l s1 q => W.pure (W.pure (W.pure q)))
  rcases hP with ⟨k, ht⟩ | ht
  · refine W.code ht ?_
    rw [ht] at h1
    exact W.pure h1
  · refine W.run ?_
    show W (noP (runItems E (callW E (runF E (m + 2))) (roundW (runF E (m + 2))) ⟨f, nt, g, tm, skim 64 todo, .run, ki, none⟩ (skim 64 todo))) s _
    rw [ht] at h1 ⊢
    exact W.np (W.pure h1)
end
end Go.Proofs.YtbmkpcjkadifhaaGreatDoor.Am
/- From what is said of all states of the evaluator to contracts: arguments that lay there ahead of the call. -/
namespace Go.Proofs.YtbmkpcjkadifhaaGreatDoor.Am
open Go.RowKit

/-- A memory of nothing but what lay there ahead of the call. -/
theorem Rel.ofOld {w : World} {r : Inj} {mem : T Cell} (hk : r.known.sure w) (hd : ∀ b b' d, r.blk b = some (b', d) → b' < w.heap.size)
    (ho : ∀ loc c, T.get mem loc = some c → ∃ b v, c = .O (.old b v) ∧ ∃ b' d v', b ≤ loc ∧ r.blk b = some (b', d) ∧ w.cell? ⟨b', loc - b + d, none⟩ = some v' ∧ VR r v v') : Rel w r mem w where
  below := .refl _ _
  dom := fun b b' d e => ⟨Nat.le_refl _, hd b b' d e⟩
  cell := fun l b v e => by obtain ⟨_, _, e2, _⟩ := ho _ _ e; cases e2
  sep := fun l1 l2 b1 v1 b2 v2 b' d1 d2 e => by obtain ⟨_, _, e2, _⟩ := ho _ _ e; cases e2
  obj := fun l o e ht => by obtain ⟨_, _, e2, _⟩ := ho _ _ e; cases e2; cases ht
  sepO := fun l1 l2 o1 o2 b' d1 d2 e _ ht => by obtain ⟨_, _, e2, _⟩ := ho _ _ e; cases e2; cases ht
  tok := fun t sz e => by obtain ⟨_, _, e2, _⟩ := ho _ _ e; cases e2
  sepT := fun t1 t2 s1 s2 k1 k2 e => by obtain ⟨_, _, e2, _⟩ := ho _ _ e; cases e2
  known := hk
  szs := fun l n e => by obtain ⟨_, _, e2, _⟩ := ho _ _ e; cases e2
  olds := {
    old := fun l b v e => by obtain ⟨_, _, e2, h⟩ := ho _ _ e; cases e2; exact h
    newC := fun l b v b' d e => by obtain ⟨_, _, e2, _⟩ := ho _ _ e; cases e2
    newO := fun l o b' d e ht => by obtain ⟨_, _, e2, _⟩ := ho _ _ e; cases e2; cases ht
    newS := fun l n b' d e => by obtain ⟨_, _, e2, _⟩ := ho _ _ e; cases e2 }
/-- A call of given arguments, from any world that has them: it returns what is said, if that has no address in it; nothing that was there is touched. -/
theorem calls_sym {E : Env} (he : EnvOK E) {fuel f : Nat} {args : List Value} {args' : Array Value} {v : Value} {s0 : St} {r : Inj} (ho : E.orc.get f = none) (hx : E.ext.get f = none) (h : W (callW E (runF E fuel) f args) s0 fun u _ => u = v) (hp : plain v = true) {w : World} (ha : VRs r args args'.toList) (hr : Rel w r s0.mem w) (hb : Bnd s0)
    (hf : ∀ b, s0.next ≤ b → r.blk b = none ∧ r.ext b = none) : Calls E.P f args' w fun e w' => e = .returned v ∧ Below w.heap.size w w' := by
  intro cs
  obtain ⟨_, s', h, rfl⟩ := h
  unfold callW at h
  rw [ho, hx] at h
  obtain ⟨s2, e1, rfl⟩ := within_rOf (o := .inl _) (show within cxN (M.bind (M.bind (enterF E f args .normal) (runF E fuel)) fstV) s0 = rOf (.inl _) s' from h)
  obtain ⟨af, s1, o, e2, e3, e4⟩ := fst_rOf (np_enterF _ _ _) e1
  obtain ⟨_, hF, rfl⟩ := enter_ok (r := r) (base := ([], cs)) (cx := cxN) he e2 ha (cs := cs) ⟨⟨rfl, rfl⟩, rfl, .nil⟩
  obtain ⟨w', r', k1, k2, cs', k3, k4⟩ := (runF_ok he fuel).ok e3 hF hr hb (fun b h1 _ => hf b h1)
  cases o with
  | inr c => cases e4
  | inl p =>
    cases e4
    obtain ⟨v', q1, q2, q3⟩ := k4
    obtain ⟨fr', x1, x2, x3⟩ := q3 rfl rfl
    have hcs : cs' = cs := by
      rcases k3 with k3 | ⟨_, _, _, _, _, k, _⟩
      · exact k3.2
      · cases k
    subst hcs
    exact ⟨.returned v', w', fr', ⟨by rw [q1.eq_of_plain hp], k1.rel.below⟩, x3, x1, x2⟩
/-- .. of arguments that have no address in them. -/
theorem VRs.plains {r : Inj} : ∀ {l : List Value}, (∀ v ∈ l, plain v = true) → VRs r l l
  | [], _ => .nil
  | v :: l, h => .cons (.of_plain (h v (by simp))) (VRs.plains fun u hu => h u (by simp [hu]))
theorem calls_plain {E : Env} (he : EnvOK E) {fuel f : Nat} {args : Array Value} {v : Value} (ho : E.orc.get f = none) (hx : E.ext.get f = none) (h : W (callW E (runF E fuel) f args.toList) st0 fun u _ => u = v) (hp : plain v = true) (ha : ∀ v ∈ args.toList, plain v = true) (w : World) :
    Calls E.P f args w fun e w' => e = .returned v ∧ Below w.heap.size w w' :=
  calls_sym he ho hx h hp (VRs.plains ha) (Rel.empty w (Know.no_sure w)) (Nat.le_refl _) fun _ _ => ⟨rfl, rfl⟩

/-! ### What arguments of these types are -/
theorem ok_int {P : Program} {w : World} {rc : Reach} {base : Nat} {t : TypeId} {v : Value} {k : IntKind} (hu : P.underlying t = some (.int k)) (h : Value.okWide P w rc base t v) : ∃ n, v = .int k n ∧ k.min ≤ n ∧ n ≤ k.max := by
  unfold Value.okWide at h
  rw [hu] at h
  simp only at h
  unfold Cell.okWide Cell.ok at h
  rw [hu] at h
  cases v <;> simp at h
  rename_i k' n
  obtain ⟨rfl, h1, h2⟩ := h
  exact ⟨n, rfl, h1, h2⟩
theorem ok_str {P : Program} {w : World} {rc : Reach} {base : Nat} {t : TypeId} {v : Value} (hu : P.underlying t = some .string) (h : Value.okWide P w rc base t v) : ∃ s, v = .string s ∧ s.size ≤ 9223372036854775807 := by
  unfold Value.okWide at h
  rw [hu] at h
  simp only at h
  unfold Cell.okWide Cell.ok at h
  rw [hu] at h
  cases v <;> simp at h
  rename_i s
  refine ⟨s, rfl, ?_⟩
  have : (s.size : Int) ≤ 9223372036854775807 := h
  omega
/-! ### A row of bytes that lay there -/
noncomputable def layT (b : Nat) : List Value → Nat → T Cell → T Cell
  | [], _, t => t
  | v :: l, i, t => layT b l (i + 1) (T.set t i (.O (.old b v)))
theorem layT_get (b : Nat) : ∀ (l : List Value) (i : Nat) (t : T Cell) (j : Nat), T.get (layT b l i t) j = if i ≤ j ∧ j < i + l.length then (l[j - i]?).map (fun v => .O (.old b v)) else T.get t j
  | [], i, t, j => by
    rw [if_neg (by simp only [List.length_nil]; omega)]
    rfl
  | v :: l, i, t, j => by
    show T.get (layT b l (i + 1) (T.set t i (.O (.old b v)))) j = _
    rw [layT_get b l (i + 1), T.get_set]
    simp only [List.length_cons]
    by_cases h1 : j = i
    · subst h1
      rw [if_neg (by omega), if_pos rfl, if_pos (by omega), Nat.sub_self]
      rfl
    · rw [if_neg h1]
      by_cases h2 : i + 1 ≤ j ∧ j < i + 1 + l.length
      · rw [if_pos h2, if_pos (by omega), show j - i = (j - (i + 1)) + 1 by omega]
        rfl
      · rw [if_neg h2, if_neg (by omega)]
/-- A state in which this row lies, from its first place on. -/
noncomputable def stRow (l : List Value) : St := ⟨layT 0 l 0 .E, l.length + 1, 0, [], [], .no⟩
theorem stRow_row (l : List Value) : Row (stRow l) 0 0 l := fun i v e => by
  have hi := (List.getElem?_eq_some_iff.1 e).1
  refine ⟨?_, .inr ?_⟩
  · show 0 + (0 + i) < l.length + 1
    omega
  · show T.get (layT 0 l 0 .E) (0 + (0 + i)) = _
    rw [layT_get, if_pos (by omega), show 0 + (0 + i) - 0 = i by omega, e]
    rfl
/-- Where it lies; a mark for the room behind it. -/
def injRow (b' d : Nat) (k : Tok) : Inj := ⟨fun b => if b = 0 then some (b', d) else none, fun t => if t = 0 then some k else none, .no⟩
theorem stRow_rel {w : World} {l : List Value} {b' d : Nat} {k : Tok} (hb : b' < w.heap.size) (hl : ∀ i v, l[i]? = some v → plain v = true ∧ w.cell? ⟨b', i + d, none⟩ = some v) : Rel w (injRow b' d k) (stRow l).mem w := by
  refine Rel.ofOld (Know.no_sure w) (fun b b2 d2 e => ?_) fun loc c e => ?_
  · simp only [injRow] at e
    split at e
    · cases e; exact hb
    · cases e
  · have e' : T.get (layT 0 l 0 .E) loc = some c := e
    rw [layT_get] at e'
    split at e'
    · rename_i h
      rw [Option.map_eq_some_iff] at e'
      obtain ⟨v, e1, rfl⟩ := e'
      obtain ⟨h1, h2⟩ := hl _ _ e1
      exact ⟨0, v, rfl, b', d, v, Nat.zero_le _, by simp [injRow], h2, .of_plain h1⟩
    · cases e'
/-- A slice of these cells, as the evaluator has it. -/
noncomputable def slRow (n c : Nat) : Value := .slice (some ⟨0, 0, none⟩) n (if c < capU then c else capU + n)
theorem slRow_vr {b' d n c : Nat} (hn : n ≤ c) (hc : n < capU) : VR (injRow b' d ⟨c - n, b', d + n, 1⟩) (slRow n c) (.slice (some ⟨b', d, none⟩) n c) := by
  have h : VR (injRow b' d ⟨c - n, b', d + n, 1⟩) (.slice (some ⟨0, 0, none⟩) n (if c < capU then c else capU + n)) (.slice (some ⟨b', 0 + d, none⟩) n c) := by
    by_cases h : c < capU
    · rw [if_pos h]
      exact .sl (by simp [injRow]) (.inl ⟨Nat.div_eq_of_lt h, rfl⟩) (by rw [Nat.mod_eq_of_lt h]; exact hn)
    · rw [if_neg h]
      have hd : (capU + n) / capU = 1 := by
        rw [Nat.add_div_left _ (by decide), Nat.div_eq_of_lt hc]
      have hm : (capU + n) % capU = n := by
        rw [Nat.add_mod_left, Nat.mod_eq_of_lt hc]
      refine .sl (by simp [injRow]) (.inr ⟨by rw [hd]; decide, ⟨c - n, b', d + n, 1⟩, ?_, ?_, ?_, rfl, ?_⟩) (by rw [hm]; exact Nat.le_refl _)
      · rw [hd]; rfl
      · rw [hd]
      · rw [hm]; simp only; omega
      · rw [hm]; simp only; omega
  rw [Nat.zero_add] at h
  exact h
end Go.Proofs.YtbmkpcjkadifhaaGreatDoor.Am
/- Arguments that are slices of bytes: what they are, as the evaluator has them. -/
namespace Go.Proofs.YtbmkpcjkadifhaaGreatDoor.Am
open Go.RowKit Go.ChangeShapes Go.WideShapes

theorem add_cell {w : World} {b o : Nat} {i : Nat} {v : Value} (h : w.cell? ((⟨b, o, none⟩ : Addr).add i) = some v) : w.cell? ⟨b, i + o, none⟩ = some v := by
  have e : (⟨b, o, none⟩ : Addr).add i = ⟨b, i + o, none⟩ := by
    unfold Addr.add
    split
    · rename_i h0
      rw [h0, Nat.zero_add]
    · show (⟨b, o + i, none⟩ : Addr) = _
      rw [Nat.add_comm]
  rw [← e]
  exact h
/-- A slice of bytes that came in. -/
theorem ok_bytes {H : Type} {enc : TypeId × Value → H} {P : Program} {w : World} {base b0 : Nat} {sp : Nat → Bool} {held : Bool} {t e : TypeId} {v : Value} {d : DataW H} {ps : List MemPlace} (ht : P.underlying t = some (.slice e)) (he : P.underlying e = some (.int .u8)) (hc : P.cellsOf e = 1) (hok : Value.okWide P w .any base t v) (hd : DataW.Trod enc P w b0 sp held t v d ps) :
    v = .slice none 0 0 ∨ ∃ (b o len cap : Nat) (l : List Nat), v = .slice (some ⟨b, o, none⟩) len cap ∧ len ≤ cap ∧ cap ≤ 9223372036854775807 ∧ l.length = len ∧ b < w.heap.size ∧ (∀ x ∈ l, x < 256) ∧ ∀ i x, l[i]? = some x → w.cell? ⟨b, i + o, none⟩ = some (.int .u8 (x : Nat)) := by
  obtain ⟨a0, len0, cap0, rfl⟩ := okWide_slice ht hok
  obtain ⟨fuel, hf⟩ := hd
  rcases open_ints ht he hc hf with ⟨hcs, _⟩ | ⟨a, len, cap, zs, hcs, _, hl, hm, hz, _, hcell, hwz⟩
  · left
    simpa [Value.cells] using hcs
  · right
    have hcs' : Value.slice a0 len0 cap0 = .slice (some a) len cap := by simpa [Value.cells] using hcs
    obtain ⟨h1, h2, h3⟩ : a0 = some a ∧ len0 = len ∧ cap0 = cap := by simpa using hcs'
    subst h1 h2 h3
    unfold Value.okWide at hok
    rw [ht] at hok
    simp only at hok
    unfold Cell.okWide Cell.ok at hok
    rw [ht] at hok
    obtain ⟨_, _, _, hspot, row, cells, hsh, _⟩ := hok
    obtain ⟨b, o, spot⟩ := a
    simp only at hspot
    subst hspot
    have hb : b < w.heap.size := by
      unfold World.shape? at hsh
      cases hq : w.heap[b]? with
      | none => simp only [hq] at hsh; cases hsh
      | some x => exact (Array.getElem?_eq_some_iff.1 hq).1
    have hlz : len0 ≤ zs.length := by rw [hz]; split <;> omega
    have hby : ∀ n ∈ zs, 0 ≤ n ∧ n ≤ 255 := fun n hn => by
      have := hwz n hn
      unfold Lit.wf at this
      rw [Bool.and_eq_true, decide_eq_true_eq, decide_eq_true_eq] at this
      exact this
    refine ⟨b, o, len0, cap0, (zs.take len0).map Int.toNat, rfl, hl, hm, by rw [List.length_map, List.length_take]; omega, hb, fun x hx => ?_, fun i x hi => ?_⟩
    · obtain ⟨z, hz, rfl⟩ := List.mem_map.1 hx
      have := hby z (List.mem_of_mem_take hz)
      omega
    · rw [List.getElem?_map, Option.map_eq_some_iff] at hi
      obtain ⟨z, hzi, rfl⟩ := hi
      have hil : i < len0 := by
        have := (List.getElem?_eq_some_iff.1 hzi).1
        rw [List.length_take] at this
        omega
      rw [List.getElem?_take, if_pos hil] at hzi
      have hc2 := hcell i (by omega)
      have hg : zs.getD i 0 = z := by rw [List.getD_eq_getElem?_getD, hzi]; rfl
      rw [hg] at hc2
      have hz0 := hby z (List.mem_of_getElem? hzi)
      have : ((z.toNat : Nat) : Int) = z := by omega
      rw [this]
      exact add_cell hc2
/-- A state in which such bytes lie. -/
theorem row_bs (l : List Nat) {cap : Nat} (hc : l.length ≤ cap) (hm : cap ≤ 9223372036854775807) : slRow l.length cap = .slice (some ⟨0, 0, none⟩) l.length cap ∧ l.length ≤ cap % capU ∧ sizeOk cap 1 = true ∧ Row (stRow (u8l l)) 0 0 (u8l l) := by
  have h : cap < capU := by unfold capU; omega
  refine ⟨by unfold slRow; rw [if_pos h], by rw [Nat.mod_eq_of_lt h]; exact hc, sizeOk_exact h, stRow_row _⟩
theorem calls_bytes {E : Env} (he : EnvOK E) {fuel f : Nat} {v : Value} {l : List Nat} {b o cap : Nat} (ho : E.orc.get f = none) (hx : E.ext.get f = none) (hc : l.length ≤ cap) (hm : cap ≤ 9223372036854775807) (h : W (callW E (runF E fuel) f [.slice (some ⟨0, 0, none⟩) l.length cap]) (stRow (u8l l)) fun u _ => u = v) (hp : plain v = true) {w : World} (hb : b < w.heap.size)
    (hl : ∀ i x, l[i]? = some x → w.cell? ⟨b, i + o, none⟩ = some (.int .u8 (x : Nat))) : Calls E.P f #[.slice (some ⟨b, o, none⟩) l.length cap] w fun e w' => e = .returned v ∧ Below w.heap.size w w' := by
  have hn : l.length < capU := by unfold capU; omega
  refine calls_sym (r := injRow b o ⟨cap - l.length, b, o + l.length, 1⟩) (s0 := stRow (u8l l)) he ho hx h hp ?_ (stRow_rel hb fun i v hi => ?_) (Nat.zero_le _) fun x hx => ?_
  · refine .cons ?_ .nil
    have := slRow_vr (b' := b) (d := o) (n := l.length) (c := cap) hc hn
    rw [(row_bs l hc hm).1] at this
    exact this
  · rw [List.getElem?_map, Option.map_eq_some_iff] at hi
    obtain ⟨y, hy, rfl⟩ := hi
    exact ⟨rfl, hl i y hy⟩
  · have h1 : (u8l l).length + 1 ≤ x := hx
    unfold injRow
    simp only
    rw [if_neg (by omega), if_neg (by omega)]
    exact ⟨rfl, rfl⟩
end Go.Proofs.YtbmkpcjkadifhaaGreatDoor.Am
/- Arguments of any plain type (numbers, truth values, texts, slices, structs, arrays of such), laid into the evaluator's memory. -/
namespace Go.Proofs.YtbmkpcjkadifhaaGreatDoor.Am
open Go.RowKit Go.ChangeShapes Go.WideShapes

/-- A memory of nothing but old cells, up to a place. -/
structure OldSt (w : World) (m : T Cell) (nx : Nat) (r : Inj) : Prop where
  ho : ∀ loc c, T.get m loc = some c → loc < nx ∧ ∃ b v, c = .O (.old b v) ∧ ∃ b' d v', b ≤ loc ∧ r.blk b = some (b', d) ∧ w.cell? ⟨b', loc - b + d, none⟩ = some v' ∧ VR r v v'
  hd : ∀ b b' d, r.blk b = some (b', d) → b < nx ∧ b' < w.heap.size
  hx : ∀ b, r.ext b = none
  hk : r.known = .no
structure Grow (m : T Cell) (nx : Nat) (r : Inj) (m' : T Cell) (nx' : Nat) (r' : Inj) : Prop where
  le : r.le r'
  nle : nx ≤ nx'
  mem : ∀ l, l < nx → T.get m' l = T.get m l
theorem Grow.refl (m : T Cell) (nx : Nat) (r : Inj) : Grow m nx r m nx r := ⟨Inj.le_refl r, Nat.le_refl _, fun _ _ => rfl⟩
theorem Grow.trans {m m' m'' : T Cell} {nx nx' nx'' : Nat} {r r' r'' : Inj} (h : Grow m nx r m' nx' r') (k : Grow m' nx' r' m'' nx'' r'') : Grow m nx r m'' nx'' r'' :=
  ⟨Inj.le_trans h.le k.le, Nat.le_trans h.nle k.nle, fun l hl => (k.mem l (Nat.lt_of_lt_of_le hl h.nle)).trans (h.mem l hl)⟩
noncomputable def stO (m : T Cell) (nx : Nat) : St := ⟨m, nx, 0, [], [], .no⟩
theorem Grow.row {m m' : T Cell} {nx nx' : Nat} {r r' : Inj} (g : Grow m nx r m' nx' r') {b o : Nat} {l : List Value} (h : Row (stO m nx) b o l) : Row (stO m' nx') b o l := fun i v e => by
  have hl : b + (o + i) < nx := (h i v e).1
  refine ⟨Nat.lt_of_lt_of_le hl g.nle, ?_⟩
  show T.get m' (b + (o + i)) = _ ∨ T.get m' (b + (o + i)) = _
  rw [g.mem _ hl]
  exact (h i v e).2
/-- What cells of a type are, as the evaluator has them. -/
def HoldsT (P : Program) (N : Nat) (s : St) : Nat → TypeId → List Value → Prop
  | 0, _, _ => False
  | f + 1, t, us => match P.underlying t with
    | some .bool => ∃ b, us = [.bool b]
    | some (.int k) => ∃ n, us = [.int k n] ∧ (Lit.int k n).wf = true
    | some .string => ∃ x : ByteArray, us = [.string x] ∧ x.size ≤ maxLen ∧ x.size ≤ N
    | some (.slice e) => us = [.slice none 0 0] ∨ us = [.slice (some ⟨0, 0, none⟩) 0 (capU * P.cellsOf e)] ∨ ∃ b n c, us = [.slice (some ⟨b, 0, none⟩) n c] ∧ 0 < n ∧ n ≤ c ∧ c ≤ maxLen ∧ n ≤ N ∧ ∀ i, i < n → ∃ es, es.length = P.cellsOf e ∧ Row s b (i * P.cellsOf e) es ∧ HoldsT P N s f e es
    | some (.struct fs) => us.length = P.cellsOf t ∧ ∀ x ∈ fs.toList, HoldsT P N s f x.type ((us.drop x.offset).take (P.cellsOf x.type))
    | some (.array n e) => us.length = P.cellsOf t ∧ ∀ i, i < n → HoldsT P N s f e ((us.drop (i * P.cellsOf e)).take (P.cellsOf e))
    | _ => False
theorem HoldsT.mono {P : Program} {N : Nat} {s s' : St} (h : ∀ b o l, Row s b o l → Row s' b o l) : ∀ (f : Nat) (t : TypeId) (us : List Value), HoldsT P N s f t us → HoldsT P N s' f t us
  | 0, _, _, k => k
  | f + 1, t, us, k => by
    unfold HoldsT at k ⊢
    cases hu : P.underlying t with
    | none => rw [hu] at k; exact k
    | some u =>
      rw [hu] at k
      cases u <;> try exact k
      · rename_i e
        rcases k with k | k | ⟨b, n, c, k1, k2, k3, k4, k6, k5⟩
        · exact .inl k
        · exact .inr (.inl k)
        · refine .inr (.inr ⟨b, n, c, k1, k2, k3, k4, k6, fun i hi => ?_⟩)
          obtain ⟨es, e1, e2, e3⟩ := k5 i hi
          exact ⟨es, e1, h _ _ _ e2, HoldsT.mono h f _ _ e3⟩
      · exact ⟨k.1, fun x hx => HoldsT.mono h f _ _ (k.2 x hx)⟩
      · exact ⟨k.1, fun i hi => HoldsT.mono h f _ _ (k.2 i hi)⟩
/-- Are there only such types in it, each part behind the other? -/
def tilesT (P : Program) : List Field → Nat → Nat → Bool
  | [], o, z => Nat.beq o z
  | x :: l, o, z => Nat.beq x.offset o && tilesT P l (o + P.cellsOf x.type) z
def flatT (P : Program) : Nat → TypeId → Bool
  | 0, _ => false
  | f + 1, t => match P.underlying t with
    | some .bool | some (.int _) | some .string => true
    | some (.slice e) => Nat.blt 0 (P.cellsOf e) && flatT P f e
    | some (.struct fs) => tilesT P fs.toList 0 (P.cellsOf t) && fs.toList.all fun x => flatT P f x.type
    | some (.array n e) => Nat.beq (n * P.cellsOf e) (P.cellsOf t) && flatT P f e
    | _ => false
/-- Cells that can be laid, behind whatever lies there. -/
def Lay (w : World) (cs : List Value) (H : St → List Value → Prop) : Prop := ∀ m nx r, OldSt w m nx r → ∃ m' nx' r' us, OldSt w m' nx' r' ∧ Grow m nx r m' nx' r' ∧ VRs r' us cs ∧ H (stO m' nx') us
theorem Lay.plain {w : World} {cs : List Value} {H : St → List Value → Prop} (h : ∀ v ∈ cs, plain v = true) (k : ∀ s, H s cs) : Lay w cs H := fun m nx r ho => ⟨m, nx, r, cs, ho, .refl _ _ _, VRs.plains h, k _⟩
/-- So many parts of one size. -/
theorem lay_n {w : World} {cs : List Value} {k : Nat} {H : St → List Value → Prop} (mono : ∀ (s s' : St) us, (∀ b o l, Row s b o l → Row s' b o l) → H s us → H s' us) : ∀ n, n * k ≤ cs.length → (∀ i, i < n → Lay w ((cs.drop (i * k)).take k) H) → Lay w (cs.take (n * k)) fun s us => ∀ i, i < n → H s ((us.drop (i * k)).take k)
  | 0, _, _ => fun m nx r ho => ⟨m, nx, r, [], ho, .refl _ _ _, by rw [Nat.zero_mul]; exact VRs.nil, fun i hi => absurd hi (Nat.not_lt_zero i)⟩
  | n + 1, hl, h => fun m nx r ho => by
    have hnk : (n + 1) * k = n * k + k := Nat.succ_mul n k
    obtain ⟨m1, nx1, r1, us1, ho1, g1, v1, h1⟩ := lay_n mono n (by omega) (fun i hi => h i (by omega)) m nx r ho
    obtain ⟨m2, nx2, r2, us2, ho2, g2, v2, h2⟩ := h n (by omega) m1 nx1 r1 ho1
    have l1 : us1.length = n * k := by rw [v1.1, List.length_take]; omega
    have l2 : us2.length = k := by rw [v2.1, List.length_take, List.length_drop]; omega
    refine ⟨m2, nx2, r2, us1 ++ us2, ho2, g1.trans g2, ?_, fun i hi => ?_⟩
    · have e : cs.take ((n + 1) * k) = cs.take (n * k) ++ (cs.drop (n * k)).take k := by
        rw [hnk, List.take_add]
      rw [e]
      exact (v1.mono g2.le).append v2
    · rcases Nat.lt_or_ge i n with hin | hin
      · have hik : i * k + k ≤ n * k := by
          have := Nat.mul_le_mul_right k (show i + 1 ≤ n by omega)
          rw [Nat.succ_mul] at this
          exact this
        have e : ((us1 ++ us2).drop (i * k)).take k = (us1.drop (i * k)).take k := by
          rw [List.drop_append_of_le_length (by omega), List.take_append_of_le_length (by rw [List.length_drop]; omega)]
        rw [e]
        exact mono _ _ _ (fun b o l q => g2.row q) (h1 i hin)
      · have : i = n := by omega
        subst this
        have e : ((us1 ++ us2).drop (i * k)).take k = us2 := by
          rw [List.drop_left' l1, List.take_of_length_le (by omega)]
        rw [e]
        exact h2
theorem tilesT_le {P : Program} : ∀ {l : List Field} {o z : Nat}, tilesT P l o z = true → o ≤ z
  | [], o, z, h => Nat.le_of_eq (Nat.eq_of_beq_eq_true h)
  | x :: l, o, z, h => by
    have h' : (Nat.beq x.offset o && tilesT P l (o + P.cellsOf x.type) z) = true := h
    rw [Bool.and_eq_true] at h'
    have := tilesT_le h'.2
    omega
theorem tilesT_ge {P : Program} : ∀ {l : List Field} {o z : Nat}, tilesT P l o z = true → ∀ x ∈ l, o ≤ x.offset
  | [], _, _, _, x, hx => by cases hx
  | y :: l, o, z, h, x, hx => by
    have h' : (Nat.beq y.offset o && tilesT P l (o + P.cellsOf y.type) z) = true := h
    rw [Bool.and_eq_true] at h'
    rcases List.mem_cons.1 hx with rfl | hx
    · exact Nat.le_of_eq (Nat.eq_of_beq_eq_true h'.1).symm
    · have := tilesT_ge h'.2 x hx
      omega
/-- The fields of a struct. -/
theorem lay_fields {P : Program} {N : Nat} {w : World} {cs : List Value} {F : Nat} : ∀ (l : List Field) (o : Nat), tilesT P l o cs.length = true → (∀ x ∈ l, Lay w ((cs.drop x.offset).take (P.cellsOf x.type)) fun s us => HoldsT P N s F x.type us) →
    Lay w (cs.drop o) fun s us => ∀ x ∈ l, HoldsT P N s F x.type ((us.drop (x.offset - o)).take (P.cellsOf x.type))
  | [], o, ht, _ => fun m nx r ho => by
    have : o = cs.length := Nat.eq_of_beq_eq_true ht
    exact ⟨m, nx, r, [], ho, .refl _ _ _, by rw [this, List.drop_length]; exact VRs.nil, fun x hx => by cases hx⟩
  | x :: l, o, ht, h => fun m nx r ho => by
    have ht' : (Nat.beq x.offset o && tilesT P l (o + P.cellsOf x.type) cs.length) = true := ht
    rw [Bool.and_eq_true] at ht'
    have ho' : x.offset = o := Nat.eq_of_beq_eq_true ht'.1
    have hz := tilesT_le ht'.2
    have hge := tilesT_ge ht'.2
    obtain ⟨m1, nx1, r1, us1, ho1, g1, v1, h1⟩ := h x (by simp) m nx r ho
    obtain ⟨m2, nx2, r2, us2, ho2, g2, v2, h2⟩ := lay_fields l (o + P.cellsOf x.type) ht'.2 (fun y hy => h y (by simp [hy])) m1 nx1 r1 ho1
    rw [ho'] at v1
    have l1 : us1.length = P.cellsOf x.type := by rw [v1.1, List.length_take, List.length_drop]; omega
    refine ⟨m2, nx2, r2, us1 ++ us2, ho2, g1.trans g2, ?_, fun y hy => ?_⟩
    · have e : cs.drop o = (cs.drop o).take (P.cellsOf x.type) ++ cs.drop (o + P.cellsOf x.type) := by
        rw [← List.drop_drop, List.take_append_drop]
      rw [e]
      exact (v1.mono g2.le).append v2
    · rcases List.mem_cons.1 hy with rfl | hy
      · have e : ((us1 ++ us2).drop (y.offset - o)).take (P.cellsOf y.type) = us1 := by
          rw [ho', Nat.sub_self, List.drop_zero, List.take_left' l1]
        rw [e]
        exact HoldsT.mono (fun b o l q => g2.row q) _ _ _ h1
      · have hoy := hge y hy
        have e : (us1 ++ us2).drop (y.offset - o) = us2.drop (y.offset - (o + P.cellsOf x.type)) := by
          rw [List.drop_append, List.drop_of_length_le (by omega), List.nil_append, l1]
          congr 1
          omega
        rw [e]
        exact h2 y hy
theorem mapM_some_at {α β : Type} {f : α → Option β} : ∀ {xs : List α} {l : List β}, xs.mapM f = some l → l.length = xs.length ∧ ∀ (i : Nat) (x : α), xs[i]? = some x → f x = l[i]?
  | [], l, h => by
    have : l = [] := by simpa using h.symm
    subst this
    exact ⟨rfl, fun i x e => by simp at e⟩
  | x :: xs, l, h => by
    rw [List.mapM_cons] at h
    cases hf : f x with
    | none => rw [hf] at h; cases h
    | some y =>
      rw [hf] at h
      cases hx : xs.mapM f with
      | none => rw [hx] at h; cases h
      | some ys =>
        rw [hx] at h
        cases h
        obtain ⟨h1, h2⟩ := mapM_some_at hx
        refine ⟨by simp [h1], fun i z e => ?_⟩
        cases i with
        | zero =>
          have : x = z := by simpa using e
          subst this
          exact hf
        | succ i => exact h2 i z (by simpa using e)
theorem cells_at {w : World} {base k : Nat} {a : Addr} {l : List Value} (h : w.cells? base a k = some l) : l.length = k ∧ ∀ j, j < k → w.cell? (a.add j) = l[j]? := by
  unfold World.cells? at h
  split at h
  · obtain ⟨h1, h2⟩ := mapM_some_at h
    rw [List.length_range] at h1
    exact ⟨h1, fun j hj => h2 j j (by simp [hj])⟩
  · cases h
theorem cell_spot {w : World} {a : Addr} {v : Value} (h : w.cell? a = some v) : a.spot = none ∧ a.block < w.heap.size := by
  unfold World.cell? at h
  cases hq : w.heap[a.block]? with
  | none => simp only [hq] at h; cases h
  | some c =>
    refine ⟨?_, (Array.getElem?_eq_some_iff.1 hq).1⟩
    cases hsp : a.spot with
    | none => rfl
    | some x => cases c <;> simp [hq, hsp] at h
theorem add_none (b o n : Nat) : (⟨b, o, none⟩ : Addr).add n = ⟨b, o + n, none⟩ := by
  unfold Addr.add
  split
  · rename_i h; rw [h]; rfl
  · rfl
theorem spot_add {a : Addr} {n : Nat} (hs : a.spot = none) : a.add n = ⟨a.block, a.off + n, none⟩ := by
  obtain ⟨b, o, s⟩ := a
  cases hs
  exact add_none b o n
theorem wf_u {k : IntKind} {n : Int} : plain (.int k n) = true := rfl
mutual
/-- No text, no slice longer than so much. -/
def lensOk {H : Type} (N : Nat) : DataW H → Prop
  | .lit (.string l) => l.length ≤ N
  | .slice es _ => es.length ≤ N ∧ lensAll N es
  | .agg ps => lensAll N ps
  | _ => True
def lensAll {H : Type} (N : Nat) : List (DataW H) → Prop
  | [] => True
  | d :: r => lensOk N d ∧ lensAll N r
end
theorem lensAll_mem {H : Type} {N : Nat} : ∀ {l : List (DataW H)}, lensAll N l → ∀ d ∈ l, lensOk N d
  | [], _, d, hd => by cases hd
  | x :: l, h, d, hd => by
    rcases List.mem_cons.1 hd with rfl | hd
    · exact h.1
    · exact lensAll_mem h.2 d hd
/-- The cells of a type, laid. -/
theorem lay_trod {H : Type} {enc : TypeId × Value → H} {P : Program} {N : Nat} {w : World} {b0 : Nat} {sp : Nat → Bool} {held : Bool} : ∀ (F f : Nat) (t : TypeId) (cs : List Value) (y : DataW H × List MemPlace), flatT P F t = true → (maxLen ≤ N ∨ lensOk N y.1) → DataW.trod enc P w b0 sp held f t cs = some y → Lay w cs fun s us => HoldsT P N s F t us
  | 0, _, _, _, _, hf, _, _ => by cases hf
  | F + 1, f, t, cs, y, hf, hN, h => by
    unfold flatT at hf
    cases hu : P.underlying t with
    | none => rw [hu] at hf; cases hf
    | some u =>
      rw [hu] at hf
      cases u <;> try (cases hf; done)
      case bool =>
        obtain ⟨b, rfl, _⟩ := DataW.trod_bool hu h
        refine Lay.plain (fun v hv => by rw [List.mem_singleton.1 hv]; rfl) fun s => ?_
        unfold HoldsT
        rw [hu]
        exact ⟨b, rfl⟩
      case int k =>
        obtain ⟨n, rfl, _, hw⟩ := DataW.trod_int hu h
        refine Lay.plain (fun v hv => by rw [List.mem_singleton.1 hv]; rfl) fun s => ?_
        unfold HoldsT
        rw [hu]
        exact ⟨n, rfl, hw⟩
      case string =>
        obtain ⟨x, rfl, rfl, hs⟩ := DataW.trod_string hu h
        refine Lay.plain (fun v hv => by rw [List.mem_singleton.1 hv]; rfl) fun s => ?_
        unfold HoldsT
        rw [hu]
        exact ⟨x, rfl, hs, by
          rcases hN with hN | hN
          · omega
          · have : x.data.toList.length ≤ N := hN
            simpa using this⟩
      case struct fs =>
        rw [Bool.and_eq_true] at hf
        obtain ⟨xs, n, _, rfl, hl, _, hx⟩ := DataW.trod_struct hu h
        have hall : ∀ x ∈ fs.toList, Lay w ((cs.drop x.offset).take (P.cellsOf x.type)) fun s us => HoldsT P N s F x.type us := fun x hxm => by
          obtain ⟨i, hi⟩ := List.getElem?_of_mem hxm
          have hi' : fs[i]? = some x := by rw [← Array.getElem?_toList]; exact hi
          have hd := hx i x hi'
          have hfl : flatT P F x.type = true := List.all_eq_true.1 hf.2 x hxm
          cases hz : DataW.trod enc P w b0 sp held n x.type ((cs.drop x.offset).take (P.cellsOf x.type)) with
          | none =>
            rw [hz] at hd
            have h1 := (Array.getElem?_eq_some_iff.1 hi').1
            have h2 := List.getElem?_eq_none_iff.1 hd.symm
            omega
          | some z =>
            rw [hz] at hd
            exact lay_trod F n _ _ z hfl (hN.imp id fun q => lensAll_mem q _ (List.mem_map.2 ⟨z, List.mem_of_getElem? hd.symm, rfl⟩)) hz
        intro m nx r ho
        obtain ⟨m', nx', r', us, k1, k2, k3, k4⟩ := lay_fields (F := F) fs.toList 0 (by rw [hl]; exact hf.1) hall m nx r ho
        rw [List.drop_zero] at k3
        refine ⟨m', nx', r', us, k1, k2, k3, ?_⟩
        unfold HoldsT
        rw [hu]
        exact ⟨by rw [k3.1, hl], fun x hx => by have := k4 x hx; rwa [Nat.sub_zero] at this⟩
      case array n e =>
        rw [Bool.and_eq_true] at hf
        have hsz : n * P.cellsOf e = P.cellsOf t := Nat.eq_of_beq_eq_true hf.1
        obtain ⟨xs, m1, _, rfl, hl, hxl, hx⟩ := DataW.trod_array hu h
        intro m nx r ho
        obtain ⟨m', nx', r', us, k1, k2, k3, k4⟩ := lay_n (w := w) (cs := cs) (k := P.cellsOf e) (H := fun s us => HoldsT P N s F e us) (fun s s' us hr hh => HoldsT.mono hr _ _ _ hh) n (by rw [hsz, hl]; exact Nat.le_refl _) (fun i hi => by
          have hd := hx i hi
          cases hz : DataW.trod enc P w b0 sp held m1 e ((cs.drop (i * P.cellsOf e)).take (P.cellsOf e)) with
          | none =>
            rw [hz] at hd
            have h2 := List.getElem?_eq_none_iff.1 hd.symm
            omega
          | some z =>
            rw [hz] at hd
            exact lay_trod F m1 _ _ z hf.2 (hN.imp id fun q => lensAll_mem q _ (List.mem_map.2 ⟨z, List.mem_of_getElem? hd.symm, rfl⟩)) hz) m nx r ho
        rw [hsz, ← hl, List.take_length] at k3
        refine ⟨m', nx', r', us, k1, k2, k3, ?_⟩
        unfold HoldsT
        rw [hu]
        exact ⟨by rw [k3.1, hl], k4⟩
      case slice e =>
        rw [Bool.and_eq_true] at hf
        have hk : 0 < P.cellsOf e := blt_lt hf.1
        rcases DataW.trod_slice hu h with ⟨rfl, _⟩ | ⟨a, len, cap, elems, rest, n, _, rfl, rfl, _, hlc, hcm, hel, hx, _, _⟩
        · refine fun m nx r ho => ⟨m, nx, r, [.slice none 0 0], ho, .refl _ _ _, .cons .slNil .nil, ?_⟩
          unfold HoldsT
          rw [hu]
          exact .inl rfl
        · by_cases h0 : len = 0
          · subst h0
            refine fun m nx r ho => ⟨m, nx, r, [.slice (some ⟨0, 0, none⟩) 0 (capU * P.cellsOf e)], ho, .refl _ _ _, .cons (.slEnd (by rw [Nat.mul_div_cancel_left _ (by unfold capU; decide)]; omega) (Nat.mul_mod_right _ _)) .nil, ?_⟩
            unfold HoldsT
            rw [hu]
            exact .inr (.inl rfl)
          · have hlN : len ≤ N := by
              rcases hN with hN | hN
              · omega
              · have := hN.1
                rw [List.length_map, hel] at this
                exact this
            have cells : ∀ i, i < len → ∃ l z, w.cells? b0 (a.add (i * P.cellsOf e)) (P.cellsOf e) = some l ∧ DataW.trod enc P w b0 sp held n e l = some z ∧ z ∈ elems := fun i hi => by
              have := hx i hi
              rw [List.getElem?_eq_getElem (by omega), Option.bind_eq_some_iff] at this
              obtain ⟨l, h1, h2⟩ := this
              exact ⟨l, _, h1, h2, List.getElem_mem _⟩
            have hspot : a.spot = none ∧ a.block < w.heap.size := by
              obtain ⟨l, z, h1, _⟩ := cells 0 (by omega)
              obtain ⟨q1, q2⟩ := cells_at h1
              have := q2 0 hk
              rw [List.getElem?_eq_getElem (by omega)] at this
              rw [Nat.zero_mul] at this
              exact cell_spot this
            have each : ∀ j, ∃ v : Value, j < len * P.cellsOf e → w.cell? ⟨a.block, a.off + j, none⟩ = some v := fun j => by
              by_cases hj : j < len * P.cellsOf e
              · have hi : j / P.cellsOf e < len := by rw [Nat.div_lt_iff_lt_mul hk]; exact hj
                obtain ⟨l, z, h1, _⟩ := cells _ hi
                obtain ⟨q1, q2⟩ := cells_at h1
                have hm : j % P.cellsOf e < P.cellsOf e := Nat.mod_lt _ hk
                have := q2 _ hm
                rw [List.getElem?_eq_getElem (by omega), spot_add hspot.1, add_none] at this
                refine ⟨l[j % P.cellsOf e]'(by omega), fun _ => ?_⟩
                rw [← this]
                have hdm := Nat.div_add_mod j (P.cellsOf e)
                rw [Nat.mul_comm] at hdm
                congr 2
                omega
              · exact ⟨undef, fun h => absurd h hj⟩
            obtain ⟨g, hg⟩ := Classical.axiomOfChoice each
            obtain ⟨cs, hcs⟩ : ∃ cs : List Value, cs = (List.range (len * P.cellsOf e)).map g := ⟨_, rfl⟩
            have hcl : cs.length = len * P.cellsOf e := by rw [hcs]; simp
            have hcg : ∀ j v, cs[j]? = some v → w.cell? ⟨a.block, a.off + j, none⟩ = some v := fun j v e => by
              rw [hcs, List.getElem?_map, Option.map_eq_some_iff] at e
              obtain ⟨j', e1, e2⟩ := e
              have hj := (List.getElem?_eq_some_iff.1 e1).1
              rw [List.length_range] at hj
              rw [List.getElem?_range hj] at e1
              cases e1
              rw [← e2]
              exact hg _ hj
            intro m nx r ho
            obtain ⟨m', nx', r', us, k1, k2, k3, k4⟩ := lay_n (w := w) (cs := cs) (k := P.cellsOf e) (H := fun s us => HoldsT P N s F e us) (fun s s' us hr hh => HoldsT.mono hr _ _ _ hh) len (by omega) (fun i hi => by
              obtain ⟨l, z, h1, h2, h3⟩ := cells i hi
              obtain ⟨q1, q2⟩ := cells_at h1
              have el : (cs.drop (i * P.cellsOf e)).take (P.cellsOf e) = l := by
                apply List.ext_getElem?
                intro j
                by_cases hj : j < P.cellsOf e
                · have hjj : i * P.cellsOf e + j < cs.length := by
                    have := Nat.mul_le_mul_right (P.cellsOf e) (show i + 1 ≤ len by omega)
                    rw [Nat.succ_mul] at this
                    omega
                  rw [List.getElem?_take, if_pos hj, List.getElem?_drop, List.getElem?_eq_getElem hjj, ← q2 j hj, spot_add hspot.1, add_none]
                  have := hcg _ _ (List.getElem?_eq_getElem hjj)
                  rw [← Nat.add_assoc] at this
                  exact this.symm
                · rw [List.getElem?_take, if_neg hj, List.getElem?_eq_none (by omega)]
              rw [el]
              exact lay_trod F n _ _ z hf.2 (hN.imp id fun q => lensAll_mem q.2 _ (List.mem_map.2 ⟨z, h3, rfl⟩)) h2) m nx r ho
            rw [← hcl, List.take_length] at k3
            have hul : us.length = len * P.cellsOf e := by rw [k3.1, hcl]
            have hpos : 0 < us.length := by rw [hul]; exact Nat.mul_pos (by omega) hk
            obtain ⟨r2, hr2⟩ : ∃ r2 : Inj, r2 = ⟨fun b => if b = nx' then some (a.block, a.off) else r'.blk b, r'.ext, r'.known⟩ := ⟨_, rfl⟩
            have hb2 : ∀ b, r2.blk b = if b = nx' then some (a.block, a.off) else r'.blk b := fun b => by rw [hr2]
            have hle : r'.le r2 := ⟨fun b x e => by
              rw [hb2, if_neg]
              · exact e
              · intro hb
                have := (k1.hd b x.1 x.2 e).1
                omega, fun t x e => by rw [hr2]; exact e, by rw [hr2]⟩
            have hget : ∀ j, T.get (layT nx' us nx' m') j = if nx' ≤ j ∧ j < nx' + us.length then (us[j - nx']?).map (fun v => .O (.old nx' v)) else T.get m' j := fun j => layT_get _ _ _ _ _
            have hgrow : Grow m' nx' r' (layT nx' us nx' m') (nx' + us.length + 1) r2 := ⟨hle, by omega, fun l hl => by rw [hget, if_neg (by omega)]⟩
            refine ⟨layT nx' us nx' m', nx' + us.length + 1, r2, [.slice (some ⟨nx', 0, none⟩) len cap], ⟨fun loc c e => ?_, fun b b' d e => ?_, fun b => by rw [hr2]; exact k1.hx b, by rw [hr2]; exact k1.hk⟩, k2.trans hgrow, ?_, ?_⟩
            · rw [hget] at e
              split at e
              · rename_i hin
                rw [Option.map_eq_some_iff] at e
                obtain ⟨v, e1, rfl⟩ := e
                obtain ⟨v', e2, e3⟩ := k3.get e1
                refine ⟨by omega, nx', v, rfl, a.block, a.off, v', hin.1, by rw [hb2, if_pos rfl], ?_, e3.mono hle⟩
                have := hcg _ _ e2
                rwa [Nat.add_comm a.off] at this
              · obtain ⟨h1, b, v, rfl, b', d, v', h2, h3, h4, h5⟩ := k1.ho loc c e
                exact ⟨by omega, b, v, rfl, b', d, v', h2, hle.1 _ _ h3, h4, h5.mono hle⟩
            · rw [hb2] at e
              split at e
              · rename_i hb
                cases e
                exact ⟨by omega, hspot.2⟩
              · have := k1.hd b b' d e
                exact ⟨by omega, this.2⟩
            · refine .cons ?_ .nil
              have hcu : cap < capU := by
                have : cap ≤ 9223372036854775807 := hcm
                unfold capU
                omega
              have := VR.sl (r := r2) (b := nx') (o := 0) (b' := a.block) (d := a.off) (l := len) (c := cap) (c' := cap) (by rw [hb2, if_pos rfl]) (.inl ⟨Nat.div_eq_of_lt hcu, rfl⟩) (by rw [Nat.mod_eq_of_lt hcu]; exact hlc)
              rw [Nat.zero_add] at this
              obtain ⟨b, o, s⟩ := a
              have hs : s = none := hspot.1
              subst hs
              exact this
            · unfold HoldsT
              rw [hu]
              refine .inr (.inr ⟨nx', len, cap, rfl, by omega, hlc, hcm, hlN, fun i hi => ⟨(us.drop (i * P.cellsOf e)).take (P.cellsOf e), ?_, fun j v ej => ?_, HoldsT.mono (fun b o l q => hgrow.row q) _ _ _ (k4 i hi)⟩⟩)
              · have := Nat.mul_le_mul_right (P.cellsOf e) (show i + 1 ≤ len by omega)
                rw [Nat.succ_mul] at this
                rw [List.length_take, List.length_drop]
                omega
              · have hj := (List.getElem?_eq_some_iff.1 ej).1
                rw [List.length_take] at hj
                rw [List.getElem?_take, if_pos (by omega), List.getElem?_drop] at ej
                have hjl := (List.getElem?_eq_some_iff.1 ej).1
                refine ⟨?_, .inr ?_⟩
                · show nx' + (i * P.cellsOf e + j) < nx' + us.length + 1
                  omega
                · show T.get (layT nx' us nx' m') (nx' + (i * P.cellsOf e + j)) = _
                  rw [hget, if_pos (by omega), Nat.add_sub_cancel_left, ej]
                  rfl
end Go.Proofs.YtbmkpcjkadifhaaGreatDoor.Am
/- The contract of a call whose arguments are of plain types; what slices among them are. -/
namespace Go.Proofs.YtbmkpcjkadifhaaGreatDoor.Am
open Go.RowKit Go.ChangeShapes Go.WideShapes

def aggT (P : Program) (t : TypeId) : Bool := match P.underlying t with
  | some (.struct _) | some (.array _ _) => true
  | _ => false
/-- What an argument of a type is, as the evaluator has it. -/
def HoldsA (P : Program) (N : Nat) (s : St) (F : Nat) (t : TypeId) (u : Value) : Prop := ∃ us, HoldsT P N s F t us ∧ ((aggT P t = true ∧ u = .agg us.toArray) ∨ (aggT P t = false ∧ us = [u]))
theorem cells_of_ok {P : Program} {w : World} {rc : Reach} {base F : Nat} {t : TypeId} {v : Value} (hf : flatT P F t = true) (h : Value.okWide P w rc base t v) : (aggT P t = true ∧ v = .agg v.cells) ∨ (aggT P t = false ∧ v.cells = #[v]) := by
  cases F with
  | zero => cases hf
  | succ F =>
    unfold flatT at hf
    unfold aggT
    cases hu : P.underlying t with
    | none => rw [hu] at hf; cases hf
    | some u =>
      rw [hu] at hf
      unfold Value.okWide at h
      rw [hu] at h
      cases u <;> try (cases hf; done)
      case struct fs =>
        obtain ⟨cs, rfl, _⟩ := h
        exact .inl ⟨rfl, rfl⟩
      case array n e =>
        obtain ⟨cs, rfl, _⟩ := h
        exact .inl ⟨rfl, rfl⟩
      all_goals
        refine .inr ⟨rfl, ?_⟩
        simp only at h
        unfold Cell.okWide Cell.ok at h
        rw [hu] at h
        cases v <;> first | rfl | (simp at h)
theorem lay_args {H : Type} {enc : TypeId × Value → H} {P : Program} {w : World} {b0 base F N : Nat} {sp : Nat → Bool} {held : Bool} : ∀ (ts : List TypeId) (vs : List Value) (ds : List (DataW H)) (ps : List MemPlace), DataW.TrodAll enc P w b0 sp held ts vs ds ps → (∀ (j : Nat) t v, ts[j]? = some t → vs[j]? = some v → Value.okWide P w .any base t v) → ts.all (flatT P F) = true → (maxLen ≤ N ∨ ∀ d ∈ ds, lensOk N d) →
    ∀ m nx r, OldSt w m nx r → ∃ m' nx' r' us, OldSt w m' nx' r' ∧ Grow m nx r m' nx' r' ∧ VRs r' us vs ∧ us.length = ts.length ∧ ∀ (j : Nat) t u, ts[j]? = some t → us[j]? = some u → HoldsA P N (stO m' nx') F t u
  | [], [], _, _, _, _, _, _ => fun m nx r ho => ⟨m, nx, r, [], ho, .refl _ _ _, .nil, rfl, fun j t u e => by simp at e⟩
  | [], _ :: _, ds, _, h, _, _, _ => by cases ds <;> exact h.elim
  | _ :: _, [], ds, _, h, _, _, _ => by cases ds <;> exact h.elim
  | t :: ts, v :: vs, [], _, h, _, _, _ => h.elim
  | t :: ts, v :: vs, d :: ds, _, ⟨p, q, ⟨fuel, h1⟩, h2, _⟩, hv, hf, hN => fun m nx r ho => by
    rw [List.all_cons, Bool.and_eq_true] at hf
    obtain ⟨m1, nx1, r1, us, o1, g1, v1, k1⟩ := lay_trod (N := N) F fuel t _ _ hf.1 (hN.imp id fun z => z d (by simp)) h1 m nx r ho
    obtain ⟨m2, nx2, r2, us2, o2, g2, v2, l2, k2⟩ := lay_args ts vs ds q h2 (fun j t v e1 e2 => hv (j + 1) t v e1 e2) hf.2 (hN.imp id fun z d' hd => z d' (by simp [hd])) m1 nx1 r1 o1
    have k1' := HoldsT.mono (fun b o l z => g2.row z) _ _ _ k1
    rcases cells_of_ok hf.1 (hv 0 t v rfl rfl) with ⟨ha, hc⟩ | ⟨ha, hc⟩
    · refine ⟨m2, nx2, r2, .agg us.toArray :: us2, o2, g1.trans g2, .cons ?_ v2, by simp [l2], fun j t' u e1 e2 => ?_⟩
      · rw [hc]
        have := (v1.mono g2.le).agg
        simpa using this
      · cases j with
        | zero =>
          cases e1
          cases e2
          exact ⟨us, k1', .inl ⟨ha, rfl⟩⟩
        | succ j => exact k2 j t' u e1 e2
    · rw [hc] at v1
      have hl : us.length = 1 := v1.1
      obtain ⟨u0, rfl⟩ : ∃ u0, us = [u0] := by
        match us, hl with
        | [x], _ => exact ⟨x, rfl⟩
      obtain ⟨v', l', e0, e1, _⟩ := v1.inv
      have hv' : v = v' := by
        have : [v] = v' :: l' := e0
        cases this
        rfl
      subst hv'
      refine ⟨m2, nx2, r2, u0 :: us2, o2, g1.trans g2, .cons (e1.mono g2.le) v2, by simp [l2], fun j t' u e1 e2 => ?_⟩
      cases j with
      | zero =>
        cases e1
        cases e2
        exact ⟨[u0], k1', .inr ⟨ha, rfl⟩⟩
      | succ j => exact k2 j t' u e1 e2
/-- A call of plain arguments, from any world. -/
theorem calls_args {H : Type} {enc : TypeId × Value → H} {E : Env} (he : EnvOK E) {fuel f F N base : Nat} {args : Array Value} {v : Value} {ts : List TypeId} {sp : Nat → Bool} {held : Bool} {ds : List (DataW H)} {ps : List MemPlace} {w : World} (ho : E.orc.get f = none) (hx : E.ext.get f = none) (hp : plain v = true)
    (hA : DataW.TrodAll enc E.P w 0 sp held ts args.toList ds ps) (hv : ∀ (j : Nat) t v, ts[j]? = some t → args.toList[j]? = some v → Value.okWide E.P w .any base t v) (hf : ts.all (flatT E.P F) = true) (hN : maxLen ≤ N ∨ ∀ d ∈ ds, lensOk N d)
    (run : ∀ m nx us, us.length = ts.length → (∀ (j : Nat) t u, ts[j]? = some t → us[j]? = some u → HoldsA E.P N (stO m nx) F t u) → W (callW E (runF E fuel) f us) (stO m nx) fun u _ => u = v) :
    Calls E.P f args w fun e w' => e = .returned v ∧ Below w.heap.size w w' := by
  have h0 : OldSt w .E 0 ⟨fun _ => none, fun _ => none, .no⟩ := ⟨fun loc c e => (by cases e), fun b b' d e => (by cases e), fun _ => rfl, rfl⟩
  obtain ⟨m, nx, r, us, o1, _, v1, l1, k1⟩ := lay_args ts args.toList ds ps hA hv hf hN .E 0 _ h0
  refine calls_sym (r := r) (s0 := stO m nx) he ho hx (run m nx us l1 k1) hp v1 (Rel.ofOld (by rw [o1.hk]; exact Know.no_sure w) (fun b b' d e => (o1.hd b b' d e).2) fun loc c e => (o1.ho loc c e).2) (Nat.zero_le _) fun b hb => ⟨?_, o1.hx b⟩
  cases hq : r.blk b with
  | none => rfl
  | some x =>
    have := (o1.hd b x.1 x.2 hq).1
    have hb' : nx ≤ b := hb
    omega
/-! ### What is held -/
theorem all_list {α : Type} {n : Nat} {p : Nat → α → Prop} (h : ∀ i, i < n → ∃ x, p i x) : ∃ l : List α, l.length = n ∧ ∀ i x, l[i]? = some x → p i x := by
  induction n with
  | zero => exact ⟨[], rfl, fun i x e => by simp at e⟩
  | succ n ih =>
    obtain ⟨l, h1, h2⟩ := ih fun i hi => h i (by omega)
    obtain ⟨x, hx⟩ := h n (by omega)
    refine ⟨l ++ [x], by simp [h1], fun i y e => ?_⟩
    rcases Nat.lt_or_ge i n with hi | hi
    · rw [List.getElem?_append_left (by omega)] at e
      exact h2 i y e
    · rw [List.getElem?_append_right (by omega), h1] at e
      have : i = n := by
        have := (List.getElem?_eq_some_iff.1 e).1
        simp at this
        omega
      subst this
      rw [Nat.sub_self] at e
      cases e
      exact hx
theorem sizeOk_mul {k : Nat} (hk : k < 1024) : sizeOk (capU * k) k = true := by
  unfold sizeOk
  have hd : Nat.div (capU * k) capU = k := Nat.mul_div_cancel_left k (by unfold capU; decide)
  have hm : Nat.mod k 1024 = k := Nat.mod_eq_of_lt hk
  rw [hd, hm, Nat.beq_refl]
  cases Nat.beq k 0 <;> rfl
section
variable {P : Program} {s : St} {F N : Nat} {t e : TypeId} {us : List Value}
/-- A slice's elements, each of so many cells. -/
def ElS (s : St) (k : Nat) (v : Value) (es : List (List Value)) : Prop := (v = .slice none 0 0 ∧ es = []) ∨ ∃ b c, v = .slice (some ⟨b, 0, none⟩) es.length c ∧ es.length ≤ c % capU ∧ sizeOk c k = true ∧ ∀ i x, es[i]? = some x → Row s b (i * k) x
theorem HoldsT.slice (ht : P.underlying t = some (.slice e)) (hk : P.cellsOf e < 1024) (h : HoldsT P N s (F + 1) t us) : ∃ v es, us = [v] ∧ ElS s (P.cellsOf e) v es ∧ es.length ≤ 9223372036854775807 ∧ es.length ≤ N ∧ ∀ x ∈ es, x.length = P.cellsOf e ∧ HoldsT P N s F e x := by
  unfold HoldsT at h
  rw [ht] at h
  rcases h with rfl | rfl | ⟨b, n, c, rfl, h1, h2, h3, h5, h4⟩
  · exact ⟨_, [], rfl, .inl ⟨rfl, rfl⟩, by simp, by simp, fun x hx => by cases hx⟩
  · exact ⟨_, [], rfl, .inr ⟨0, _, rfl, Nat.zero_le _, sizeOk_mul hk, fun i x e => by simp at e⟩, by simp, by simp, fun x hx => by cases hx⟩
  · obtain ⟨l, l1, l2⟩ := all_list h4
    have h3' : c ≤ 9223372036854775807 := h3
    have hcu : c < capU := by unfold capU; omega
    refine ⟨_, l, rfl, .inr ⟨b, c, by rw [l1], by rw [l1, Nat.mod_eq_of_lt hcu]; exact h2, sizeOk_exact hcu, fun i x e => (l2 i x e).2.1⟩, by omega, by omega, fun x hx => ?_⟩
    obtain ⟨i, hi⟩ := List.getElem?_of_mem hx
    exact ⟨(l2 i x hi).1, (l2 i x hi).2.2⟩
end
end Go.Proofs.YtbmkpcjkadifhaaGreatDoor.Am
/- Shifts to the left, 'or' of bits. -/
namespace Go.Proofs.YtbmkpcjkadifhaaGreatDoor.Am
open Go.RowKit
section
variable {E : Env} {s : St} {t : Nat}
theorem fit64 {m : Nat} (h : m ≤ 9223372036854775807) : fitI .i64 m = some (.int .i64 (m : Nat)) := by
  unfold fitI
  rw [Nat.ble_eq_true_of_le (show m ≤ mxOf .i64 from h)]
  show mkI .i64 m = _
  unfold mkI
  rw [fN_eq]
  rfl
theorem shl_run {kk : IntKind} (m n : Nat) (hn : n ≤ 64) (hm : m <<< n ≤ 9223372036854775807) (xo yo : Operand) : Cl.get (aBin E .shl t xo yo) (.int .i64 (m : Nat)) (.int kk (n : Nat)) s = .some (.int .i64 (m <<< n : Nat)) s := by
  show int3 shlK (binSlow E .shl t xo yo) (.int .i64 (.ofNat m)) (.int kk (.ofNat n)) s = _
  show Option.rec (motive := fun _ => R Value) _ (fun v => .some v s) (shlK .i64 kk m n) = _
  have : shlK .i64 kk m n = some (.int .i64 (m <<< n : Nat)) := by
    unfold shlK
    rw [Nat.ble_eq_true_of_le (show n ≤ btOf .i64 from hn)]
    exact fit64 hm
  rw [this]
theorem W_shl {kk : IntKind} {m n : Nat} {xo yo : Operand} (hn : n ≤ 64) (hm : m <<< n ≤ 9223372036854775807) (Q : Value → St → Prop) : W (Cl.get (aBin E .shl t xo yo) (.int .i64 (m : Nat)) (.int kk (n : Nat))) s Q = Q (.int .i64 (m <<< n : Nat)) s := W_run (shl_run m n hn hm xo yo)
theorem W_shl8 {kk : IntKind} {m : Nat} {xo yo : Operand} (hm : m <<< 8 ≤ 9223372036854775807) (Q : Value → St → Prop) : W (Cl.get (aBin E .shl t xo yo) (.int .i64 (m : Nat)) (.int kk 8)) s Q = Q (.int .i64 (m <<< 8 : Nat)) s := W_shl (n := 8) (by decide) hm Q
theorem or_run (m n : Nat) (hm : m ||| n ≤ 9223372036854775807) (xo yo : Operand) : Cl.get (aBin E .or t xo yo) (.int .i64 (m : Nat)) (.int .i64 (n : Nat)) s = .some (.int .i64 (m ||| n : Nat)) s := by
  show int3 orK (binSlow E .or t xo yo) (.int .i64 (.ofNat m)) (.int .i64 (.ofNat n)) s = _
  show Option.rec (motive := fun _ => R Value) _ (fun v => .some v s) (orK .i64 .i64 m n) = _
  have : orK .i64 .i64 m n = some (.int .i64 (m ||| n : Nat)) := by
    unfold orK sameK
    rw [Nat.beq_refl]
    exact fit64 hm
  rw [this]
theorem W_or {m n : Nat} {xo yo : Operand} (hm : m ||| n ≤ 9223372036854775807) (Q : Value → St → Prop) : W (Cl.get (aBin E .or t xo yo) (.int .i64 (m : Nat)) (.int .i64 (n : Nat))) s Q = Q (.int .i64 (m ||| n : Nat)) s := W_run (or_run m n hm xo yo)
end
end Go.Proofs.YtbmkpcjkadifhaaGreatDoor.Am
/- Appends to a slice that another append has made. -/
namespace Go.Proofs.YtbmkpcjkadifhaaGreatDoor.Am
open Go.RowKit
section
variable {α β : Type} {s : St} {E : Env} {t t2 : Nat}
theorem Ext.delC {F G : Nat → Prop} (s : St) (l : Nat) (hG : G l) : Ext F G s ⟨T.del s.mem l, s.next, s.lim, s.rd, notes l s.lim s.wr, s.cx⟩ := by
  obtain ⟨d, e, q⟩ := notes_ext l s.lim s.wr
  refine ⟨Nat.le_refl _, rfl, rfl, fun x _ hx => ?_, ⟨[], rfl, fun _ h => by cases h⟩, ⟨d, e, fun x hx => ⟨(q x hx).1, by rw [(q x hx).2]; exact hG⟩⟩⟩
  show T.get (T.del s.mem l) x = _
  rw [T.get_del, if_neg]
  intro h
  exact hx (by rw [h]; exact hG)
theorem letGo_run : ∀ (n l : Nat) (s : St), s.lim ≤ s.next → l + n ≤ s.next → ∃ s', letGo n l s = .some () s' ∧ s'.next = s.next ∧ Ext Non (fun x => l ≤ x ∧ x < l + n) s s'
  | 0, _, s, _, _ => ⟨s, rfl, rfl, Ext.refl s⟩
  | n + 1, l, s, hb, h => by
    have x1 : Ext Non (fun x => l ≤ x ∧ x < l + (n + 1)) s ⟨T.del s.mem l, s.next, s.lim, s.rd, notes l s.lim s.wr, s.cx⟩ := Ext.delC s l ⟨Nat.le_refl _, by omega⟩
    obtain ⟨s2, e2, n2, x2⟩ := letGo_run n (l + 1) ⟨T.del s.mem l, s.next, s.lim, s.rd, notes l s.lim s.wr, s.cx⟩ hb (by show l + 1 + n ≤ s.next; omega)
    refine ⟨s2, ?_, n2, x1.trans x2 hb (fun _ _ h => h) fun x _ h => ⟨by have := h.1; omega, by have := h.2; omega⟩⟩
    show M.bind (Am.delC l) (fun _ => letGo n (l + 1)) s = _
    have e1 : Am.delC l s = .some () ⟨T.del s.mem l, s.next, s.lim, s.rd, notes l s.lim s.wr, s.cx⟩ := by
      obtain ⟨mem, next, lim, rd, wr, cx⟩ := s
      show Bool.rec (motive := fun _ => R Unit) .none (R.some () (St.mk (T.del mem l) next lim rd (notes l lim wr) cx)) (Nat.blt l next) = _
      rw [blt_t (show l < next from Nat.lt_of_lt_of_le (by omega) h)]
    rw [bind_run e1]
    exact e2
/-- A slice that an append has made, and whose room nobody has asked for since. -/
structure Marked (s : St) (sz n : Nat) (l : List Value) (v : Value) (b : Nat) : Prop where
  val : v = .slice (some ⟨b, 0, none⟩) n (capU * ((b + n * sz) * 1024 + sz) + n)
  own : OwnRow s b 0 l
  len : l.length = n * sz
  tok : T.get s.mem (b + n * sz) = some (.O (.tok false sz))
  lt : b + n * sz < s.next
theorem Fresh1.marked {s s' : St} {sz n : Nat} {l : List Value} {v : Value} {b : Nat} (h : Fresh1 s s' sz n l v b) : Marked s' sz n l v b := ⟨h.val, h.own, h.len, h.tok, h.lt⟩
theorem Marked.ext {F G : Nat → Prop} {s s' : St} {sz n : Nat} {l : List Value} {v : Value} {b : Nat} (h : Marked s sz n l v b) (e : Ext F G s s') (hG : ∀ x, In b 0 (n * sz + 1) x → ¬ G x) : Marked s' sz n l v b :=
  ⟨h.val, h.own.ext e fun i hi => hG _ ⟨by omega, by rw [h.len] at hi; omega⟩, h.len, by rw [e.mem _ h.lt (hG _ ⟨by omega, by omega⟩)]; exact h.tok, Nat.lt_of_lt_of_le h.lt e.nxt⟩
theorem Marked.same {s s' : St} {sz n : Nat} {l : List Value} {v : Value} {b : Nat} (h : Marked s sz n l v b) (hm : s'.mem = s.mem) (hn : s'.next = s.next) : Marked s' sz n l v b :=
  ⟨h.val, fun i v e => (h.own i v e).same hm hn, h.len, by rw [hm]; exact h.tok, by rw [hn]; exact h.lt⟩
/-- An append to such a slice: a new block; the elder one is let go. -/
theorem W.appMark (hbd : s.lim ≤ s.next) {sz by' n len b : Nat} {z l old : List Value} {v x : Value} {F : Nat → Prop} {Q : Value → St → Prop} {g : Bool} (ht : appT E t t2 = some (sz, by', g, z)) (hm : Marked s sz len old v b) (hx : SrcG s sz by' g z x n l F) (hn : 0 < n) (hlen : 0 < len) (hs0 : 0 < sz) (hs1 : sz < 1024)
    (hb : (len + n) * (by' + 1) ≤ 16777216) (hl : l.length = n * sz) (h1 : l.all oneCell = true)
    (q : ∀ s2 v2 b2, Fresh1 s s2 sz (len + n) (old ++ l) v2 b2 → Ext (fun x => F x ∨ In b 0 (len * sz + 1) x) (In b 0 (len * sz + 1)) s s2 → Q v2 s2) : W (aAppend E t t2 v x) s Q := by
  obtain ⟨i, i2, e, ie, g1, g2, g3, g4, g5, g6, g7, g8⟩ := appT_inv ht
  obtain ⟨hN, s1, e1, m1, n1, x1⟩ := hx ie g5 g6 g8
  subst g5; subst g6
  rw [hm.val]
  have hle : len < capU := by
    have : len ≤ 16777216 := by
      have h2 : len * 1 ≤ (len + n) * (ie.bytes + 1) := Nat.mul_le_mul (by omega) (by omega)
      omega
    unfold capU
    omega
  have hmod : (capU * ((b + len * ie.size) * 1024 + ie.size) + len) % capU = len := by
    rw [Nat.mul_add_mod, Nat.mod_eq_of_lt hle]
  have hdiv : (capU * ((b + len * ie.size) * 1024 + ie.size) + len) / capU = (b + len * ie.size) * 1024 + ie.size := by
    rw [Nat.mul_add_div (by decide), Nat.div_eq_of_lt hle, Nat.add_zero]
  generalize hc : capU * ((b + len * ie.size) * 1024 + ie.size) + len = c at *
  refine W.bind (W.ti g1 (W.bind (W.ti g2 ?_)))
  rw [g3, g7]
  refine W.bind (W.ti g4 (W.bind (W.of (hN s) (W.bind ?_))))
  refine W.of e1 ?_
  show W (M.if (Nat.ble (Nat.add len n) (c % capU)) _ _) s1 Q
  have hz : Nat.ble (Nat.add len n) (c % capU) = false := by
    cases hq : Nat.ble (Nat.add len n) (c % capU) with
    | false => rfl
    | true =>
      have h2 := Nat.le_of_ble_eq_true hq
      rw [hmod] at h2
      have h3 : Nat.add len n = len + n := rfl
      omega
  rw [hz]
  show W (grow ie.size ie.bytes (some ⟨b, 0, none⟩) len c n l) s1 Q
  unfold grow
  have hm1 : Marked s1 ie.size len old v b := hm.same m1 n1
  have hb1 : s1.lim ≤ s1.next := x1.bnd hbd
  refine W.chk ?_ (W.bind ?_)
  · rw [h1, hl, hmod]
    simp only [Bool.and_true, Bool.and_eq_true, Bool.or_eq_true]
    refine ⟨⟨⟨⟨Nat.ble_eq_true_of_le hb, blt_t hs0⟩, blt_t hs1⟩, .inl (blt_t hlen)⟩, Nat.beq_refl _⟩
  · show W (oldL ie.size (some ⟨b, 0, none⟩) (Bool.rec (motive := fun _ => Nat) (c % capU) len (Nat.beq (c / capU) 0))) s1 _
    rw [hmod, hdiv]
    have hb0 : Nat.beq ((b + len * ie.size) * 1024 + ie.size) 0 = false := by
      cases hq : Nat.beq ((b + len * ie.size) * 1024 + ie.size) 0 with
      | false => rfl
      | true => have := Nat.eq_of_beq_eq_true hq; omega
    rw [hb0]
    show W (Am.rdL (len * ie.size) ⟨b, 0, none⟩) s1 _
    rw [← hm1.len]
    refine W.rdL hm1.own.row fun s2 m2 n2 x2 => W.bind ?_
    have hm2 : Marked s2 ie.size len old v b := hm1.same m2 n2
    have hb2 : s2.lim ≤ s2.next := x2.bnd hb1
    show W (useUp ie.size (some ⟨b, 0, none⟩) (c % capU) (c / capU)) s2 _
    rw [hmod, hdiv]
    unfold useUp
    show W (M.if (Nat.beq ((b + len * ie.size) * 1024 + ie.size) 0) _ _) s2 _
    rw [hb0]
    have hd1 : ((b + len * ie.size) * 1024 + ie.size) / 1024 = b + len * ie.size := by omega
    have hd2 : ((b + len * ie.size) * 1024 + ie.size) % 1024 = ie.size := by omega
    show W (M.bind (Am.rdC (((b + len * ie.size) * 1024 + ie.size) / 1024)) _) s2 _
    rw [hd1]
    refine W.bind (W.rdC hm2.tok hm2.lt ?_)
    show W (M.chk (Nat.beq ie.size ie.size && Nat.beq (((b + len * ie.size) * 1024 + ie.size) % 1024) ie.size) (M.bind (Am.wrC (((b + len * ie.size) * 1024 + ie.size) / 1024) (.O (.tok true ie.size))) fun _ => goOld ie.size (some ⟨b, 0, none⟩) len)) _ _
    rw [hd2, hd1]
    refine W.chk (by rw [Nat.beq_refl]; rfl) (W.bind (W.wrC hm2.lt ?_))
    show W (letGo (len * ie.size) (b + 0)) _ _
    generalize hs3 : ((s2.rdN (b + len * ie.size)).wrN (b + len * ie.size) (.O (.tok true ie.size))) = s3
    have x3 : Ext (In b 0 (len * ie.size + 1)) (In b 0 (len * ie.size + 1)) s2 s3 := by
      rw [← hs3]
      have a1 : Ext (In b 0 (len * ie.size + 1)) (In b 0 (len * ie.size + 1)) s2 (s2.rdN (b + len * ie.size)) := Ext.rdN s2 _ fun _ => ⟨by omega, by omega⟩
      exact a1.trans (Ext.wrN (F := In b 0 (len * ie.size + 1)) (s2.rdN (b + len * ie.size)) _ _ ⟨by omega, by omega⟩) hb2 (fun _ _ h => h) fun _ _ h => h
    have n3 : s3.next = s2.next := by rw [← hs3]; rfl
    have hb3 : s3.lim ≤ s3.next := x3.bnd hb2
    obtain ⟨s4, e4, n4, x4⟩ := letGo_run (len * ie.size) (b + 0) s3 hb3 (by have := hm2.lt; omega)
    refine W.of e4 (W.bind (W.newL fun s5 n5 x5 r5 => W.fN (W.bind (W.wrC ?_ ?_))))
    · rw [n5]
      simp only [Nat.add_eq, Nat.mul_eq, List.length_append, List.length_take, hm.len, hl, Nat.min_self]
      rw [Nat.add_mul]
      omega
    · show W (Am.fA (⟨s4.next, 0, none⟩ : Addr) fun a => Am.fN (Nat.add len n) fun l => Am.fN _ fun c => M.pure (.slice (some a) l c)) _ Q
      have htake : old.take (Nat.mul len ie.size) = old := List.take_of_length_le (by rw [hm.len]; exact Nat.le_refl _)
      rw [htake] at n5 r5
      have hadd : Nat.add len n = len + n := rfl
      have hmul : Nat.mul (len + n) ie.size = (len + n) * ie.size := rfl
      have hal : (old ++ l).length = (len + n) * ie.size := by rw [List.length_append, hm.len, hl, Nat.add_mul]
      have nn : s.next ≤ s4.next := by rw [n4, n3, n2, n1]; exact Nat.le_refl _
      have xall : Ext (fun x => F x ∨ In b 0 (len * ie.size + 1) x) (In b 0 (len * ie.size + 1)) s s5 := by
        have y1 : Ext (fun x => F x ∨ In b 0 (len * ie.size + 1) x) (In b 0 (len * ie.size + 1)) s s1 := x1.weak hbd (fun _ _ h => .inl h) fun _ _ h => h.elim
        have y2 := y1.trans x2 hbd (fun x _ h => .inr ⟨h.1, by have := h.2; rw [hm.len] at this; omega⟩) fun _ _ h => h.elim
        have y3 := y2.trans x3 hbd (fun x _ h => .inr h) fun _ _ h => h
        have y4 := y3.trans x4 hbd (fun _ _ h => h.elim) fun x _ h => ⟨by have := h.1; omega, by have := h.2; omega⟩
        exact y4.trans x5 hbd (fun _ _ h => h.elim) fun _ _ h => h.elim
      have hb5 : s5.lim ≤ s5.next := xall.bnd hbd
      refine W.fA (W.fN (W.fN (W.pure (q _ _ s4.next ⟨?_, nn, ?_, hal, ?_, ?_⟩ ?_))))
      · rfl
      · intro k v hk
        have hk' := (List.getElem?_eq_some_iff.1 hk).1
        have := r5 k v hk
        refine ⟨this.1, ?_⟩
        show T.get (T.set s5.mem _ _) _ = _
        rw [T.get_set, if_neg]
        · exact this.2
        · rw [hadd, hmul]
          show s4.next + (0 + k) ≠ s4.next + (len + n) * ie.size
          omega
      · show T.get (T.set s5.mem (Nat.add s4.next (Nat.mul (Nat.add len n) ie.size)) _) _ = _
        rw [hadd, hmul, T.get_set]
        exact if_pos rfl
      · show s4.next + (len + n) * ie.size < s5.next
        rw [n5, hal]
        omega
      · refine xall.trans (Ext.wrN (F := Non) (G := fun x => s4.next ≤ x) s5 _ _ ?_) hbd (fun _ _ h => h.elim) fun x hx h => ?_
        · show s4.next ≤ s4.next + Nat.mul (Nat.add len n) ie.size
          omega
        · omega
end
end Go.Proofs.YtbmkpcjkadifhaaGreatDoor.Am
