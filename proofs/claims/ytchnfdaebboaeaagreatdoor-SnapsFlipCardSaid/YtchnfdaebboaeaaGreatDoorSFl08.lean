import Derived.Test.YtchnfdaebboaeaaGreatDoorSFl07
import GoSem.ClaimWide
import Derived.ChangeShapes
import Derived.ChangeSlices
import Derived.WideShapes
import Derived.OpenShut
noncomputable section
namespace Go.Proofs.YtchnfdaebboaeaaGreatDoor.Am
def tyS (E : Env) (t : Nat) : Option (Nat × Bool) := match T.get E.ty t with | some i => some (i.size, i.agg) | none => none
def slN (E : Env) (t : Nat) : Option Nat := match T.get E.ty t with
  | some i => (match i.u with | .slice e => (match T.get E.ty e with | some ie => some ie.size | none => none) | _ => none)
  | none => none
def arrN (E : Env) (t : Nat) : Option (Nat × Nat) := match T.get E.ty t with
  | some i => (match i.u with | .array n e => (match T.get E.ty e with | some ie => some (n, ie.size) | none => none) | _ => none)
  | none => none
def fldN (E : Env) (t f : Nat) : Option (Nat × Nat × Bool) := match T.get E.ty t with
  | some i => (match i.u with | .struct fs => (match fs.toList[f]? with | some fd => (match T.get E.ty fd.type with | some fi => some (fd.offset, fi.size, fi.agg) | none => none) | none => none) | _ => none)
  | none => none
def Fr (E : Env) (t : Nat) : Option (List Value) := match T.get E.ty t with | some i => some i.zero | none => none
def intK (E : Env) (t : Nat) : Option IntKind := match T.get E.ty t with | some i => (match i.u with | .int k => some k | _ => none) | none => none
def hasT (E : Env) (t : Nat) : Bool := (T.get E.ty t).isSome
section
variable {α β : Type} {s : St} {E : Env} {t : Nat}
theorem Gt {n : Nat} {g : Bool} (h : tyS E t = some (n, g)) : ∃ i, T.get E.ty t = some i ∧ i.size = n ∧ i.agg = g := by
 unfold tyS at h
 split at h
 · rename_i i e
   cases h
   exact ⟨i, e, rfl, rfl⟩
 · cases h
theorem L7 {n : Nat} (h : slN E t = some n) : ∃ i e ie, T.get E.ty t = some i ∧ i.u = .slice e ∧ T.get E.ty e = some ie ∧ ie.size = n := by
 unfold slN at h
 split at h
 · rename_i i e
   split at h
   · rename_i e2 q
     split at h
     · rename_i ie q2
       cases h
       exact ⟨i, e2, ie, e, q, q2, rfl⟩
     · cases h
   · cases h
 · cases h
theorem OT {n m : Nat} (h : arrN E t = some (n, m)) : ∃ i e ie, T.get E.ty t = some i ∧ i.u = .array n e ∧ T.get E.ty e = some ie ∧ ie.size = m := by
 unfold arrN at h
 split at h
 · rename_i i e
   split at h
   · rename_i n2 e2 q
     split at h
     · rename_i ie q2
       cases h
       exact ⟨i, e2, ie, e, q, q2, rfl⟩
     · cases h
   · cases h
 · cases h
theorem UB {f off sz : Nat} {g : Bool} (h : fldN E t f = some (off, sz, g)) : ∃ i fs fd fi, T.get E.ty t = some i ∧ i.u = .struct fs ∧ fs.toList[f]? = some fd ∧ T.get E.ty fd.type = some fi ∧ fd.offset = off ∧ fi.size = sz ∧ fi.agg = g := by
 unfold fldN at h
 split at h
 · rename_i i e
   split at h
   · rename_i fs q
     split at h
     · rename_i fd q2
       split at h
       · rename_i fi q3
         cases h
         exact ⟨i, fs, fd, fi, e, q, q2, q3, rfl, rfl, rfl⟩
       · cases h
     · cases h
   · cases h
 · cases h
theorem W.ti {i : TI} {Q : TI → St → Prop} (h : T.get E.ty t = some i) (q : Q i s) : W (ti E t) s Q := W.ofOpt h q
theorem W.load1 {b o : Nat} {v : Value} {Q : Value → St → Prop} (ht : tyS E t = some (1, false)) (h : At s b o v) (q : Q v (s.rdN (b + o))) : W (A6 E t (.pointer (some ⟨b, o, none⟩))) s Q := by
 obtain ⟨i, h1, h2, h3⟩ := Gt ht
 refine W.bind (W.pure (W.bind (W.ti h1 ?_)))
 show W (M.if i.agg _ _) s Q
 rw [h3]
 exact W.rdV h q
theorem W.loadA {b o n : Nat} {l : List Value} {Q : Value → St → Prop} (ht : tyS E t = some (n, true)) (h : Row s b o l) (hl : l.length = n)
   (q : ∀ s1, s1.mem = s.mem → s1.next = s.next → Ext (In b o n) Non s s1 → Q (.agg l.toArray) s1) : W (A6 E t (.pointer (some ⟨b, o, none⟩))) s Q := by
 obtain ⟨i, h1, h2, h3⟩ := Gt ht
 subst hl
 refine W.bind (W.pure (W.bind (W.ti h1 ?_)))
 show W (M.if i.agg (M.bind (Am.rdL i.size ⟨b, o, none⟩) fun l => M.pure (Value.agg l.toArray)) _) s Q
 rw [h3, h2]
 exact W.bind (W.rdL h fun s1 e1 e2 e3 => W.pure (q s1 e1 e2 e3))
theorem Ho {v : Value} (h : oneCell v = true) : cellsOf v = [v] := by cases v <;> simp [oneCell] at h <;> rfl
theorem W.store {b o n : Nat} {g : Bool} {v : Value} {Q : Value → St → Prop} (ht : tyS E t = some (n, g)) (hl : (cellsOf v).length = n) (h1 : (cellsOf v).all oneCell = true) (h : ∀ i, i < n → ∃ u, Own s b (o + i) u)
   (q : ∀ s1, s1.next = s.next → Ext (In b o n) (In b o n) s s1 → Al s1 b o (cellsOf v) → Q undef s1) : W (Bp E t (.pointer (some ⟨b, o, none⟩)) v) s Q := by
 obtain ⟨i, g1, g2, g3⟩ := Gt ht
 subst hl
 refine W.bind (W.pure (W.bind (W.bind (W.ti g1 (W.chk ?_ (W.wrL h h1 fun s1 e1 e2 e3 => W.pure (q s1 e1 e2 e3)))))))
 rw [g2]
 exact Nat.beq_refl _
theorem W.store1 {b o : Nat} {g : Bool} {u v : Value} {Q : Value → St → Prop} (ht : tyS E t = some (1, g)) (hv : oneCell v = true) (h : Own s b o u)
   (q : ∀ s1, s1.next = s.next → Ext (In b o 1) (In b o 1) s s1 → Own s1 b o v → Q undef s1) : W (Bp E t (.pointer (some ⟨b, o, none⟩)) v) s Q := by
 refine W.store ht (by rw [Ho hv]; rfl) (by rw [Ho hv]; simp [hv]) (fun i hi => ⟨u, by rw [show o + i = o by omega]; exact h⟩) fun s1 e1 e2 e3 => q s1 e1 e2 ?_
 have := e3 0 v (by rw [Ho hv]; rfl)
 exact this
theorem W.alloc {z : List Value} {Q : Value → St → Prop} (ht : Fr E t = some z) (q : ∀ s1, s1.next = s.next + z.length + 1 → Ext Non Non s s1 → Al s1 s.next 0 z → Q (.pointer (some ⟨s.next, 0, none⟩)) s1) : W (BZ E t) s Q := by
 unfold Fr at ht
 split at ht
 · rename_i i e
   cases ht
   exact W.bind (W.ti e (W.bind (W.newL fun s1 e1 e2 e3 => W.pure (q s1 e1 e2 e3))))
 · cases ht
theorem W.box {v : Value} {Q : Value → St → Prop} (q : ∀ s1, s1.next = s.next + (cellsOf v).length + 1 → Ext Non Non s s1 → Al s1 s.next 0 (cellsOf v) → Q (.pointer (some ⟨s.next, 0, none⟩)) s1) : W (kBox v) s Q :=
 W.bind (W.newL fun s1 e1 e2 e3 => W.pure (q s1 e1 e2 e3))
theorem BW {f off sz b o : Nat} {g : Bool} (h : fldN E t f = some (off, sz, g)) (h0 : 0 < sz) (Q : Value → St → Prop) : W (kFld E t (.pointer (some ⟨b, o, none⟩)) f) s Q = Q (.pointer (some ⟨b, o + off, none⟩)) s := by
 obtain ⟨i, fs, fd, fi, h1, h2, h3, h4, h5, h6, h7⟩ := UB h
 subst h5; subst h6
 refine A5 ?_
 unfold kFld
 rw [AW (show ti E t s = .some i s by unfold ti; rw [h1]; rfl), AW (show asA (.pointer (some ⟨b, o, none⟩)) s = .some ⟨b, o, none⟩ s from rfl)]
 rw [AW (show Cs E i.u f s = .some (fd.offset, fi, fd.type) s by unfold Cs; rw [h2]; simp only [h3]; exact AW (show ti E fd.type s = .some fi s by unfold ti; rw [h4]; rfl))]
 show M.chk (Nat.blt 0 fi.size) (ptrA (addA ⟨b, o, none⟩ fd.offset)) s = _
 rw [Bv h0]
 show ptrA ⟨b, o + fd.offset, none⟩ s = _
 unfold ptrA
 rw [Cf]
 rfl
theorem XM {n : Nat} {ty : Nat} {g : Bool} {cs : List Value} {off : Nat} {v : Value} (h : tyS E ty = some (n, g)) (hv : (g = false ∧ cs[off]? = some v) ∨ (g = true ∧ v = .agg ((cs.drop off).take n).toArray)) : CB E ty cs off s = .some v s := by
 obtain ⟨i, h1, h2, h3⟩ := Gt h
 subst h2; subst h3
 unfold CB
 rw [AW (show ti E ty s = .some i s by unfold ti; rw [h1]; rfl)]
 rcases hv with ⟨e, hv⟩ | ⟨e, hv⟩
 · rw [e]
   show M.ofOpt (cs[off]?) s = _
   rw [hv]
   rfl
 · rw [e, hv]
   rfl
theorem KJ {sz b o n c k : Nat} {kd : IntKind} (h : slN E t = some sz) (hk : k < n) (Q : Value → St → Prop) : W (Cj E t (.slice (some ⟨b, o, none⟩) n c) (.int kd (k : Nat))) s Q = Q (.pointer (some ⟨b, o + k * sz, none⟩)) s := by
 obtain ⟨i, e, ie, h1, h2, h3, h4⟩ := L7 h
 subst h4
 refine A5 ?_
 unfold Cj
 rw [AW (show ti E t s = .some i s by unfold ti; rw [h1]; rfl), AW (show asN (.int kd (k : Nat)) s = .some k s from rfl)]
 unfold idxN
 rw [h2]
 simp only
 rw [AW (show ti E e s = .some ie s by unfold ti; rw [h3]; rfl)]
 rw [Bv hk]
 show ptrA ⟨b, o + k * ie.size, none⟩ s = _
 unfold ptrA
 rw [Cf]
 rfl
theorem Br (a : Addr) (Q : Value → St → Prop) : W (kNil (.pointer (some a))) s Q = Q (.pointer (some a)) s := A5 rfl
theorem Ga {sz n c : Nat} {p : Option Addr} (h : slN E t = some sz) (Q : Value → St → Prop) : W (Bt E .len [t] [.slice p n c]) s Q = Q (.int .i64 (n : Nat)) s := by
 obtain ⟨i, e, ie, h1, h2, h3, h4⟩ := L7 h
 refine A5 ?_
 show aLen E t (.slice p n c) s = _
 unfold aLen
 rw [AW (show ti E t s = .some i s by unfold ti; rw [h1]; rfl)]
 rw [h2]
 show pN n s = _
 unfold pN
 rw [AG]
 rfl
theorem RA {d : Nat} {k k' : IntKind} {n : Int} (h1 : hasT E t = true) (h2 : intK E d = some k') (Q : Value → St → Prop) : W (Bz E t d (.int k n)) s Q = Q (.int k' (k'.wrap n)) s := by
 refine A5 ?_
 show EQ E t d k n s = _
 unfold hasT at h1
 obtain ⟨i, hi⟩ := Option.isSome_iff_exists.1 h1
 unfold intK at h2
 split at h2
 · rename_i id hd
   split at h2
   · rename_i k2 hu
     cases h2
     unfold EQ
     rw [AW (show ti E t s = .some i s by unfold ti; rw [hi]; rfl), AW (show ti E d s = .some id s by unfold ti; rw [hd]; rfl)]
     simp only [hu]
     show fI (Ji k' n) (fun n => M.pure (Value.int k' n)) s = _
     rw [BP, Rx]
     rfl
   · cases h2
 · cases h2
theorem B4 {call round : Ae} {f : Nat} {l : List Value} (Q : Value → St → Prop) : W (B3 call round (.func (.func f) #[] #[]) l) s Q = W (call f l) s Q := by
 show W (call f ([] ++ (l ++ []))) s Q = _
 rw [List.append_nil, List.nil_append]
theorem W.orc {ih : AF → M (Value × FrameMode)} {f : Nat} {m : List Value → M Value} {args : List Value} {Q : Value → St → Prop} (ho : E.orc.get f = some m) (h : W (m args) s Q) : W (AJ E ih f args) s Q := by
 unfold AJ
 rw [ho]
 exact h
end
section
variable {α β : Type} {s : St} {E : Env} {t : Nat}
abbrev u8 (n : Nat) : Value := .int .u8 (n : Int)
abbrev u8l (l : List Nat) : List Value := l.map fun n : Nat => Value.int .u8 (n : Int)
theorem A4 (l : List Nat) : (u8l l).length = l.length := by simp
def Bs (s : St) (v : Value) (l : List Nat) : Prop :=
  (v = .slice none 0 0 ∧ l = []) ∨ ∃ b o c, v = .slice (some ⟨b, o, none⟩) l.length c ∧ l.length ≤ c % capU ∧ Bj c 1 = true ∧ Row s b o (u8l l)
def BsF (v : Value) : Nat → Prop := match v with
  | .slice (some ⟨b, o, _⟩) n _ => In b o n
  | _ => Non
theorem Bs.ext {F G : Nat → Prop} {s s' : St} {v : Value} {l : List Nat} (h : Bs s v l) (e : Ext F G s s') (hG : ∀ x, BsF v x → ¬ G x) : Bs s' v l := by
 rcases h with h | ⟨b, o, c, rfl, h1, h2, h3⟩
 · exact .inl h
 · refine .inr ⟨b, o, c, rfl, h1, h2, h3.ext e fun i hi => hG _ ?_⟩
   rw [A4] at hi
   exact ⟨by omega, by omega⟩
theorem Bs.ext0 {F : Nat → Prop} {s s' : St} {v : Value} {l : List Nat} (h : Bs s v l) (e : Ext F Non s s') : Bs s' v l := h.ext e fun _ _ => id
theorem Bs.same {s s' : St} {v : Value} {l : List Nat} (h : Bs s v l) (hm : s'.mem = s.mem) (hn : s'.next = s.next) : Bs s' v l := by
 rcases h with h | ⟨b, o, c, h0, h1, h2, h3⟩
 · exact .inl h
 · exact .inr ⟨b, o, c, h0, h1, h2, fun i v e => (h3 i v e).same hm hn⟩
theorem Bs.sl {v : Value} {l : List Nat} (h : Bs s v l) : ∃ p c, v = .slice p l.length c := by
 rcases h with ⟨rfl, rfl⟩ | ⟨b, o, c, rfl, _⟩
 · exact ⟨_, _, rfl⟩
 · exact ⟨_, _, rfl⟩
theorem Bs.len {v : Value} {l : List Nat} {sz : Nat} (h : Bs s v l) (ht : slN E t = some sz) (Q : Value → St → Prop) : W (Bt E .len [t] [v]) s Q = Q (.int .i64 (l.length : Nat)) s := by
 obtain ⟨p, c, rfl⟩ := h.sl
 exact Ga ht Q
theorem Row.at {b o : Nat} {l : List Nat} (h : Row s b o (u8l l)) {k x : Nat} (hk : l[k]? = some x) : At s b (o + k) (u8 x) := h k _ (by rw [List.getElem?_map, hk]; rfl)
theorem Row.take {b o n : Nat} {l : List Value} (h : Row s b o l) : Row s b o (l.take n) := fun i v e => by
 rw [List.getElem?_take] at e
 split at e
 · exact h i v e
 · cases e
theorem Row.drop {b o n : Nat} {l : List Value} (h : Row s b o l) : Row s b (o + n) (l.drop n) := fun i v e => by
 rw [List.getElem?_drop] at e
 have := h _ v e
 rw [show o + n + i = o + (n + i) by omega]
 exact this
theorem Al.take {b o n : Nat} {l : List Value} (h : Al s b o l) : Al s b o (l.take n) := fun i v e => by
 rw [List.getElem?_take] at e
 split at e
 · exact h i v e
 · cases e
theorem Al.drop {b o n : Nat} {l : List Value} (h : Al s b o l) : Al s b (o + n) (l.drop n) := fun i v e => by
 rw [List.getElem?_drop] at e
 have := h _ v e
 rw [show o + n + i = o + (n + i) by omega]
 exact this
def txt (l : List Nat) : ByteArray := ⟨(l.map UInt8.ofNat).toArray⟩
theorem NO : ∀ (l : List Nat), FJ (u8l l) = some (l.map UInt8.ofNat)
 | [] => rfl
 | n :: l => by
   show onO (some (UInt8.ofNat n)) (fun b => onO (FJ (u8l l)) fun l => some (b :: l)) = _
   rw [NO l]
   rfl
def Mb (E : Env) (t : Nat) : Bool := match T.get E.ty t with | some i => (match i.u with | .string => true | _ => false) | none => false
def KF (E : Env) (t : Nat) : Bool := match T.get E.ty t with
  | some i => (match i.u with | .slice e => (match T.get E.ty e with | some ie => (match ie.u with | .int .u8 => true | _ => false) | none => false) | _ => false)
  | none => false
theorem W.str {d : Nat} {v : Value} {l : List Nat} {Q : Value → St → Prop} (h : Bs s v l) (hz : l ≠ [] ∨ ∃ b o c, v = .slice (some ⟨b, o, none⟩) l.length c) (h1 : KF E t = true) (h2 : Mb E d = true)
   (q : ∀ s1, s1.mem = s.mem → s1.next = s.next → Ext (BsF v) Non s s1 → Q (.string (txt l)) s1) : W (Bz E t d v) s Q := by
 have h' : ∃ b o c, v = .slice (some ⟨b, o, none⟩) l.length c ∧ Row s b o (u8l l) := by
   rcases h with ⟨rfl, rfl⟩ | ⟨b, o, c, rfl, _, _, h3⟩
   · rcases hz with hz | ⟨b, o, c, hz⟩
     · exact absurd rfl hz
     · cases hz
   · exact ⟨b, o, c, rfl, h3⟩
 obtain ⟨b, o, c, rfl, h3⟩ := h'
 unfold KF at h1
 split at h1
 · rename_i i hi
   split at h1
   · rename_i e hu
     split at h1
     · rename_i ie he
       split at h1
       · rename_i hk
         unfold Mb at h2
         split at h2
         · rename_i id hd
           split at h2
           · rename_i hs
             have conv : ∀ s : St, Bz E t d (.slice (some ⟨b, o, none⟩) l.length c) s = strOf ⟨b, o, none⟩ l.length s := fun s => by
               show Dj E t d ⟨b, o, none⟩ l.length c s = _
               unfold Dj
               rw [AW (show Am.ti E t s = .some i s by unfold Am.ti; rw [hi]; rfl), AW (show Am.ti E d s = .some id s by unfold Am.ti; rw [hd]; rfl)]
               simp only [hu, hs]
               show CY E t d (.slice (some ⟨b, o, none⟩) l.length c) s = _
               show Es E t d ⟨b, o, none⟩ l.length s = _
               unfold Es
               rw [AW (show Am.ti E t s = .some i s by unfold Am.ti; rw [hi]; rfl), AW (show Am.ti E d s = .some id s by unfold Am.ti; rw [hd]; rfl)]
               simp only [hu, hs]
               rw [AW (show Am.ti E e s = .some ie s by unfold Am.ti; rw [he]; rfl)]
               simp only [hk]
             refine W.cast (conv s) ?_
             have hl : l.length = (u8l l).length := (A4 l).symm
             show W (M.bind (Am.rdL l.length ⟨b, o, none⟩) fun x => M.on (FJ x) fun bs => M.pure (.string ⟨bs.toArray⟩)) s Q
             rw [hl]
             refine W.bind (W.rdL h3 fun s1 e1 e2 e3 => W.on (NO l) (W.pure (q s1 e1 e2 ?_)))
             rw [A4] at e3
             exact e3
           · cases h2
         · cases h2
       · cases h1
     · cases h1
   · cases h1
 · cases h1
theorem SB {P : Program} {u : TypeDesc} (h : P.underlying t = some u) : semP P (underlying t) = some u := by
 unfold underlying program
 show semP P ((match P.underlying t with | some d => pure d | none => _) : Sem TypeDesc) = _
 rw [h]
 rfl
end
open Go.RowKit
theorem Qa {E : Env} (he : EnvOK E) {f fuel : Nat} (hx : E.ext.get f = none) {m : List Value → M Value} (lo : ∀ a, Loc (m a)) (np : ∀ a, NoPan (m a)) (hr : ∀ a, Bb (m a))
   (h : ∀ nv, BU nv → ∀ args s v s', m args s = .some v s' → s.lim ≤ s.next → W (AJ E (runF E fuel) f (args.map (cA nv))) (s.conc nv) fun u s1 => cA nv v = cA nv u ∧ s1.next = s.next ∧ s1.mem = (s.conc nv).mem) : OrcOK E.P f m :=
 RL he hx lo np fun nv hs args s v s' hm hb => by
   obtain ⟨g1, g2, g3, g4⟩ := hr args _ _ _ hm
   obtain ⟨u, s1, e1, e2, e3, e4⟩ := h nv hs args s v s' hm hb
   refine ⟨g3, g4, by rw [g2]; exact Nat.le_refl _, u, s1, e1, e2, by rw [e3, g2]; exact Nat.le_refl _, fun loc c e => ?_⟩
   rw [g1] at e
   refine ⟨cC nv c, ?_, (K1 c).symm⟩
   rw [e4]
   show T.get (T.mapT (cC nv) s.mem) loc = _
   rw [T.get_mapT, e]
   rfl
theorem Sb {loc : Nat} {s s' : St} {c : Cell} (h : rdC loc s = .some c s') : loc < s.next := by
 obtain ⟨mem, next, lim, rd, wr, cx⟩ := s
 unfold rdC at h
 simp only at h
 cases hb : Nat.blt loc next with
 | false => rw [hb] at h; cases h
 | true => exact Nat.lt_of_lt_of_le (Nat.lt_succ_self _) (Nat.le_of_ble_eq_true hb)
theorem Bb.rdC (loc : Nat) : Bb (rdC loc) := fun s b s' h => (B0 h).2
theorem Bb.ofOpt {α : Type} (x : Option α) : Bb (M.ofOpt x) := fun s b s' h => by obtain ⟨_, rfl⟩ := Cr h; exact ⟨rfl, rfl, rfl, rfl⟩
theorem Bb.on {α β : Type} (x : Option α) {f : α → M β} (k : ∀ a, Bb (f a)) : Bb (M.on x f) := fun s b s' h => by obtain ⟨a, _, e⟩ := AS h; exact k a _ _ _ e
theorem Bb.chk {α : Type} (b : Bool) {m : M α} (k : Bb m) : Bb (M.chk b m) := fun s v s' h => k _ _ _ (AP h).2
def ownV (b : Nat) (c : Cell) : Option Value := Cell.rec (motive := fun _ => Option Value) (fun blk v => Bool.rec (motive := fun _ => Option Value) none (some v) (Nat.beq blk b)) (fun _ => none) c
theorem Gn_ {b : Nat} {c : Cell} {v : Value} (h : ownV b c = some v) : c = .C b v := by
 cases c with
 | O o => cases h
 | C blk u =>
   unfold ownV at h
   cases e : Nat.beq blk b with
   | false => simp only [e] at h; cases h
   | true =>
     simp only [e] at h
     cases h
     rw [Nat.eq_of_beq_eq_true e]
def rowR (b : Nat) : Nat → Nat → M (List Value) := fun o n => Nat.rec (motive := fun _ => Nat → M (List Value)) (fun _ => M.pure []) (fun _ ih o => M.bind (rdC (b + o)) fun c => M.on (ownV b c) fun v => M.bind (ih (o + 1)) fun l => M.pure (v :: l)) n o
theorem D2 (b : Nat) : ∀ n o, Loc (rowR b o n)
 | 0, _ => Ab _
 | n + 1, o => Aa (B1 _) fun _ => Ah _ fun _ => Aa (D2 b n (o + 1)) fun _ => Ab _
theorem DK (b : Nat) : ∀ n o, NoPan (rowR b o n)
 | 0, _ => Ag _
 | n + 1, o => Ac (B7 _) fun _ => Ai _ fun _ => Ac (DK b n (o + 1)) fun _ => Ag _
theorem Dt (b : Nat) : ∀ n o, Bb (rowR b o n)
 | 0, _ => .pure _
 | n + 1, o => .bind (.rdC _) fun _ => .on _ fun _ => .bind (Dt b n (o + 1)) fun _ => .pure _
theorem EV {b : Nat} : ∀ {n o : Nat} {s s' : St} {l : List Value}, rowR b o n s = .some l s' → l.length = n ∧ Al s b o l
 | 0, o, s, s', l, h => by
   obtain ⟨rfl, _⟩ := Af (show M.pure [] s = .some l s' from h)
   exact ⟨rfl, fun i v e => by simp at e⟩
 | n + 1, o, s, s', l, h => by
   obtain ⟨c, s1, e1, e2⟩ := bind_some (show M.bind (rdC (b + o)) _ s = .some l s' from h)
   obtain ⟨v, e3, e4⟩ := AS e2
   obtain ⟨l1, s2, e5, e6⟩ := bind_some e4
   obtain ⟨rfl, _⟩ := Af e6
   have hlt := Sb e1
   obtain ⟨g1, g2, g3, _⟩ := B0 e1
   obtain ⟨k1, k2⟩ := EV (show rowR b (o + 1) n s1 = .some l1 s2 from e5)
   refine ⟨by rw [List.length_cons, k1], fun i u e => ?_⟩
   cases i with
   | zero =>
     cases e
     rw [Gn_ e3] at g1
     exact ⟨hlt, g1⟩
   | succ i =>
     obtain ⟨q1, q2⟩ := k2 i u e
     rw [g3] at q1
     rw [g2] at q2
     rw [show o + 1 + i = o + (i + 1) by omega] at q1 q2
     exact ⟨q1, q2⟩
theorem Al.conc {nv : Nat → IntKind × Int} {s : St} {b o : Nat} {l : List Value} (h : Al s b o l) : Al (s.conc nv) b o (l.map (cV nv)) := fun i v e => by
 rw [List.getElem?_map] at e
 obtain ⟨u, e1, rfl⟩ := Option.map_eq_some_iff.1 e
 obtain ⟨h1, h2⟩ := h i u e1
 refine ⟨h1, ?_⟩
 show T.get (T.mapT (cC nv) s.mem) _ = _
 rw [T.get_mapT, h2]
 rfl
def CZ (p : List Value → List Value → Option Bool) (args : List Value) : M Value := match args with
  | [.slice (some ⟨b, o, none⟩) n c, .slice (some ⟨b', o', none⟩) n' c'] => M.chk (Nat.ble n (c % capU) && Bj c 1 && (Nat.ble n' (c' % capU) && Bj c' 1)) (M.bind (rowR b o n) fun l => M.bind (rowR b' o' n') fun l' => M.on (p l l') fun q => M.pure (.bool q))
  | _ => M.fail
theorem WS (p : List Value → List Value → Option Bool) (a : List Value) : Loc (CZ p a) := by
 unfold CZ
 split
 · exact Ak _ (Aa (D2 _ _ _) fun _ => Aa (D2 _ _ _) fun _ => Ah _ fun _ => Ab _)
 · exact Ad
theorem Xu (p : List Value → List Value → Option Bool) (a : List Value) : NoPan (CZ p a) := by
 unfold CZ
 split
 · exact An _ (Ac (DK _ _ _) fun _ => Ac (DK _ _ _) fun _ => Ai _ fun _ => Ag _)
 · exact Aj
theorem CQ_ (p : List Value → List Value → Option Bool) (a : List Value) : Bb (CZ p a) := by
 unfold CZ
 split
 · exact .chk _ (.bind (Dt _ _ _) fun _ => .bind (Dt _ _ _) fun _ => .on _ fun _ => .pure _)
 · exact .fail
theorem VI {p : List Value → List Value → Option Bool} {args : List Value} {s s' : St} {v : Value} (h : CZ p args s = .some v s') : ∃ va vb l l' q, args = [va, vb] ∧ v = .bool q ∧ p l l' = some q ∧ (∀ nv, cA nv va = va ∧ cA nv vb = vb) ∧
   ∀ nv x y, l.map (cV nv) = u8l x → l'.map (cV nv) = u8l y → Bs (s.conc nv) va x ∧ Bs (s.conc nv) vb y := by
 unfold CZ at h
 split at h
 · rename_i b o n c b' o' n' c'
   obtain ⟨hc, h⟩ := AP h
   simp only [Bool.and_eq_true] at hc
   obtain ⟨⟨c1, c2⟩, c3, c4⟩ := hc
   obtain ⟨l, s1, e1, h⟩ := bind_some h
   obtain ⟨l', s2, e2, h⟩ := bind_some h
   obtain ⟨q, e3, h⟩ := AS h
   obtain ⟨rfl, _⟩ := Af h
   obtain ⟨g1, g2, _⟩ := Dt _ _ _ _ _ _ e1
   obtain ⟨k1, k2⟩ := EV e1
   obtain ⟨k3, k4⟩ := EV e2
   have k5 : Al s b' o' l' := fun i u e => by
     obtain ⟨q1, q2⟩ := k4 i u e
     rw [g2] at q1
     rw [g1] at q2
     exact ⟨q1, q2⟩
   refine ⟨_, _, l, l', q, rfl, rfl, e3, fun nv => ⟨rfl, rfl⟩, fun nv x y hx hy => ⟨.inr ⟨b, o, c, ?_, ?_, c2, ?_⟩, .inr ⟨b', o', c', ?_, ?_, c4, ?_⟩⟩⟩
   · have := congrArg List.length hx
     rw [List.length_map, A4, k1] at this
     rw [this]
   · have := congrArg List.length hx
     rw [List.length_map, A4, k1] at this
     rw [← this]
     exact Nat.le_of_ble_eq_true c1
   · rw [← hx]
     exact k2.conc.row
   · have := congrArg List.length hy
     rw [List.length_map, A4, k3] at this
     rw [this]
   · have := congrArg List.length hy
     rw [List.length_map, A4, k3] at this
     rw [← this]
     exact Nat.le_of_ble_eq_true c3
   · rw [← hy]
     exact k5.conc.row
 · cases h
def LY (c m : Nat) : Option Value :=
  if 10000 ≤ c ∧ c < 10006 ∧ m = 6 then some (.int .i64 ((c - 10000 : Nat) : Int)) else
  if 20000 ≤ c ∧ c < 20100 ∧ m = (c - 20000) / 10 ∧ m < 7 ∧ (c - 20000) % 10 < m then some (.int .i64 (((c - 20000) % 10 : Nat) : Int)) else
  if 30000 ≤ c ∧ c < 30006 ∧ m = 168 then some (.complex .f32 6 (c + 1000)) else none
theorem TB {nv : Nat → IntKind × Int} (hs : BU nv) {c m : Nat} {v : Value} (e : LY c m = some v) : 1 ≤ m ∧ m ≤ 1000000 ∧ ∃ x : Int, nv c = (.i64, x) ∧ cA nv v = .int .i64 (x % (m : Int)) := by
 unfold LY at e
 split at e
 · rename_i h
   obtain ⟨h1, h2, rfl⟩ := h
   cases e
   obtain ⟨x, g1, g2⟩ := hs.2.1 (c - 10000) (by omega)
   rw [show 10000 + (c - 10000) = c by omega] at g1
   refine ⟨by decide, by decide, x, g1, ?_⟩
   show Value.int .i64 _ = _
   rw [← g2]
   rfl
 · split at e
   · rename_i _ h
     obtain ⟨h1, h2, h3, h4, h5⟩ := h
     cases e
     obtain ⟨x, g1, g2⟩ := hs.2.2 m h4 ((c - 20000) % 10) h5
     rw [show 20000 + 10 * m + (c - 20000) % 10 = c by omega] at g1
     refine ⟨by omega, by omega, x, g1, ?_⟩
     show Value.int .i64 _ = _
     rw [← g2]
   · split at e
     · rename_i _ _ h
       obtain ⟨h1, h2, rfl⟩ := h
       cases e
       obtain ⟨bit, _, g2, ⟨x, g3, g4⟩, _⟩ := hs.1 (c - 30000) (by omega)
       rw [show 30000 + (c - 30000) = c by omega] at g3
       rw [show 31000 + (c - 30000) = c + 1000 by omega] at g2
       refine ⟨by decide, by decide, x, g3, ?_⟩
       have h6 : cA nv (.complex .f32 6 (c + 1000)) = .int (nv (c + 1000)).1 (nv (c + 1000)).2 := by
         show cV nv (.complex .f32 6 (c + 1000)) = _
         unfold cV
         exact if_pos rfl
       rw [h6, g2, ← g4]
       rfl
     · cases e
def CT (args : List Value) : M Value := match args with
  | [.complex _ 6 c, .int .i64 (.ofNat m)] => M.ofOpt (LY c m)
  | _ => M.fail
theorem Bh_ (a : List Value) : Loc (CT a) := by
 unfold CT
 split
 · exact Au _
 · exact Ad
theorem GH_ (a : List Value) : NoPan (CT a) := by
 unfold CT
 split
 · exact Aw _
 · exact Aj
theorem Wt (a : List Value) : Bb (CT a) := by
 unfold CT
 split
 · exact .ofOpt _
 · exact .fail
theorem ZJ {nv : Nat → IntKind × Int} (hs : BU nv) {args : List Value} {s s' : St} {v : Value} (h : CT args s = .some v s') : ∃ (m : Nat) (x : Int), args.map (cA nv) = [.int .i64 x, .int .i64 (m : Int)] ∧ 1 ≤ m ∧ m ≤ 1000000 ∧ cA nv v = .int .i64 (x % (m : Int)) := by
 unfold CT at h
 split at h
 · rename_i k c m
   obtain ⟨e, _⟩ := Cr h
   obtain ⟨h1, h2, x, h3, h4⟩ := TB hs e
   refine ⟨m, x, ?_, h1, h2, h4⟩
   have h6 : cA nv (.complex k 6 c) = .int (nv c).1 (nv c).2 := by
     show cV nv (.complex k 6 c) = _
     unfold cV
     exact if_pos rfl
   show [cA nv (.complex k 6 c), _] = _
   rw [h6, h3]
   rfl
 · cases h
theorem Rel.ofOld {w : World} {r : Inj} {mem : T Cell} (hk : r.known.sure w) (hd : ∀ b b' d, r.blk b = some (b', d) → b' < w.heap.size)
   (ho : ∀ loc c, T.get mem loc = some c → ∃ b v, c = .O (.old b v) ∧ ∃ b' d v', b ≤ loc ∧ r.blk b = some (b', d) ∧ w.cell? ⟨b', loc - b + d, none⟩ = some v' ∧ VR r v v') : Rel w r mem w where
 below := .refl _ _
 dom := fun b b' d e => ⟨Nat.le_refl _, hd b b' d e⟩
 cell := fun l b v e => by obtain ⟨_, _, e2, _⟩ := ho _ _ e; cases e2
 sep := fun l1 l2 b1 v1 b2 v2 b' d1 d2 e => by obtain ⟨_, _, e2, _⟩ := ho _ _ e; cases e2
 obj := fun l o e ht => by obtain ⟨_, _, e2, _⟩ := ho _ _ e; cases e2; cases ht
 sepO := fun l1 l2 o1 o2 b' d1 d2 e _ ht => by obtain ⟨_, _, e2, _⟩ := ho _ _ e; cases e2; cases ht
 tok := fun t sz e => by obtain ⟨_, _, e2, _⟩ := ho _ _ e; cases e2
 sepT := fun t1 t2 s1 s2 k1 k2 e => by obtain ⟨_, _, e2, _⟩ := ho _ _ e; cases e2
 known := hk
 szs := fun l n e => by obtain ⟨_, _, e2, _⟩ := ho _ _ e; cases e2
 olds := {
   old := fun l b v e => by obtain ⟨_, _, e2, h⟩ := ho _ _ e; cases e2; exact h
   newC := fun l b v b' d e => by obtain ⟨_, _, e2, _⟩ := ho _ _ e; cases e2
   newO := fun l o b' d e ht => by obtain ⟨_, _, e2, _⟩ := ho _ _ e; cases e2; cases ht
   newS := fun l n b' d e => by obtain ⟨_, _, e2, _⟩ := ho _ _ e; cases e2 }
theorem Vs {E : Env} (he : EnvOK E) {fuel f : Nat} {args : List Value} {args' : Array Value} {v : Value} {s0 : St} {r : Inj} (ho : E.orc.get f = none) (hx : E.ext.get f = none) (h : W (AJ E (runF E fuel) f args) s0 fun u _ => u = v) (hp : plain v = true) {w : World} (ha : VRs r args args'.toList) (hr : Rel w r s0.mem w) (hb : Bnd s0)
   (hf : ∀ b, s0.next ≤ b → r.blk b = none ∧ r.ext b = none) : Calls E.P f args' w fun e w' => e = .returned v ∧ Below w.heap.size w w' := by
 intro cs
 obtain ⟨_, s', h, rfl⟩ := h
 unfold AJ at h
 rw [ho, hx] at h
 obtain ⟨s2, e1, rfl⟩ := Dq (o := .inl _) (show within cxN (M.bind (M.bind (BL E f args .normal) (runF E fuel)) fstV) s0 = rOf (.inl _) s' from h)
 obtain ⟨af, s1, o, e2, e3, e4⟩ := Ex (Gh _ _ _) e1
 obtain ⟨_, hF, rfl⟩ := Ic (r := r) (base := ([], cs)) (cx := cxN) he e2 ha (cs := cs) ⟨⟨rfl, rfl⟩, rfl, .nil⟩
 obtain ⟨w', r', k1, k2, cs', k3, k4⟩ := (El he fuel).ok e3 hF hr hb (fun b h1 _ => hf b h1)
 cases o with
 | inr c => cases e4
 | inl p =>
   cases e4
   obtain ⟨v', q1, q2, q3⟩ := k4
   obtain ⟨fr', x1, x2, x3⟩ := q3 rfl rfl
   have hcs : cs' = cs := by
     rcases k3 with k3 | ⟨_, _, _, _, _, k, _⟩
     · exact k3.2
     · cases k
   subst hcs
   exact ⟨.returned v', w', fr', ⟨by rw [q1.eq_of_plain hp], k1.rel.below⟩, x3, x1, x2⟩
theorem VRs.plains {r : Inj} : ∀ {l : List Value}, (∀ v ∈ l, plain v = true) → VRs r l l
 | [], _ => .nil
 | v :: l, h => .cons (.of_plain (h v (by simp))) (VRs.plains fun u hu => h u (by simp [hu]))
def layT (b : Nat) : List Value → Nat → T Cell → T Cell
  | [], _, t => t
  | v :: l, i, t => layT b l (i + 1) (T.set t i (.O (.old b v)))
theorem LG (b : Nat) : ∀ (l : List Value) (i : Nat) (t : T Cell) (j : Nat), T.get (layT b l i t) j = if i ≤ j ∧ j < i + l.length then (l[j - i]?).map (fun v => .O (.old b v)) else T.get t j
 | [], i, t, j => by
   rw [if_neg (by simp only [List.length_nil]; omega)]
   rfl
 | v :: l, i, t, j => by
   show T.get (layT b l (i + 1) (T.set t i (.O (.old b v)))) j = _
   rw [LG b l (i + 1), T.get_set]
   simp only [List.length_cons]
   by_cases h1 : j = i
   · subst h1
     rw [if_neg (by omega), if_pos rfl, if_pos (by omega), Nat.sub_self]
     rfl
   · rw [if_neg h1]
     by_cases h2 : i + 1 ≤ j ∧ j < i + 1 + l.length
     · rw [if_pos h2, if_pos (by omega), show j - i = (j - (i + 1)) + 1 by omega]
       rfl
     · rw [if_neg h2, if_neg (by omega)]
def CI (l : List Value) : St := ⟨layT 0 l 0 .E, l.length + 1, 0, [], [], .no⟩
theorem W7 (l : List Value) : Row (CI l) 0 0 l := fun i v e => by
 have hi := (List.getElem?_eq_some_iff.1 e).1
 refine ⟨?_, .inr ?_⟩
 · show 0 + (0 + i) < l.length + 1
   omega
 · show T.get (layT 0 l 0 .E) (0 + (0 + i)) = _
   rw [LG, if_pos (by omega), show 0 + (0 + i) - 0 = i by omega, e]
   rfl
def Dz (b' d : Nat) (k : Tok) : Inj := ⟨fun b => if b = 0 then some (b', d) else none, fun t => if t = 0 then some k else none, .no⟩
theorem AS_ {w : World} {l : List Value} {b' d : Nat} {k : Tok} (hb : b' < w.heap.size) (hl : ∀ i v, l[i]? = some v → plain v = true ∧ w.cell? ⟨b', i + d, none⟩ = some v) : Rel w (Dz b' d k) (CI l).mem w := by
 refine Rel.ofOld (Know.no_sure w) (fun b b2 d2 e => ?_) fun loc c e => ?_
 · simp only [Dz] at e
   split at e
   · cases e; exact hb
   · cases e
 · have e' : T.get (layT 0 l 0 .E) loc = some c := e
   rw [LG] at e'
   split at e'
   · rename_i h
     rw [Option.map_eq_some_iff] at e'
     obtain ⟨v, e1, rfl⟩ := e'
     obtain ⟨h1, h2⟩ := hl _ _ e1
     exact ⟨0, v, rfl, b', d, v, Nat.zero_le _, by simp [Dz], h2, .of_plain h1⟩
   · cases e'
def ED (n c : Nat) : Value := .slice (some ⟨0, 0, none⟩) n (if c < capU then c else capU + n)
theorem DZ_ {b' d n c : Nat} (hn : n ≤ c) (hc : n < capU) : VR (Dz b' d ⟨c - n, b', d + n, 1⟩) (ED n c) (.slice (some ⟨b', d, none⟩) n c) := by
 have h : VR (Dz b' d ⟨c - n, b', d + n, 1⟩) (.slice (some ⟨0, 0, none⟩) n (if c < capU then c else capU + n)) (.slice (some ⟨b', 0 + d, none⟩) n c) := by
   by_cases h : c < capU
   · rw [if_pos h]
     exact .sl (by simp [Dz]) (.inl ⟨Nat.div_eq_of_lt h, rfl⟩) (by rw [Nat.mod_eq_of_lt h]; exact hn)
   · rw [if_neg h]
     have hd : (capU + n) / capU = 1 := by
       rw [Nat.add_div_left _ (by decide), Nat.div_eq_of_lt hc]
     have hm : (capU + n) % capU = n := by
       rw [Nat.add_mod_left, Nat.mod_eq_of_lt hc]
     refine .sl (by simp [Dz]) (.inr ⟨by rw [hd]; decide, ⟨c - n, b', d + n, 1⟩, ?_, ?_, ?_, rfl, ?_⟩) (by rw [hm]; exact Nat.le_refl _)
     · rw [hd]; rfl
     · rw [hd]
     · rw [hm]; simp only; omega
     · rw [hm]; simp only; omega
 rw [Nat.zero_add] at h
 exact h
def appT (E : Env) (t t2 : Nat) : Option (Nat × Nat × Bool × List Value) := match T.get E.ty t, T.get E.ty t2 with
  | some i, some i2 => (match i.u with | .slice e => (match T.get E.ty e with | some ie => some (ie.size, ie.bytes, CA i2.u, ie.zero) | none => none) | _ => none)
  | _, _ => none
def elT (E : Env) (t : Nat) : Option (Nat × Nat × List Value) := match T.get E.ty t with
  | some i => (match i.u with | .slice e => (match T.get E.ty e with | some ie => some (ie.size, ie.bytes, ie.zero) | none => none) | _ => none)
  | none => none
section
variable {α β : Type} {s : St} {E : Env} {t t2 : Nat}
theorem GI {sz by' : Nat} {g : Bool} {z : List Value} (h : appT E t t2 = some (sz, by', g, z)) : ∃ i i2 e ie, T.get E.ty t = some i ∧ T.get E.ty t2 = some i2 ∧ i.u = .slice e ∧ T.get E.ty e = some ie ∧ ie.size = sz ∧ ie.bytes = by' ∧ CA i2.u = g ∧ ie.zero = z := by
 unfold appT at h
 split at h
 · rename_i i i2 h1 h2
   split at h
   · rename_i e hu
     split at h
     · rename_i ie he
       cases h
       exact ⟨i, i2, e, ie, h1, h2, hu, he, rfl, rfl, rfl, rfl⟩
     · cases h
   · cases h
 · cases h
theorem La {sz by' : Nat} {z : List Value} (h : elT E t = some (sz, by', z)) : ∃ i e ie, T.get E.ty t = some i ∧ i.u = .slice e ∧ T.get E.ty e = some ie ∧ ie.size = sz ∧ ie.bytes = by' ∧ ie.zero = z := by
 unfold elT at h
 split at h
 · rename_i i h1
   split at h
   · rename_i e hu
     split at h
     · rename_i ie he
       cases h
       exact ⟨i, e, ie, h1, hu, he, rfl, rfl, rfl⟩
     · cases h
   · cases h
 · cases h
def Src (s : St) (sz : Nat) (x : Value) (n : Nat) (l : List Value) (F : Nat → Prop) : Prop :=
  (∃ p c, x = .slice p n c) ∧ ∃ s1, srcL sz x n s = .some l s1 ∧ s1.mem = s.mem ∧ s1.next = s.next ∧ Ext F Non s s1
theorem Zp {b o n c sz : Nat} {l : List Value} (h : Row s b o l) (hl : l.length = n * sz) : Src s sz (.slice (some ⟨b, o, none⟩) n c) n l (In b o (n * sz)) := by
 refine ⟨⟨_, _, rfl⟩, ?_⟩
 obtain ⟨a, s1, e, rfl, h1, h2, h3⟩ := W.rdL (Q := fun a s1 => a = l ∧ s1.mem = s.mem ∧ s1.next = s.next ∧ Ext (fun x => b + o ≤ x ∧ x < b + o + l.length) Non s s1) h fun s1 e1 e2 e3 => ⟨rfl, e1, e2, e3⟩
 refine ⟨s1, ?_, h1, h2, ?_⟩
 · show rdL (n * sz) ⟨b, o, none⟩ s = _
   rw [← hl]
   exact e
 · rw [hl] at h3
   exact h3
theorem BZ_ {sz : Nat} : Src s sz (.slice none 0 0) 0 [] Non := ⟨⟨_, _, rfl⟩, s, rfl, rfl, rfl, Ext.refl s⟩
def SrcG (s : St) (sz by' : Nat) (g : Bool) (z : List Value) (x : Value) (n : Nat) (l : List Value) (F : Nat → Prop) : Prop :=
  ∀ ie : TI, ie.size = sz → ie.bytes = by' → ie.zero = z → (∀ s' : St, appN g ie.bytes x s' = .some n s') ∧ ∃ s1, appL g ie x n s = .some l s1 ∧ s1.mem = s.mem ∧ s1.next = s.next ∧ Ext F Non s s1
theorem Src.g {sz by' n : Nat} {z l : List Value} {x : Value} {F : Nat → Prop} (h : Src s sz x n l F) : SrcG s sz by' false z x n l F := fun ie h1 _ _ => by
 obtain ⟨⟨p, c, rfl⟩, s1, e, m1, n1, x1⟩ := h
 subst h1
 exact ⟨fun _ => rfl, s1, e, m1, n1, x1⟩
theorem W.appIn {sz by' len n b o c : Nat} {z l : List Value} {x : Value} {F : Nat → Prop} {Q : Value → St → Prop} {g : Bool} (ht : appT E t t2 = some (sz, by', g, z)) (hx : SrcG s sz by' g z x n l F) (hr : len + n ≤ c % capU) (hl : l.length = n * sz) (h1 : l.all oneCell = true)
   (own : ∀ i, i < n * sz → ∃ u, Own s b (o + len * sz + i) u)
   (q : ∀ s2, s2.next = s.next → Ext (fun x => F x ∨ In b (o + len * sz) (n * sz) x) (In b (o + len * sz) (n * sz)) s s2 → Al s2 b (o + len * sz) l → Q (.slice (some ⟨b, o, none⟩) (len + n) c) s2) : W (BR E t t2 (.slice (some ⟨b, o, none⟩) len c) x) s Q := by
 obtain ⟨i, i2, e, ie, g1, g2, g3, g4, g5, g6, g7, g8⟩ := GI ht
 obtain ⟨hN, s1, e1, m1, n1, x1⟩ := hx ie g5 g6 g8
 subst g5
 refine W.bind (W.ti g1 (W.bind (W.ti g2 ?_)))
 rw [g3, g7]
 refine W.bind (W.ti g4 (W.bind (W.of (hN s) (W.bind ?_))))
 refine W.of e1 ?_
 show W (M.if (Nat.ble (Nat.add len n) (Nat.mod c capU)) _ _) s1 Q
 rw [show Nat.ble (Nat.add len n) (Nat.mod c capU) = true from Nat.ble_eq_true_of_le hr]
 have own1 : ∀ i, i < l.length → ∃ u, Own s1 b (o + len * ie.size + i) u := fun i hi => by
   obtain ⟨u, hu⟩ := own i (by rw [← hl]; exact hi)
   exact ⟨u, hu.same m1 n1⟩
 refine W.bind (m := Am.wrL l (addA ⟨b, o, none⟩ (Nat.mul len ie.size))) (W.wrL own1 h1 fun s2 n2 x2 r2 => ?_)
 show W (Am.fA (⟨b, o, none⟩ : Addr) fun a => Am.fN (Nat.add len n) fun l => Am.fN c fun c => M.pure (.slice (some a) l c)) s2 Q
 refine W.fA (W.fN (W.fN (W.pure (q s2 (n2.trans n1) ?_ r2))))
 rw [hl] at x2
 obtain ⟨d1, p1, p2⟩ := x1.rd
 obtain ⟨d2, p3, p4⟩ := x2.rd
 obtain ⟨d3, p5, p6⟩ := x1.wr
 obtain ⟨d4, p7, p8⟩ := x2.wr
 refine ⟨Nat.le_of_eq (n2.trans n1).symm, x2.lim.trans x1.lim, x2.cx.trans x1.cx, fun y q1 q2 => by rw [x2.mem y (by rw [n1]; exact q1) q2, m1], ⟨d2 ++ d1, by rw [p3, p1, List.append_assoc], fun y hy => ?_⟩, ⟨d4 ++ d3, by rw [p7, p5, List.append_assoc], fun y hy => ?_⟩⟩
 · rcases List.mem_append.1 hy with hy | hy
   · have := p4 y hy
     rw [x1.lim] at this
     exact ⟨this.1, .inr this.2⟩
   · exact ⟨(p2 y hy).1, .inl (p2 y hy).2⟩
 · rcases List.mem_append.1 hy with hy | hy
   · have := p8 y hy
     rw [x1.lim] at this
     exact this
   · exact (p6 y hy).2.elim
structure Fresh1 (s s' : St) (sz n : Nat) (l : List Value) (v : Value) (b : Nat) : Prop where
  val : v = .slice (some ⟨b, 0, none⟩) n (capU * ((b + n * sz) * 1024 + sz) + n)
  new : s.next ≤ b
  own : Al s' b 0 l
  len : l.length = n * sz
  tok : ∃ q, q % 1024 = sz ∧ T.get s'.mem (b + n * sz) = some (.O (.tok false q))
  lt : b + n * sz < s'.next
theorem W.appNilT (hbd : s.lim ≤ s.next) {sz by' n : Nat} {z l : List Value} {x : Value} {F : Nat → Prop} {Q : Value → St → Prop} {g : Bool} (ht : appT E t t2 = some (sz, by', g, z)) (hx : SrcG s sz by' g z x n l F) (hn : 0 < n) (hs0 : 0 < sz) (hs1 : sz < 1024) (hb : n * (by' + 1) ≤ 16777216) (hl : l.length = n * sz) (h1 : l.all oneCell = true)
   (q : ∀ s2 v b, Fresh1 s s2 sz n l v b → T.get s2.mem (b + n * sz) = some (.O (.tok false (flg sz 1 (CN z)))) → Ext F Non s s2 → Q v s2) : W (BR E t t2 (.slice none 0 0) x) s Q := by
 obtain ⟨i, i2, e, ie, g1, g2, g3, g4, g5, g6, g7, g8⟩ := GI ht
 obtain ⟨hN, s1, e1, m1, n1, x1⟩ := hx ie g5 g6 g8
 subst g5; subst g6
 refine W.bind (W.ti g1 (W.bind (W.ti g2 ?_)))
 rw [g3, g7]
 refine W.bind (W.ti g4 (W.bind (W.of (hN s) (W.bind ?_))))
 refine W.of e1 ?_
 show W (M.if (Nat.ble (Nat.add 0 n) (Nat.mod 0 capU)) _ _) s1 Q
 have hz : Nat.ble (Nat.add 0 n) (Nat.mod 0 capU) = false := by
   cases hq : Nat.ble (Nat.add 0 n) (Nat.mod 0 capU) with
   | false => rfl
   | true =>
     have h2 := Nat.le_of_ble_eq_true hq
     have h3 : Nat.mod 0 capU = 0 := Nat.zero_mod _
     rw [h3] at h2
     have h4 : Nat.add 0 n = n := Nat.zero_add n
     rw [h4] at h2
     omega
 rw [hz]
 show W (grow ie.size ie.bytes (CN ie.zero) none 0 0 n l) s1 Q
 rw [g8]
 unfold grow
 refine W.chk ?_ (W.bind (W.pure (W.bind ?_)))
 · rw [h1, hl, Nat.zero_add]
   simp only [Bool.and_true, Bool.and_eq_true, Bool.or_eq_true]
   refine ⟨⟨⟨⟨Nat.ble_eq_true_of_le hb, Bv hs0⟩, Bv hs1⟩, .inr rfl⟩, Nat.beq_refl _⟩
 · show W (CC ie.size none (Nat.mod 0 capU) (Nat.div 0 capU)) s1 _
   have hd : Nat.div 0 capU = 0 := Nat.zero_div _
   rw [hd]
   show W (M.pure 1) s1 _
   refine W.pure (W.bind (W.newL fun s2 n2 x2 r2 => W.fN (W.fN (W.bind (W.wrC ?_ ?_)))))
   · rw [n2, n1]
     simp only [Nat.add_eq, Nat.mul_eq, Nat.zero_mul, List.take_zero, List.nil_append, hl, Nat.zero_add]
     omega
   · show W (Am.fA (⟨s1.next, 0, none⟩ : Addr) fun a => Am.fN (Nat.add 0 n) fun l => Am.fN _ fun c => M.pure (.slice (some a) l c)) _ Q
     have hlen : ([].take (Nat.mul 0 ie.size) ++ l : List Value) = l := by simp
     rw [hlen] at n2 r2
     have hadd : Nat.add 0 n = n := Nat.zero_add n
     have htok : ∀ c : Cell, T.get (T.set s2.mem (Nat.add s1.next (Nat.mul (Nat.add 0 n) ie.size)) c) (s1.next + n * ie.size) = some c := fun c => by
       rw [hadd, T.get_set]
       exact if_pos rfl
     refine W.fA (W.fN (W.fN (W.pure (q _ _ s1.next ⟨?_, Nat.le_of_eq n1.symm, ?_, hl, ⟨_, Gv hs1, htok _⟩, ?_⟩ (htok _) ?_))))
     · rw [hadd]
       rfl
     · intro k v hk
       have hk' := (List.getElem?_eq_some_iff.1 hk).1
       have := r2 k v hk
       refine ⟨this.1, ?_⟩
       show T.get (T.set s2.mem _ _) _ = _
       rw [T.get_set, if_neg]
       · exact this.2
       · rw [hadd]
         show s1.next + (0 + k) ≠ s1.next + n * ie.size
         omega
     · show s1.next + n * ie.size < s2.next
       rw [n2, hl]
       omega
     · obtain ⟨d1, p1, p2⟩ := x1.rd
       obtain ⟨d2, p3, p4⟩ := x2.rd
       obtain ⟨d3, p5, p6⟩ := x1.wr
       obtain ⟨d4, p7, p8⟩ := x2.wr
       obtain ⟨d5, p9, p10⟩ := FC (Nat.add s1.next (Nat.mul (Nat.add 0 n) ie.size)) s2.lim s2.wr
       refine ⟨?_, x2.lim.trans x1.lim, x2.cx.trans x1.cx, fun y q1 q2 => ?_, ⟨d2 ++ d1, ?_, ?_⟩, ⟨[], ?_, fun _ h => by cases h⟩⟩
       · show s.next ≤ s2.next
         rw [n2, n1]; omega
       · show T.get (T.set s2.mem _ _) y = _
         rw [T.get_set, if_neg, x2.mem y (by rw [n1]; exact q1) id, m1]
         rw [hadd]
         show y ≠ s1.next + n * ie.size
         rw [n1]; omega
       · show s2.rd = _
         rw [p3, p1, List.append_assoc]
       · intro y hy
         rcases List.mem_append.1 hy with hy | hy
         · exact (p4 y hy).2.elim
         · exact p2 y hy
       · show notes _ s2.lim s2.wr = s.wr
         have e1 : s2.wr = s.wr := by
           have h5 : d3 = [] := by
             cases d3 with
             | nil => rfl
             | cons y l => exact (p6 y (by simp)).2.elim
           have h7 : d4 = [] := by
             cases d4 with
             | nil => rfl
             | cons y l => exact (p8 y (by simp)).2.elim
           rw [p7, p5, h5, h7]; rfl
         unfold notes
         rw [GV, e1]
         show s2.lim ≤ s1.next + Nat.mul (Nat.add 0 n) ie.size
         rw [x2.lim, x1.lim, n1]
         omega
theorem W.appNil (hbd : s.lim ≤ s.next) {sz by' n : Nat} {z l : List Value} {x : Value} {F : Nat → Prop} {Q : Value → St → Prop} {g : Bool} (ht : appT E t t2 = some (sz, by', g, z)) (hx : SrcG s sz by' g z x n l F) (hn : 0 < n) (hs0 : 0 < sz) (hs1 : sz < 1024) (hb : n * (by' + 1) ≤ 16777216) (hl : l.length = n * sz) (h1 : l.all oneCell = true)
   (q : ∀ s2 v b, Fresh1 s s2 sz n l v b → Ext F Non s s2 → Q v s2) : W (BR E t t2 (.slice none 0 0) x) s Q := W.appNilT hbd ht hx hn hs0 hs1 hb hl h1 fun s2 v b f _ x => q s2 v b f x
theorem W.appEmpT (hbd : s.lim ≤ s.next) {sz by' n b0 o0 : Nat} {z l : List Value} {x : Value} {F : Nat → Prop} {Q : Value → St → Prop} {g : Bool} (ht : appT E t t2 = some (sz, by', g, z)) (hx : SrcG s sz by' g z x n l F) (hn : 0 < n) (hs0 : 0 < sz) (hs1 : sz < 1024) (hb : n * (by' + 1) ≤ 16777216) (hl : l.length = n * sz) (h1 : l.all oneCell = true)
   (q : ∀ s2 v b, Fresh1 s s2 sz n l v b → T.get s2.mem (b + n * sz) = some (.O (.tok false (flg sz 1 (CN z)))) → Ext F Non s s2 → Q v s2) : W (BR E t t2 (.slice (some ⟨b0, o0, none⟩) 0 0) x) s Q := by
 obtain ⟨i, i2, e, ie, g1, g2, g3, g4, g5, g6, g7, g8⟩ := GI ht
 obtain ⟨hN, s1, e1, m1, n1, x1⟩ := hx ie g5 g6 g8
 subst g5; subst g6
 refine W.bind (W.ti g1 (W.bind (W.ti g2 ?_)))
 rw [g3, g7]
 refine W.bind (W.ti g4 (W.bind (W.of (hN s) (W.bind ?_))))
 refine W.of e1 ?_
 show W (M.if (Nat.ble (Nat.add 0 n) (Nat.mod 0 capU)) _ _) s1 Q
 have hz : Nat.ble (Nat.add 0 n) (Nat.mod 0 capU) = false := by
   cases hq : Nat.ble (Nat.add 0 n) (Nat.mod 0 capU) with
   | false => rfl
   | true =>
     have h2 := Nat.le_of_ble_eq_true hq
     have h3 : Nat.mod 0 capU = 0 := Nat.zero_mod _
     rw [h3] at h2
     have h4 : Nat.add 0 n = n := Nat.zero_add n
     rw [h4] at h2
     omega
 rw [hz]
 show W (grow ie.size ie.bytes (CN ie.zero) (some ⟨b0, o0, none⟩) 0 0 n l) s1 Q
 rw [g8]
 unfold grow
 have hold : oldL ie.size (some ⟨b0, o0, none⟩) (Bool.rec (motive := fun _ => Nat) (Nat.mod 0 capU) 0 (Nat.beq (Nat.div 0 capU) 0)) s1 = .some [] s1 := by
   have hd : Nat.div 0 capU = 0 := Nat.zero_div _
   rw [hd]
   show Am.rdL (0 * ie.size) ⟨b0, o0, none⟩ s1 = _
   rw [Nat.zero_mul]
   rfl
 refine W.chk ?_ (W.bind (W.of hold (W.bind ?_)))
 · rw [h1, hl, Nat.zero_add]
   simp only [Bool.and_true, Bool.and_eq_true, Bool.or_eq_true]
   refine ⟨⟨⟨⟨Nat.ble_eq_true_of_le hb, Bv hs0⟩, Bv hs1⟩, .inr rfl⟩, Nat.beq_refl _⟩
 · show W (CC ie.size (some ⟨b0, o0, none⟩) (Nat.mod 0 capU) (Nat.div 0 capU)) s1 _
   have hd : Nat.div 0 capU = 0 := Nat.zero_div _
   rw [hd]
   show W (M.pure 1) s1 _
   refine W.pure (W.bind (W.newL fun s2 n2 x2 r2 => W.fN (W.fN (W.bind (W.wrC ?_ ?_)))))
   · rw [n2, n1]
     simp only [Nat.add_eq, Nat.mul_eq, Nat.zero_mul, List.take_zero, List.nil_append, hl, Nat.zero_add]
     omega
   · show W (Am.fA (⟨s1.next, 0, none⟩ : Addr) fun a => Am.fN (Nat.add 0 n) fun l => Am.fN _ fun c => M.pure (.slice (some a) l c)) _ Q
     have hlen : ([].take (Nat.mul 0 ie.size) ++ l : List Value) = l := by simp
     rw [hlen] at n2 r2
     have hadd : Nat.add 0 n = n := Nat.zero_add n
     have htok : ∀ c : Cell, T.get (T.set s2.mem (Nat.add s1.next (Nat.mul (Nat.add 0 n) ie.size)) c) (s1.next + n * ie.size) = some c := fun c => by
       rw [hadd, T.get_set]
       exact if_pos rfl
     refine W.fA (W.fN (W.fN (W.pure (q _ _ s1.next ⟨?_, Nat.le_of_eq n1.symm, ?_, hl, ⟨_, Gv hs1, htok _⟩, ?_⟩ (htok _) ?_))))
     · rw [hadd]
       rfl
     · intro k v hk
       have hk' := (List.getElem?_eq_some_iff.1 hk).1
       have := r2 k v hk
       refine ⟨this.1, ?_⟩
       show T.get (T.set s2.mem _ _) _ = _
       rw [T.get_set, if_neg]
       · exact this.2
       · rw [hadd]
         show s1.next + (0 + k) ≠ s1.next + n * ie.size
         omega
     · show s1.next + n * ie.size < s2.next
       rw [n2, hl]
       omega
     · obtain ⟨d1, p1, p2⟩ := x1.rd
       obtain ⟨d2, p3, p4⟩ := x2.rd
       obtain ⟨d3, p5, p6⟩ := x1.wr
       obtain ⟨d4, p7, p8⟩ := x2.wr
       obtain ⟨d5, p9, p10⟩ := FC (Nat.add s1.next (Nat.mul (Nat.add 0 n) ie.size)) s2.lim s2.wr
       refine ⟨?_, x2.lim.trans x1.lim, x2.cx.trans x1.cx, fun y q1 q2 => ?_, ⟨d2 ++ d1, ?_, ?_⟩, ⟨[], ?_, fun _ h => by cases h⟩⟩
       · show s.next ≤ s2.next
         rw [n2, n1]; omega
       · show T.get (T.set s2.mem _ _) y = _
         rw [T.get_set, if_neg, x2.mem y (by rw [n1]; exact q1) id, m1]
         rw [hadd]
         show y ≠ s1.next + n * ie.size
         rw [n1]; omega
       · show s2.rd = _
         rw [p3, p1, List.append_assoc]
       · intro y hy
         rcases List.mem_append.1 hy with hy | hy
         · exact (p4 y hy).2.elim
         · exact p2 y hy
       · show notes _ s2.lim s2.wr = s.wr
         have e1 : s2.wr = s.wr := by
           have h5 : d3 = [] := by
             cases d3 with
             | nil => rfl
             | cons y l => exact (p6 y (by simp)).2.elim
           have h7 : d4 = [] := by
             cases d4 with
             | nil => rfl
             | cons y l => exact (p8 y (by simp)).2.elim
           rw [p7, p5, h5, h7]; rfl
         unfold notes
         rw [GV, e1]
         show s2.lim ≤ s1.next + Nat.mul (Nat.add 0 n) ie.size
         rw [x2.lim, x1.lim, n1]
         omega
theorem W.appEmp (hbd : s.lim ≤ s.next) {sz by' n b0 o0 : Nat} {z l : List Value} {x : Value} {F : Nat → Prop} {Q : Value → St → Prop} {g : Bool} (ht : appT E t t2 = some (sz, by', g, z)) (hx : SrcG s sz by' g z x n l F) (hn : 0 < n) (hs0 : 0 < sz) (hs1 : sz < 1024) (hb : n * (by' + 1) ≤ 16777216) (hl : l.length = n * sz) (h1 : l.all oneCell = true)
   (q : ∀ s2 v b, Fresh1 s s2 sz n l v b → Ext F Non s s2 → Q v s2) : W (BR E t t2 (.slice (some ⟨b0, o0, none⟩) 0 0) x) s Q := W.appEmpT hbd ht hx hn hs0 hs1 hb hl h1 fun s2 v b f _ x => q s2 v b f x
end
def bndV (o : Option Value) (d : Nat) : Option Nat := match o with
  | none => some d
  | some (.int _ (.ofNat n)) => some n
  | _ => none
section
variable {α β : Type} {s : St} {E : Env} {t t2 : Nat}
theorem I6 {o : Option Value} {top d n : Nat} (h : bndV o d = some n) (ht : n ≤ top) : bnd o top d s = .some n s := by
 unfold bndV at h
 split at h
 · cases h; rfl
 · cases h
   show M.chk (Nat.ble n top) (M.pure n) s = _
   rw [Nat.ble_eq_true_of_le ht]
   rfl
 · cases h
theorem Cn_ {sz len c b o l h : Nat} {lo hi : Option Value} (ht : slN E t = some sz) (hlo : bndV lo 0 = some l) (hhi : bndV hi len = some h) (hl : l ≤ h) (hc : h ≤ c % capU) (hs : Bj c sz = true) (Q : Value → St → Prop) :
   W (BM E t (.slice (some ⟨b, o, none⟩) len c) lo hi) s Q = Q (.slice (some ⟨b, if l < c % capU then o + l * sz else o, none⟩) (h - l) (c - l)) s := by
 obtain ⟨i, e, ie, h1, h2, h3, h4⟩ := L7 ht
 subst h4
 refine A5 ?_
 unfold BM
 rw [AW (show ti E t s = .some i s by unfold ti; rw [h1]; rfl)]
 simp only [h2]
 rw [AW (show ti E e s = .some ie s by unfold ti; rw [h3]; rfl)]
 unfold slSl
 show M.bind (bnd hi (c % capU) len) _ s = _
 rw [AW (I6 hhi hc), AW (I6 hlo hl), hs]
 show pSl _ _ _ s = _
 unfold pSl
 rw [Cf, AG, AG]
 show R.some _ s = _
 by_cases hq : l < c % capU
 · rw [if_pos hq, show Nat.blt l (Nat.mod c capU) = true from Bv hq]
   rfl
 · rw [if_neg hq, show Nat.blt l (Nat.mod c capU) = false from GV (Nat.le_of_not_lt hq)]
   rfl
theorem I9 {n sz b o l h : Nat} {lo hi : Option Value} (ht : arrN E t = some (n, sz)) (hn : n < capU) (hlo : bndV lo 0 = some l) (hhi : bndV hi n = some h) (hl : l ≤ h) (hc : h ≤ n) (Q : Value → St → Prop) :
   W (BM E t (.pointer (some ⟨b, o, none⟩)) lo hi) s Q = Q (.slice (some ⟨b, if n = l then o else o + l * sz, none⟩) (h - l) (n - l)) s := by
 obtain ⟨i, e, ie, h1, h2, h3, h4⟩ := OT ht
 subst h4
 refine A5 ?_
 unfold BM
 rw [AW (show ti E t s = .some i s by unfold ti; rw [h1]; rfl)]
 simp only [h2]
 rw [AW (show ti E e s = .some ie s by unfold ti; rw [h3]; rfl)]
 unfold Ek
 rw [Bv hn]
 show M.bind (bnd hi n n) _ s = _
 rw [AW (I6 hhi hc), AW (I6 hlo hl)]
 unfold pSl
 rw [Cf, AG, AG]
 show R.some _ s = _
 by_cases hq : n = l
 · rw [if_pos hq, show Nat.beq n l = true by rw [hq]; exact Nat.beq_refl l]
   rfl
 · rw [if_neg hq, show Nat.beq n l = false by
     cases e : Nat.beq n l with
     | false => rfl
     | true => exact absurd (Nat.eq_of_beq_eq_true e) hq]
   rfl
theorem T9 {c l sz : Nat} (h : l ≤ c % capU) (hs : Bj c sz = true) : Bj (c - l) sz = true := by
 unfold Bj at *
 show Bool.rec (motive := fun _ => Bool) (Nat.beq (Nat.mod ((c - l) / capU) 1024) sz) true (Nat.beq ((c - l) / capU) 0) = true
 rw [(JF h).1]
 exact hs
theorem JB {c sz : Nat} (h : c < capU) : Bj c sz = true := by
 unfold Bj
 show Bool.rec (motive := fun _ => Bool) (Nat.beq (Nat.mod (c / capU) 1024) sz) true (Nat.beq (c / capU) 0) = true
 rw [Nat.div_eq_of_lt h]
 rfl
theorem Bs.sub' {b o c i j : Nat} {l : List Nat} (hij : i ≤ j) (hj : j ≤ l.length) (h1 : l.length ≤ c % capU) (h2 : Bj c 1 = true) (h3 : Row s b o (u8l l)) :
   ∃ o', (.slice (some ⟨b, if i < c % capU then o + i * 1 else o, none⟩) (j - i) (c - i) : Value) = .slice (some ⟨b, o', none⟩) ((l.take j).drop i).length (c - i) ∧ ((l.take j).drop i).length ≤ (c - i) % capU ∧ Bj (c - i) 1 = true ∧ Row s b o' (u8l ((l.take j).drop i)) ∧ (o' = o + i ∨ ((l.take j).drop i).length = 0) := by
 have hlen : ((l.take j).drop i).length = j - i := by rw [List.length_drop, List.length_take]; omega
 refine ⟨_, by rw [hlen], ?_, T9 (by omega) h2, ?_, ?_⟩
 · rw [hlen, (JF (by omega)).2]
   omega
 · by_cases hq : i < c % capU
   · rw [if_pos hq, Nat.mul_one]
     have := (h3.take (n := j)).drop (n := i)
     rw [← List.map_take, ← List.map_drop] at this
     exact this
   · have h0 : (l.take j).drop i = [] := List.eq_nil_of_length_eq_zero (by rw [hlen]; omega)
     rw [h0]
     intro k v e
     simp at e
 · by_cases hq : i < c % capU
   · left; rw [if_pos hq, Nat.mul_one]
   · right; rw [hlen]; omega
theorem W.buildS (hbd : s.lim ≤ s.next) {sz by' len : Nat} {z r : List Value} {ps : List (Nat × Value)} {Q : Value → St → Prop} (ht : elT E t = some (sz, by', z)) (h1 : len * sz ≤ 16777216) (hr : C6 (fun k => some (k * sz, sz)) ps (rep len z) = some r) (h2 : len < capU)
   (q : ∀ s2, s2.next = s.next + r.length + 1 → Ext Non Non s s2 → Al s2 s.next 0 r → Q (.slice (some ⟨s.next, 0, none⟩) len len) s2) : W (CS E t len ps) s Q := by
 obtain ⟨i, e, ie, g1, g2, g3, g4, g5, g6⟩ := La ht
 subst g4; subst g6
 refine W.bind (W.ti g1 ?_)
 rw [g2]
 refine W.bind (W.ti g3 (W.chk ?_ (W.bind (W.ofOpt hr (W.bind (W.newL fun s2 n2 x2 r2 => W.bind (W.wrC ?_ (W.pure (q _ n2 ?_ ?_)))))))))
 · rw [Bool.and_eq_true]
   exact ⟨Nat.ble_eq_true_of_le h1, Bv h2⟩
 · show s.next + r.length < s2.next
   omega
 · obtain ⟨d2, p3, p4⟩ := x2.rd
   obtain ⟨d4, p7, p8⟩ := x2.wr
   refine ⟨x2.nxt, x2.lim, x2.cx, fun y q1 q2 => ?_, ⟨d2, p3, p4⟩, ⟨d4, ?_, p8⟩⟩
   · show T.get (T.set s2.mem _ _) y = _
     rw [T.get_set, if_neg, x2.mem y q1 q2]
     show y ≠ s.next + r.length
     omega
   · show notes _ s2.lim s2.wr = _
     unfold notes
     rw [GV]
     · exact p7
     · show s2.lim ≤ s.next + r.length
       rw [x2.lim]; omega
 · intro k v hk
   have hk' := (List.getElem?_eq_some_iff.1 hk).1
   have := r2 k v hk
   refine ⟨this.1, ?_⟩
   show T.get (T.set s2.mem _ _) _ = _
   rw [T.get_set, if_neg]
   · exact this.2
   · show s.next + (0 + k) ≠ s.next + r.length
     omega
theorem W.mkSl {sz by' l c : Nat} {k1 k2 : IntKind} {z : List Value} {Q : Value → St → Prop} (ht : elT E t = some (sz, by', z)) (h1 : l ≤ c) (h2 : c * (by' + 1) ≤ 16777216)
   (q : ∀ s2, s2.next = s.next + (rep c z).length + 1 → Ext Non Non s s2 → Al s2 s.next 0 (rep c z) → Q (.slice (some ⟨s.next, 0, none⟩) l c) s2) : W (Dx E t (.int k1 (l : Nat)) (.int k2 (c : Nat))) s Q := by
 obtain ⟨i, e, ie, g1, g2, g3, g4, g5, g6⟩ := La ht
 subst g5; subst g6
 refine W.bind (W.ti g1 (W.bind (W.pure (W.bind (W.pure ?_)))))
 unfold Am.mkSl
 rw [g2]
 refine W.bind (W.ti g3 (W.chk ?_ (W.bind (W.newL fun s2 n2 x2 r2 => W.pure (q _ n2 x2 r2)))))
 rw [Bool.and_eq_true]
 exact ⟨Nat.ble_eq_true_of_le h1, Nat.ble_eq_true_of_le h2⟩
theorem W.copy {sz by' b o n c m k : Nat} {z l : List Value} {p : Option Addr} {c2 : Nat} {F : Nat → Prop} {Q : Value → St → Prop} (ht : elT E t = some (sz, by', z)) (hk : k = Nat.min n m)
   (hx : ∃ s1, srcL sz (.slice p m c2) k s = .some l s1 ∧ s1.mem = s.mem ∧ s1.next = s.next ∧ Ext F Non s s1) (hl : l.length = k * sz) (h1 : l.all oneCell = true) (own : ∀ i, i < k * sz → ∃ u, Own s b (o + i) u)
   (q : ∀ s2, s2.next = s.next → Ext (fun x => F x ∨ In b o (k * sz) x) (In b o (k * sz)) s s2 → Al s2 b o l → Q (.int .i64 (k : Nat)) s2) : W (Bt E .copy [t, t2] [.slice (some ⟨b, o, none⟩) n c, .slice p m c2]) s Q := by
 obtain ⟨i, e, ie, g1, g2, g3, g4, g5, g6⟩ := La ht
 obtain ⟨s1, e1, m1, n1, x1⟩ := hx
 subst g4
 show W (EW E t (some ⟨b, o, none⟩) n (.slice p m c2)) s Q
 refine W.bind (W.ti g1 ?_)
 rw [g2]
 refine W.bind (W.ti g3 (W.bind (W.pure ?_)))
 refine W.fN ?_
 rw [← hk]
 refine W.bind (W.of e1 ?_)
 have own1 : ∀ i, i < l.length → ∃ u, Own s1 b (o + i) u := fun i hi => by
   obtain ⟨u, hu⟩ := own i (by rw [← hl]; exact hi)
   exact ⟨u, hu.same m1 n1⟩
 refine W.bind (m := Am.wrL l ⟨b, o, none⟩) (W.wrL own1 h1 fun s2 n2 x2 r2 => ?_)
 show W (Am.fN k fun n => M.pure (.int .i64 (.ofNat n))) s2 Q
 refine W.fN (W.pure (q s2 (n2.trans n1) ?_ r2))
 rw [hl] at x2
 obtain ⟨d1, p1, p2⟩ := x1.rd
 obtain ⟨d2, p3, p4⟩ := x2.rd
 obtain ⟨d3, p5, p6⟩ := x1.wr
 obtain ⟨d4, p7, p8⟩ := x2.wr
 refine ⟨Nat.le_of_eq (n2.trans n1).symm, x2.lim.trans x1.lim, x2.cx.trans x1.cx, fun y q1 q2 => by rw [x2.mem y (by rw [n1]; exact q1) q2, m1], ⟨d2 ++ d1, by rw [p3, p1, List.append_assoc], fun y hy => ?_⟩, ⟨d4 ++ d3, by rw [p7, p5, List.append_assoc], fun y hy => ?_⟩⟩
 · rcases List.mem_append.1 hy with hy | hy
   · have := p4 y hy
     rw [x1.lim] at this
     exact ⟨this.1, .inr this.2⟩
   · exact ⟨(p2 y hy).1, .inl (p2 y hy).2⟩
 · rcases List.mem_append.1 hy with hy | hy
   · have := p8 y hy
     rw [x1.lim] at this
     exact this
   · exact (p6 y hy).2.elim
theorem FK_ {q N : Nat} (h : N < capU) : (capU * q + N) % capU = N := (enc (q := q) h).2
theorem Ug {m sz N : Nat} (h : N < capU) (h1 : sz < 1024) : Bj (capU * (m * 1024 + sz) + N) sz = true := by
 unfold Bj
 show Bool.rec (motive := fun _ => Bool) (Nat.beq (Nat.mod ((capU * (m * 1024 + sz) + N) / capU) 1024) sz) true (Nat.beq ((capU * (m * 1024 + sz) + N) / capU) 0) = true
 rw [(enc h).1]
 have : Nat.mod (m * 1024 + sz) 1024 = sz := by show (m * 1024 + sz) % 1024 = sz; omega
 rw [this, Nat.beq_refl]
 cases Nat.beq (m * 1024 + sz) 0 <;> rfl
theorem Fq_ {v x : Value} (Q : Value → St → Prop) : W (Bt E .append [t, t2] [v, x]) s Q = W (BR E t t2 v x) s Q := propext Iff.rfl
theorem Ext.step {F F' G' : Nat → Prop} {s s1 s2 : St} (h : Ext F Non s s1) (k : Ext F' G' s1 s2) (hb : s.lim ≤ s.next) (hF : ∀ l, l < s.lim → F' l → F l) (hG : ∀ l, G' l → s.next ≤ l) : Ext F Non s s2 :=
 h.trans k hb hF fun l hl hg => absurd (hG l hg) (Nat.not_le_of_lt hl)
theorem Al.append {b o : Nat} {l l' : List Value} (h : Al s b o l) (k : Al s b (o + l.length) l') : Al s b o (l ++ l') := fun i v e => by
 by_cases hi : i < l.length
 · rw [List.getElem?_append_left hi] at e
   exact h i v e
 · rw [List.getElem?_append_right (by omega)] at e
   have := k _ v e
   rw [show o + l.length + (i - l.length) = o + i by omega] at this
   exact this
def AQ (s : St) (b o n : Nat) : Prop := ∀ j, j < n → ∃ u, Own s b (o + j) u
theorem Al.owned {b o : Nat} {l : List Value} (h : Al s b o l) : AQ s b o l.length := fun j hj => ⟨l[j], h j _ (List.getElem?_eq_getElem hj)⟩
theorem AQ.ext {F : Nat → Prop} {b o n a : Nat} {l : List Value} {s2 : St} (h : AQ s b o n) (e : Ext F (In b a l.length) s s2) (k : Al s2 b a l) : AQ s2 b o n := fun j hj => by
 by_cases hq : In b a l.length (b + (o + j))
 · obtain ⟨h1, h2⟩ := hq
   have hi : o + j - a < l.length := by omega
   refine ⟨l[o + j - a], ?_⟩
   have := k (o + j - a) (l[o + j - a]) (List.getElem?_eq_getElem hi)
   rw [show a + (o + j - a) = o + j by omega] at this
   exact this
 · obtain ⟨u, hu⟩ := h j hj
   exact ⟨u, hu.ext e hq⟩
theorem Bs.src {v : Value} {l : List Nat} (h : Bs s v l) : Src s 1 v l.length (u8l l) (BsF v) := by
 rcases h with ⟨rfl, rfl⟩ | ⟨b, o, c, rfl, _, _, h3⟩
 · exact BZ_
 · have := Zp (s := s) (sz := 1) (n := l.length) (c := c) h3 (by rw [A4, Nat.mul_one])
   rw [Nat.mul_one] at this
   exact this
theorem D3 (l : List Nat) : (u8l l).all oneCell = true := by
 rw [List.all_eq_true]
 intro x hx
 obtain ⟨n, _, rfl⟩ := List.mem_map.1 hx
 rfl
theorem VE (k kk : IntKind) (m n : Nat) (hn : n ≤ btOf k) (xo yo : Operand) : Cl.get (aBin E .shr t xo yo) (.int k (m : Nat)) (.int kk (n : Nat)) s = .some (.int k (m >>> n : Nat)) s := by
 show int3 shrK (AV E .shr t xo yo) (.int k (.ofNat m)) (.int kk (.ofNat n)) s = _
 show Option.rec (motive := fun _ => R Value) _ (fun v => .some v s) (shrK k kk m n) = _
 have : shrK k kk m n = some (.int k (m >>> n : Nat)) := by
   unfold shrK
   rw [Nat.ble_eq_true_of_le hn]
   show mkI k (Nat.shiftRight m n) = _
   unfold mkI
   rw [AG]
   rfl
 rw [this]
theorem HZ {k kk : IntKind} {m n : Nat} {xo yo : Operand} (hn : n ≤ btOf k) (Q : Value → St → Prop) : W (Cl.get (aBin E .shr t xo yo) (.int k (m : Nat)) (.int kk (n : Nat))) s Q = Q (.int k (m >>> n : Nat)) s := A5 (VE k kk m n hn xo yo)
theorem Yt {k kk : IntKind} {m : Nat} {xo yo : Operand} (hn : 8 ≤ btOf k) (Q : Value → St → Prop) : W (Cl.get (aBin E .shr t xo yo) (.int k (m : Nat)) (.int kk 8)) s Q = Q (.int k (m >>> 8 : Nat)) s := HZ (n := 8) hn Q
theorem ZA {k kk : IntKind} {m : Nat} {xo yo : Operand} (hn : 16 ≤ btOf k) (Q : Value → St → Prop) : W (Cl.get (aBin E .shr t xo yo) (.int k (m : Nat)) (.int kk 16)) s Q = Q (.int k (m >>> 16 : Nat)) s := HZ (n := 16) hn Q
theorem Di_ {k kk : IntKind} {m : Nat} {xo yo : Operand} (hn : 24 ≤ btOf k) (Q : Value → St → Prop) : W (Cl.get (aBin E .shr t xo yo) (.int k (m : Nat)) (.int kk 24)) s Q = Q (.int k (m >>> 24 : Nat)) s := HZ (n := 24) hn Q
theorem wrap_u8 (n : Nat) : IntKind.u8.wrap (n : Int) = ((n % 256 : Nat) : Int) := by
 have e : IntKind.u8.wrap (n : Int) = (n : Int) % 256 := by unfold IntKind.wrap; simp [IntKind.bits, IntKind.signed]
 rw [e]
 omega
theorem Al.bn {b : Nat} {l : List Nat} (h : Al s b 0 (u8l l)) (hl : l.length < capU) : Bs s (.slice (some ⟨b, 0, none⟩) l.length l.length) l :=
 .inr ⟨b, 0, l.length, rfl, by rw [Nat.mod_eq_of_lt hl]; exact Nat.le_refl _, JB hl, h.row⟩
theorem BD {γ : Type} (a : α) (f : α → M γ) : oS (some a) f = f a := rfl
theorem QD {γ : Type} (a : α) (f : α → M γ) : M.on (some a) f = f a := rfl
theorem WY {m : M α} {v : α} (h : ∀ (s : St) (Q : α → St → Prop), W m s Q = Q v s) (s : St) : m s = .some v s := by
 have : W m s fun a s' => a = v ∧ s' = s := by rw [h]; exact ⟨rfl, rfl⟩
 obtain ⟨a, s', e, rfl, rfl⟩ := this
 exact e
theorem W_dq {γ : Type} {m : M α} {v : α} {f : α × OpLog → M γ} {mem : T Cell} {next : Nat} {Q : γ → St → Prop} (h : ∀ (s : St) (Q : α → St → Prop), W m s Q = Q v s) : W (M.bind (apartO m) f) (dSt mem next) Q = W (f (v, ⟨next, next, [], []⟩)) (dSt mem next) Q := by
 rw [AK]
 refine A5 ?_
 show Am.apartO m ⟨mem, next, 0, [], [], .no⟩ = _
 unfold Am.apartO
 have e := WY h ⟨mem, next, next, [], [], .no⟩
 simp only [e]
 rfl
theorem CX {γ : Type} (v : α) (f : α × OpLog → M γ) (mem : T Cell) (next : Nat) (Q : γ → St → Prop) : W (M.bind (apartO (M.pure v)) f) (dSt mem next) Q = W (f (v, ⟨next, next, [], []⟩)) (dSt mem next) Q := W_dq fun _ _ => AI _ _
theorem W.dload {γ : Type} {b o : Nat} {v : Value} {f : Value × OpLog → M γ} {mem : T Cell} {next : Nat} {Q : γ → St → Prop} (ht : tyS E t = some (1, false)) (h : At (dSt mem next) b o v)
   (k : ∀ rd : List Nat, (∀ x ∈ rd, x = b + o) → W (f (v, ⟨next, next, rd, []⟩)) (dSt mem next) Q) : W (M.bind (apartO (A6 E t (.pointer (some ⟨b, o, none⟩)))) f) (dSt mem next) Q := by
 refine W.dop (W.load1 ht (h.same rfl rfl) ⟨fun x => x = b + o, Ext.rdN _ _ fun _ => rfl, fun rd hr => k rd fun x hx => (hr x hx).2⟩)
theorem Jw {n0 : Nat} {l : List OpLog} {bef : List Nat} (hl : l.length ≤ bef.length) (h : ∀ m ∈ l, m.wr = [] ∧ m.lo = m.hi) : BC n0 l bef = true :=
 Vb hl (fun k m b e1 _ => ⟨(h m (List.mem_of_getElem? e1)).1, fun i a _ e3 => .inr fun x _ _ hx => by have := (h a (List.mem_of_getElem? e3)).2; omega⟩) fun m hm => (h m hm).1
theorem MU (b : Bool) (P : Program) (Q : Value → St → Prop) : W (kUn P .not (.bool b)) s Q = Q (.bool (!b)) s := A5 (by show rB (!b) s = _; exact Gy _ _)
def ptrT (E : Env) (t : Nat) : Bool := match T.get E.ty t with | some i => (match i.u with | .pointer _ => true | _ => false) | none => false
theorem T2 {a : Addr} {xo yo : Operand} (h : ptrT E t = true) : Cl.get (aBin E .eql t xo yo) (.pointer (some a)) (.pointer none) s = .some (.bool false) s := by
 unfold ptrT at h
 split at h
 · rename_i i hi
   split at h
   · rename_i e hu
     show Ew E .eql t (.pointer (some a)) (.pointer none) s = _
     unfold Ew
     rw [AW (show ti E t s = .some i s by unfold ti; rw [hi]; rfl), hu]
     rfl
   · cases h
 · cases h
theorem I2 {a : Addr} {xo yo : Operand} (h : ptrT E t = true) (Q : Value → St → Prop) : W (Cl.get (aBin E .eql t xo yo) (.pointer (some a)) (.pointer none)) s Q = Q (.bool false) s := A5 (T2 h)
theorem Ot (m n : Nat) (hn : 1 ≤ n) (xo yo : Operand) : Cl.get (aBin E .rem t xo yo) (.int .i64 (m : Nat)) (.int .i64 (n : Nat)) s = .some (.int .i64 (m % n : Nat)) s := by
 show int3 remK (AV E .rem t xo yo) (.int .i64 (.ofNat m)) (.int .i64 (.ofNat n)) s = _
 show Option.rec (motive := fun _ => R Value) _ (fun v => .some v s) (remK .i64 .i64 m n) = _
 have : remK .i64 .i64 m n = some (.int .i64 (m % n : Nat)) := by
   unfold remK B2
   rw [Nat.beq_refl, Nat.ble_eq_true_of_le hn]
   show mkI .i64 (Nat.mod m n) = _
   unfold mkI
   rw [AG]
   rfl
 rw [this]
theorem Nd {m n : Nat} {xo yo : Operand} (hn : 1 ≤ n) (Q : Value → St → Prop) : W (Cl.get (aBin E .rem t xo yo) (.int .i64 (m : Nat)) (.int .i64 (n : Nat))) s Q = Q (.int .i64 (m % n : Nat)) s := A5 (Ot m n hn xo yo)
theorem Rg {m : Nat} {xo yo : Operand} (Q : Value → St → Prop) : W (Cl.get (aBin E .rem t xo yo) (.int .i64 (m : Nat)) (.int .i64 64)) s Q = Q (.int .i64 (m % 64 : Nat)) s := Nd (n := 64) (by decide) Q
theorem W.dloadA {γ : Type} {b o n : Nat} {l : List Value} {f : Value × OpLog → M γ} {mem : T Cell} {next : Nat} {Q : γ → St → Prop} (ht : tyS E t = some (n, true)) (h : Row (dSt mem next) b o l) (hl : l.length = n)
   (k : ∀ (mem1 : T Cell) (rd : List Nat), mem1 = mem → (∀ x ∈ rd, In b o n x) → W (f (.agg l.toArray, ⟨next, next, rd, []⟩)) (dSt mem1 next) Q) : W (M.bind (apartO (A6 E t (.pointer (some ⟨b, o, none⟩)))) f) (dSt mem next) Q := by
 refine W.dop (W.loadA ht (fun i v e => (h i v e).same rfl rfl) hl fun s1 m1 n1 x1 => ⟨In b o n, x1, fun rd hr => ?_⟩)
 rw [show s1.next = next from n1]
 exact k s1.mem rd m1 fun x hx => (hr x hx).2
theorem Ca {n : Nat} (h : n ≤ 1073741824) : n < capU := by unfold capU; omega
end
open Go.RowKit Go.ChangeShapes Go.WideShapes
structure OldSt (w : World) (m : T Cell) (nx : Nat) (r : Inj) : Prop where
  ho : ∀ loc c, T.get m loc = some c → loc < nx ∧ ∃ b v, c = .O (.old b v) ∧ ∃ b' d v', b ≤ loc ∧ r.blk b = some (b', d) ∧ w.cell? ⟨b', loc - b + d, none⟩ = some v' ∧ VR r v v'
  hd : ∀ b b' d, r.blk b = some (b', d) → b < nx ∧ b' < w.heap.size
  hx : ∀ b, r.ext b = none
  hk : r.known = .no
structure Grow (m : T Cell) (nx : Nat) (r : Inj) (m' : T Cell) (nx' : Nat) (r' : Inj) : Prop where
  le : r.le r'
  nle : nx ≤ nx'
  mem : ∀ l, l < nx → T.get m' l = T.get m l
theorem Grow.refl (m : T Cell) (nx : Nat) (r : Inj) : Grow m nx r m nx r := ⟨Inj.le_refl r, Nat.le_refl _, fun _ _ => rfl⟩
theorem Grow.trans {m m' m'' : T Cell} {nx nx' nx'' : Nat} {r r' r'' : Inj} (h : Grow m nx r m' nx' r') (k : Grow m' nx' r' m'' nx'' r'') : Grow m nx r m'' nx'' r'' :=
 ⟨Inj.le_trans h.le k.le, Nat.le_trans h.nle k.nle, fun l hl => (k.mem l (Nat.lt_of_lt_of_le hl h.nle)).trans (h.mem l hl)⟩
def stO (m : T Cell) (nx : Nat) : St := ⟨m, nx, 0, [], [], .no⟩
theorem Grow.row {m m' : T Cell} {nx nx' : Nat} {r r' : Inj} (g : Grow m nx r m' nx' r') {b o : Nat} {l : List Value} (h : Row (stO m nx) b o l) : Row (stO m' nx') b o l := fun i v e => by
 have hl : b + (o + i) < nx := (h i v e).1
 refine ⟨Nat.lt_of_lt_of_le hl g.nle, ?_⟩
 show T.get m' (b + (o + i)) = _ ∨ T.get m' (b + (o + i)) = _
 rw [g.mem _ hl]
 exact (h i v e).2
def Bu (P : Program) (N : Nat) (s : St) : Nat → TypeId → List Value → Prop
  | 0, _, _ => False
  | f + 1, t, us => match P.underlying t with
    | some .bool => ∃ b, us = [.bool b]
    | some (.int k) => ∃ n, us = [.int k n] ∧ (Lit.int k n).wf = true
    | some .string => ∃ x : ByteArray, us = [.string x] ∧ x.size ≤ maxLen ∧ x.size ≤ N
    | some (.slice e) => us = [.slice none 0 0] ∨ us = [.slice (some ⟨0, 0, none⟩) 0 (capU * P.cellsOf e)] ∨ ∃ b n c, us = [.slice (some ⟨b, 0, none⟩) n c] ∧ 0 < n ∧ n ≤ c ∧ c ≤ maxLen ∧ n ≤ N ∧ ∀ i, i < n → ∃ es, es.length = P.cellsOf e ∧ Row s b (i * P.cellsOf e) es ∧ Bu P N s f e es
    | some (.struct fs) => us.length = P.cellsOf t ∧ ∀ x ∈ fs.toList, Bu P N s f x.type ((us.drop x.offset).take (P.cellsOf x.type))
    | some (.array n e) => us.length = P.cellsOf t ∧ ∀ i, i < n → Bu P N s f e ((us.drop (i * P.cellsOf e)).take (P.cellsOf e))
    | _ => False
theorem Bu.mono {P : Program} {N : Nat} {s s' : St} (h : ∀ b o l, Row s b o l → Row s' b o l) : ∀ (f : Nat) (t : TypeId) (us : List Value), Bu P N s f t us → Bu P N s' f t us
 | 0, _, _, k => k
 | f + 1, t, us, k => by
   unfold Bu at k ⊢
   cases hu : P.underlying t with
   | none => rw [hu] at k; exact k
   | some u =>
     rw [hu] at k
     cases u <;> try exact k
     · rename_i e
       rcases k with k | k | ⟨b, n, c, k1, k2, k3, k4, k6, k5⟩
       · exact .inl k
       · exact .inr (.inl k)
       · refine .inr (.inr ⟨b, n, c, k1, k2, k3, k4, k6, fun i hi => ?_⟩)
         obtain ⟨es, e1, e2, e3⟩ := k5 i hi
         exact ⟨es, e1, h _ _ _ e2, Bu.mono h f _ _ e3⟩
     · exact ⟨k.1, fun x hx => Bu.mono h f _ _ (k.2 x hx)⟩
     · exact ⟨k.1, fun i hi => Bu.mono h f _ _ (k.2 i hi)⟩
def Lay (w : World) (cs : List Value) (H : St → List Value → Prop) : Prop := ∀ m nx r, OldSt w m nx r → ∃ m' nx' r' us, OldSt w m' nx' r' ∧ Grow m nx r m' nx' r' ∧ VRs r' us cs ∧ H (stO m' nx') us
theorem Lay.plain {w : World} {cs : List Value} {H : St → List Value → Prop} (h : ∀ v ∈ cs, plain v = true) (k : ∀ s, H s cs) : Lay w cs H := fun m nx r ho => ⟨m, nx, r, cs, ho, .refl _ _ _, VRs.plains h, k _⟩
mutual
def Gd_ {H : Type} (N : Nat) : DataW H → Prop
  | .lit (.string l) => l.length ≤ N
  | .slice es _ => es.length ≤ N ∧ Kq N es
  | .agg ps => Kq N ps
  | _ => True
def Kq {H : Type} (N : Nat) : List (DataW H) → Prop
  | [] => True
  | d :: r => Gd_ N d ∧ Kq N r
end
def aggT (P : Program) (t : TypeId) : Bool := match P.underlying t with
  | some (.struct _) | some (.array _ _) => true
  | _ => false
def JS (P : Program) (N : Nat) (s : St) (F : Nat) (t : TypeId) (u : Value) : Prop := ∃ us, Bu P N s F t us ∧ ((aggT P t = true ∧ u = .agg us.toArray) ∨ (aggT P t = false ∧ us = [u]))
theorem Yn {α : Type} {n : Nat} {p : Nat → α → Prop} (h : ∀ i, i < n → ∃ x, p i x) : ∃ l : List α, l.length = n ∧ ∀ i x, l[i]? = some x → p i x := by
 induction n with
 | zero => exact ⟨[], rfl, fun i x e => by simp at e⟩
 | succ n ih =>
   obtain ⟨l, h1, h2⟩ := ih fun i hi => h i (by omega)
   obtain ⟨x, hx⟩ := h n (by omega)
   refine ⟨l ++ [x], by simp [h1], fun i y e => ?_⟩
   rcases Nat.lt_or_ge i n with hi | hi
   · rw [List.getElem?_append_left (by omega)] at e
     exact h2 i y e
   · rw [List.getElem?_append_right (by omega), h1] at e
     have : i = n := by
       have := (List.getElem?_eq_some_iff.1 e).1
       simp at this
       omega
     subst this
     rw [Nat.sub_self] at e
     cases e
     exact hx
theorem Wj {k : Nat} (hk : k < 1024) : Bj (capU * k) k = true := by
 unfold Bj
 have hd : Nat.div (capU * k) capU = k := Nat.mul_div_cancel_left k (by unfold capU; decide)
 have hm : Nat.mod k 1024 = k := Nat.mod_eq_of_lt hk
 rw [hd, hm, Nat.beq_refl]
 cases Nat.beq k 0 <;> rfl
section
variable {P : Program} {s : St} {F N : Nat} {t e : TypeId} {us : List Value}
def ElS (s : St) (k : Nat) (v : Value) (es : List (List Value)) : Prop := (v = .slice none 0 0 ∧ es = []) ∨ ∃ b c, v = .slice (some ⟨b, 0, none⟩) es.length c ∧ es.length ≤ c % capU ∧ Bj c k = true ∧ ∀ i x, es[i]? = some x → Row s b (i * k) x
theorem Bu.slice (ht : P.underlying t = some (.slice e)) (hk : P.cellsOf e < 1024) (h : Bu P N s (F + 1) t us) : ∃ v es, us = [v] ∧ ElS s (P.cellsOf e) v es ∧ es.length ≤ 9223372036854775807 ∧ es.length ≤ N ∧ ∀ x ∈ es, x.length = P.cellsOf e ∧ Bu P N s F e x := by
 unfold Bu at h
 rw [ht] at h
 rcases h with rfl | rfl | ⟨b, n, c, rfl, h1, h2, h3, h5, h4⟩
 · exact ⟨_, [], rfl, .inl ⟨rfl, rfl⟩, by simp, by simp, fun x hx => by cases hx⟩
 · exact ⟨_, [], rfl, .inr ⟨0, _, rfl, Nat.zero_le _, Wj hk, fun i x e => by simp at e⟩, by simp, by simp, fun x hx => by cases hx⟩
 · obtain ⟨l, l1, l2⟩ := Yn h4
   have h3' : c ≤ 9223372036854775807 := h3
   have hcu : c < capU := by unfold capU; omega
   refine ⟨_, l, rfl, .inr ⟨b, c, by rw [l1], by rw [l1, Nat.mod_eq_of_lt hcu]; exact h2, JB hcu, fun i x e => (l2 i x e).2.1⟩, by omega, by omega, fun x hx => ?_⟩
   obtain ⟨i, hi⟩ := List.getElem?_of_mem hx
   exact ⟨(l2 i x hi).1, (l2 i x hi).2.2⟩
end
section
variable {E : Env} {s : St} {t : Nat}
theorem W.endC {n f nt g r : Nat} {tm : T Value} {todo P : List Item} {ki : CallKind} {fn : Func} {a : Addr} {up : Option FrameMode} {Q : Value × FrameMode → St → Prop} (ht : skim 64 todo = P) (hP : (∃ k, P = .code .ret :: k) ∨ P = []) (hn : 2 ≤ n)
   (hf : E.fn.get f = some fn) (hr : fn.results.toList = [.cell r t]) (hc : s.cx = .cx up (some [])) (hv : Am.T.get tm r = some (.pointer (some a))) (q : W (A6 E t (.pointer (some a))) s fun v s1 => Q (v, up.getD .run) s1) : W (runF E n ⟨f, nt, g, tm, todo, .run, ki, none⟩) s Q := by
 obtain ⟨m, rfl⟩ : ∃ m, n = m + 2 := ⟨n - 2, by omega⟩
 subst ht
 have h1 : W (runF E (m + 1) ⟨f, nt, g, tm, skim 64 todo, .returning, ki, none⟩) s Q := by
   refine W.run ?_
   show W (Dv E (D1 E (runF E m)) ⟨f, nt, g, tm, skim 64 todo, .returning, ki, none⟩) s _
   refine W.bind (W.of (a := s.cx) (s' := s) (by obtain ⟨mem, next, lim, rd, wr, cx⟩ := s; rfl) ?_)
   rw [hc]
   show W (outF E ⟨f, nt, g, tm, skim 64 todo, .returning, ki, none⟩ up) s _
   refine W.on hf (W.bind ?_)
   show W (M.bind (resL E tm fn.results.toList) fun l => M.pure (tupV l)) s _
   rw [hr]
   refine W.bind ?_
   show W (M.bind (M.on (Am.T.get tm r) fun a => M.bind (asA a) fun a => Ed E t a) fun v => M.bind (M.pure []) fun l => M.pure (v :: l)) s _
   rw [hv]
   refine W.bind ?_
   show W (A6 E t (.pointer (some a))) s _
   refine q.mono fun v s1 q => ?_
   exact W.bind (W.pure (W.pure (W.pure (W.pure (W.pure q)))))
 rcases hP with ⟨k, ht⟩ | ht
 · refine W.code ht ?_
   rw [ht] at h1
   exact W.pure h1
 · refine W.run ?_
   show W (noP (Eu E (AJ E (runF E (m + 1))) (BB (runF E (m + 1))) ⟨f, nt, g, tm, skim 64 todo, .run, ki, none⟩ (skim 64 todo))) s _
   rw [ht] at h1 ⊢
   exact W.np (W.pure h1)
def JD (E : Env) (t : Nat) (ps : List (Nat × Value)) : Option (List Value) :=
  match T.get E.ty t with
  | some i => (match i.u with
    | .struct fs => C6 (Gd E fs) ps i.zero
    | .array _ e => (match T.get E.ty e with
      | some ie => C6 (fun k => some (k * ie.size, ie.size)) ps i.zero
      | none => none)
    | _ => none)
  | none => none
theorem OQ {ps : List (Nat × Value)} {r : List Value} (h : JD E t ps = some r) (Q : Value → St → Prop) : W (Cv E t ps) s Q = Q (.agg r.toArray) s := by
 unfold JD at h
 split at h
 · rename_i i hi
   split at h
   · rename_i fs hu
     refine A5 ?_
     unfold Cv
     rw [AW (show ti E t s = .some i s by unfold ti; rw [hi]; rfl)]
     rw [hu]
     simp only [h]
     rfl
   · rename_i e hu
     split at h
     · rename_i ie he
       refine A5 ?_
       unfold Cv
       rw [AW (show ti E t s = .some i s by unfold ti; rw [hi]; rfl)]
       rw [hu]
       simp only
       rw [AW (show ti E _ s = .some ie s by unfold ti; rw [he]; rfl), h]
       rfl
     · cases h
   · cases h
 · cases h
end
section
variable {E : Env} {s : St} {t : Nat}
theorem S3 (m n : Nat) (hn : m * n ≤ 9223372036854775807) (xo yo : Operand) : Cl.get (aBin E .mul t xo yo) (.int .i64 (m : Nat)) (.int .i64 (n : Nat)) s = .some (.int .i64 (m * n : Nat)) s := by
 show int3 mulK (AV E .mul t xo yo) (.int .i64 (.ofNat m)) (.int .i64 (.ofNat n)) s = _
 show Option.rec (motive := fun _ => R Value) _ (fun v => .some v s) (mulK .i64 .i64 m n) = _
 have : mulK .i64 .i64 m n = some (.int .i64 (m * n : Nat)) := by
   unfold mulK B2 fitI
   rw [Nat.beq_refl]
   show (Bool.rec (motive := fun _ => Option Value) _ (mkI .i64 (m * n)) (Nat.ble (m * n) (mxOf .i64)) : Option Value) = _
   rw [Nat.ble_eq_true_of_le (show m * n ≤ mxOf .i64 from hn)]
   show mkI .i64 (m * n) = _
   unfold mkI
   rw [AG]
   rfl
 rw [this]
theorem QQ {m n : Nat} {xo yo : Operand} (hn : m * n ≤ 9223372036854775807) (Q : Value → St → Prop) : W (Cl.get (aBin E .mul t xo yo) (.int .i64 (m : Nat)) (.int .i64 (n : Nat))) s Q = Q (.int .i64 (m * n : Nat)) s := A5 (S3 m n hn xo yo)
theorem Fu_ {n : Nat} {xo yo : Operand} (hn : 4 * n ≤ 9223372036854775807) (Q : Value → St → Prop) : W (Cl.get (aBin E .mul t xo yo) (.int .i64 4) (.int .i64 (n : Nat))) s Q = Q (.int .i64 (4 * n : Nat)) s := QQ (m := 4) hn Q
theorem Xa {n : Nat} {xo yo : Operand} (hn : 8 * n ≤ 9223372036854775807) (Q : Value → St → Prop) : W (Cl.get (aBin E .mul t xo yo) (.int .i64 8) (.int .i64 (n : Nat))) s Q = Q (.int .i64 (8 * n : Nat)) s := QQ (m := 8) hn Q
def arrU (E : Env) (t : Nat) : Option Nat := match T.get E.ty t with
  | some i => (match i.u with | .array n e => (match T.get E.ty e with | some ie => bif Nat.beq ie.size 1 && !ie.agg then some n else none | none => none) | _ => none)
  | none => none
theorem ZK {n : Nat} (h : arrU E t = some n) : ∃ i e ie, T.get E.ty t = some i ∧ i.u = .array n e ∧ T.get E.ty e = some ie ∧ ie.size = 1 ∧ ie.agg = false := by
 unfold arrU at h
 split at h
 · rename_i i e
   split at h
   · rename_i n2 e2 q
     split at h
     · rename_i ie q2
       cases hc : (Nat.beq ie.size 1 && !ie.agg)
       · rw [hc] at h
         cases h
       · rw [hc] at h
         cases h
         rw [Bool.and_eq_true] at hc
         exact ⟨i, e2, ie, e, q, q2, Nat.eq_of_beq_eq_true hc.1, by simpa using hc.2⟩
     · cases h
   · cases h
 · cases h
theorem S5 {n k : Nat} {kd : IntKind} {cs : Array Value} {v : Value} (h : arrU E t = some n) (hk : k < n) (hv : cs.toList[k]? = some v) (Q : Value → St → Prop) : W (kIdx E t (.agg cs) (.int kd (k : Nat))) s Q = Q v s := by
 obtain ⟨i, e, ie, h1, h2, h3, h4, h5⟩ := ZK h
 refine A5 ?_
 unfold kIdx
 rw [AW (show ti E t s = .some i s by unfold ti; rw [h1]; rfl), AW (show asN (.int kd (k : Nat)) s = .some k s from rfl)]
 unfold idxV
 rw [h2]
 simp only
 rw [AW (show ti E e s = .some ie s by unfold ti; rw [h3]; rfl), Bv hk]
 show CB E e cs.toList (k * ie.size) s = _
 refine XM (n := 1) (g := false) (by unfold tyS; rw [h3]; simp [h4, h5]) (.inl ⟨rfl, ?_⟩)
 rw [h4, Nat.mul_one]
 exact hv
end
section
variable {E : Env} {s : St} {t : Nat}
end
section
variable {E : Env} {s : St} {t : Nat}
theorem CX_ {m : Nat} (h : m ≤ 9223372036854775807) : fitI .i64 m = some (.int .i64 (m : Nat)) := by
 unfold fitI
 rw [Nat.ble_eq_true_of_le (show m ≤ mxOf .i64 from h)]
 show mkI .i64 m = _
 unfold mkI
 rw [AG]
 rfl
end
end Go.Proofs.YtchnfdaebboaeaaGreatDoor.Am
end
