import Derived.Test.YtofanlcjeohcjaaMb18
import Derived.Test.YtofanlcjeohcjaaMb07
namespace Go.Proofs.Ytofanlcjeohcjaa.Am
open Go.RowKit
theorem TS_ : elT envS 44 = some (1, 8, [.int .i64 0]) := by kernel_rfl
theorem Xi_ : appT envS 44 44 = some (1, 8, false, [.int .i64 0]) := by kernel_rfl
def Ah : List (List Nat) → List Nat
  | [] => []
  | b :: l => recB b ++ Ah l
def Cw : Nat → List (List Nat) → List Nat
  | _, [] => []
  | k, b :: l => (k + (recB b).length) :: Cw (k + (recB b).length) l
def A8 : Nat → List (List Nat) → List Hd
  | _, [] => []
  | k, b :: l => (idB b, k, b.length) :: A8 (k + (recB b).length) l
theorem QW (x : List Nat) : ∀ l, Ah (l ++ [x]) = Ah l ++ recB x
 | [] => by show recB x ++ [] = _; rw [List.append_nil]; rfl
 | b :: l => by show recB b ++ Ah (l ++ [x]) = (recB b ++ Ah l) ++ recB x; rw [QW x l, List.append_assoc]
theorem TV (x : List Nat) : ∀ (l : List (List Nat)) (k : Nat), Cw k (l ++ [x]) = Cw k l ++ [k + (Ah l).length + (recB x).length]
 | [], k => rfl
 | b :: l, k => by
   show (k + (recB b).length) :: Cw (k + (recB b).length) (l ++ [x]) = (k + (recB b).length) :: Cw (k + (recB b).length) l ++ [k + (recB b ++ Ah l).length + (recB x).length]
   rw [TV x l, List.length_append, List.cons_append, Nat.add_assoc k]
theorem Vk (x : List Nat) : ∀ (l : List (List Nat)) (k : Nat), A8 k (l ++ [x]) = A8 k l ++ [(idB x, k + (Ah l).length, x.length)]
 | [], k => rfl
 | b :: l, k => by
   show (idB b, k, b.length) :: A8 (k + (recB b).length) (l ++ [x]) = (idB b, k, b.length) :: A8 (k + (recB b).length) l ++ [(idB x, k + (recB b ++ Ah l).length, x.length)]
   rw [Vk x l, List.length_append, List.cons_append, Nat.add_assoc k]
def D1 (l : List Nat) : List Value := l.map fun n => .int .i64 (n : Nat)
section
variable {parts : List (Value × List Nat)} {b o c : Nat}
def chs (parts : List (Value × List Nat)) (i : Nat) : List (List Nat) := (parts.take i).map (·.2)
theorem Sg {i : Nat} (hi : i < parts.length) : chs parts (i + 1) = chs parts i ++ [parts[i].2] := by
 unfold chs
 rw [List.take_succ_eq_append_getElem hi, List.map_append]
 rfl
structure AlI (s0 : St) (parts : List (Value × List Nat)) (b o c i : Nat) (tm : T Value) (s : St) (vb ve vh : Value) (b1 b2 b3 : Nat) : Prop where
  t0 : T.get tm 0 = some (.slice (some ⟨b, o, none⟩) parts.length c)
  t6 : T.get tm 6 = some vb
  t7 : T.get tm 7 = some ve
  t8 : T.get tm 8 = some vh
  t11 : T.get tm 11 = some (.int .i64 (i : Nat))
  mb : MkS s 1 (Ah (chs parts i)).length (u8l (Ah (chs parts i))) vb b1
  me : MkS s 1 i (D1 (Cw 0 (chs parts i))) ve b2
  mh : MkS s 18 i (BA (A8 0 (chs parts i))) vh b3
  n1 : s0.next ≤ b1
  n2 : s0.next ≤ b2
  n3 : s0.next ≤ b3
  d12 : ∀ x, MkF 1 (Ah (chs parts i)).length b1 x → ¬ MkF 1 i b2 x
  d13 : ∀ x, MkF 1 (Ah (chs parts i)).length b1 x → ¬ MkF 18 i b3 x
  d23 : ∀ x, MkF 1 i b2 x → ¬ MkF 18 i b3 x
  sm : ∀ p ∈ parts.take i, 1 ≤ p.2.length ∧ p.2.length ≤ 1024
theorem Kh_ {id : List Nat} (h : id.length = 16) (a b : Nat) (s : St) (Q : Value → St → Prop) : W (Cb envS 35 [(0, .agg (u8l id).toArray), (1, .int .i64 (a : Nat)), (2, .int .i64 (b : Nat))]) s Q = Q (.agg (AP (id, a, b)).toArray) s := D8 (Y0 h a b) Q
theorem UF_ {F : Nat → Prop} (hF : ∀ x, Cz b o parts x → F x) {Q : Value × FrameMode → St → Prop} {s0 : St} (hb0 : s0.lim ≤ s0.next) (hp : Parts s0 b o parts) {i n C : Nat} {tm : T Value} {s : St} {td : List Item} {vb vh : Value} {b1 b3 : Nat} (hi : i < parts.length) (hi20 : i < 21) (hn : 20 ≤ n) (hT : skim 64 td = Fg) (hx : Ext F Non s0 s)
   (t0 : T.get tm 0 = some (.slice (some ⟨b, o, none⟩) parts.length c)) (t6 : T.get tm 6 = some vb) (t8 : T.get tm 8 = some vh) (t11 : T.get tm 11 = some (.int .i64 (i : Nat))) (t13 : T.get tm 13 = some (.pointer (some ⟨C, 0, none⟩)))
   (mb : MkS s 1 (Ah (chs parts i)).length (u8l (Ah (chs parts i))) vb b1) (mh : MkS s 18 i (BA (A8 0 (chs parts i))) vh b3) (hC : s0.next ≤ C) (oC : Af s C 0 (u8l (idB parts[i].2))) (n3 : s0.next ≤ b3)
   (q : ∀ (n1 : Nat) (tm1 : T Value) (s1 : St) (td1 : List Item) (vh1 : Value) (b31 : Nat), n - 1 ≤ n1 → skim 64 td1 = I9 → Ext (fun x => F x ∨ s0.next ≤ x) (MkF 18 i b3) s s1 → (∀ k, k ≠ 8 → T.get tm1 k = T.get tm k) → T.get tm1 8 = some vh1 → s.next ≤ b31 → MkS s1 18 (i + 1) (BA (A8 0 (chs parts (i + 1)))) vh1 b31 → W (runF envS n1 ⟨30, DL, Bx, tm1, td1, .run, .normal, none⟩) s1 Q) :
   W (runF envS n ⟨30, DL, Bx, tm, td, .run, .normal, none⟩) s Q := by
 have hb : s.lim ≤ s.next := hx.bnd hb0
 have hps : Parts s b o parts := ⟨hp.row.ext0 hx, fun p h => (hp.bs p h).ext0 hx⟩
 obtain ⟨g1, g2⟩ := hps.get hi
 obtain ⟨pv, cv, ev⟩ := g2.sl
 rw [ev] at g1
 have hmem := List.getElem_mem hi
 have hFc : ∀ x, x = b + (o + i * 1) → F x := fun x h => hF _ (.inl ⟨by omega, by omega⟩)
 have hI16 := B1 parts[i].2
 have hIl : (u8l (idB parts[i].2)).length = 16 := by rw [A0]; exact hI16
 obtain ⟨pb, cb, eb⟩ := mb.sl
 refine Uv_.w hT (by omega) ?_
 simp -implicitDefEqProofs only [XE, t0, t6, t8, t11, t13, Ci, Ap, Al, Bj, Bd, Ak, A5]
 refine W.dloadA BP (fun j u e => ((oC j u e).same (s' := dSt s.mem s.next) rfl rfl).at') hIl fun m1 rd1 e1 hr1 => ?_
 subst e1
 simp -implicitDefEqProofs only [A5, eb]
 rw [W_dq fun s Q => BS (s := s) A1 Q]
 simp -implicitDefEqProofs only [A5]
 rw [W_dq fun s Q => Ck (s := s) Ca hi Q]
 refine W.dload CL (g1.same rfl rfl) fun rd7 hr7 => ?_
 rw [W_dq fun s Q => BS (s := s) A1 Q]
 dsimp only
 rw [W_dq (Kh_ hI16 _ _)]
 refine W.dop (W.buildS (s := oSt s.mem s.next) (Nat.le_refl _) (r := AP (idB parts[i].2, (Ah (chs parts i)).length, parts[i].2.length)) ZI (by decide) (W9 hI16 _ _) (BD (by decide)) fun sa na xa oa => ⟨Non, xa, fun rda hra => ?_⟩)
 have h18 : (AP (idB parts[i].2, (Ah (chs parts i)).length, parts[i].2.length)).length = 18 := Db hI16
 have na' : sa.next = s.next + 19 := by rw [na, h18]; rfl
 have hrda : rda = [] := by
   cases rda with
   | nil => rfl
   | cons y _ => exact (hra y (by simp)).2.elim
 subst hrda
 dsimp only
 have oa' : Af sa s.next 0 (AP (idB parts[i].2, (Ah (chs parts i)).length, parts[i].2.length)) := oa
 have mha : MkS (oSt sa.mem sa.next) 18 i (BA (A8 0 (chs parts i))) vh b3 := ((mh.same (s' := oSt s.mem s.next) rfl rfl).ext0 xa).same rfl rfl
 have hsrc : SrcG (oSt sa.mem sa.next) 18 32 false (List.replicate 16 (.int .u8 0) ++ [.int .i64 0, .int .i64 0]) (.slice (some ⟨s.next, 0, none⟩) 1 1) 1 (AP (idB parts[i].2, (Ah (chs parts i)).length, parts[i].2.length)) (In s.next 0 (1 * 18)) := (KG (fun j u e => ((oa' j u e).same (s' := oSt sa.mem sa.next) rfl rfl).at') (by rw [h18])).g
 refine W.dopG ?_
 rw [E5]
 refine W.appU (s := oSt sa.mem sa.next) (Nat.le_refl _) Rf mha hsrc (by decide) (by decide) (by decide) (by omega) (by rw [h18]) (KL _) fun sb vh1 b31 hb31 mk1 xb => ⟨_, _, xb, fun rdb wrb hrb hwb => ?_⟩
 rw [Aa]
 have nb' : sa.next ≤ sb.next := xb.nxt
 refine ⟨FS ?_, ?_⟩
 · simp -implicitDefEqProofs only [List.reverse_cons, List.reverse_nil, List.nil_append, List.cons_append, allP, Dw, List.take, ET]
   have lts : ∀ x, s.next ≤ x → ¬ x < s.next := fun x h => by omega
   simp +contextual [lts]
   repeat' first
     | exact .inl rfl
     | apply And.intro
 · refine W.cast (HY_ _ _ _ _ _ _ _ _ _ _ _ _ _ _ _ _ _) ?_
   simp -implicitDefEqProofs only [Ad, W_oS, Aa, Bb]
   generalize hs' : (⟨(dSt sb.mem sb.next).mem, (dSt sb.mem sb.next).next, s.lim, _, _, s.cx⟩ : St) = s7
   have hn0 : s0.next ≤ s.next := hx.nxt
   have hmk : ∀ x, MkF 18 i b3 x → s0.next ≤ x := fun x h => by have h1 := h.2.1; omega
   have x7 : Ext (fun x => F x ∨ s0.next ≤ x) (MkF 18 i b3) s s7 := by
     rw [← hs']
     refine Ext.drawG (by show s.next ≤ sb.next; omega) (fun x hx hg => ?_) ?_ ?_
     · exact (xb.mem x (by show x < sa.next; omega) hg).trans (xa.mem x hx id)
     · simp -implicitDefEqProofs only [List.mem_cons, List.not_mem_nil, or_false]
       rintro m (rfl | rfl | rfl | rfl | rfl | rfl | rfl | rfl | rfl | rfl | rfl | rfl) x hx _ <;> first | (cases hx; done) | (exact (hwb x hx).2)
     · simp -implicitDefEqProofs only [List.mem_cons, List.not_mem_nil, or_false]
       rintro m (rfl | rfl | rfl | rfl | rfl | rfl | rfl | rfl | rfl | rfl | rfl | rfl) x hx hl <;> first | (cases hx; done) | (exact .inl (hFc x (hr7 x hx))) | (have h1 := (hr1 x hx).1; exact .inr (by omega)) | (exact (hrb x hx).2.elim (fun h => .inr (by have h1 := h.1; omega)) fun h => .inr (hmk x h))
   have m7 : s7.mem = sb.mem := by rw [← hs']; rfl
   have n7 : s7.next = sb.next := by rw [← hs']; rfl
   refine q _ _ s7 _ vh1 b31 (Nat.le_refl _) FT_ x7 (fun k hk => by rw [T.get_set, if_neg hk]) (by simp [T.get_set]) (by have h1 : sa.next ≤ b31 := hb31; omega) ?_
   rw [Sg hi, Vk, Rj, Nat.zero_add]
   exact mk1.same m7 n7
end
theorem Li_ (n : Nat) (h : n ≤ 1024) : len2 (n >>> 8 % 256) (n % 256) = n := by
 have d : ∀ m : Fin 1025, len2 (m.val >>> 8 % 256) (m.val % 256) = m.val := by decide +kernel
 exact d ⟨n, by omega⟩
theorem XA (p q r : List Nat) (n : Nat) (h : q.length = n) : ((p ++ (q ++ r)).take (p.length + n)).drop p.length = q := by
 rw [List.drop_take, List.drop_left, show p.length + n - p.length = n by omega, ← h, List.take_left]
structure RecAt (t : List Nat) (k : Nat) (b : List Nat) : Prop where
  n : Be t k = b.length
  ok : Cs t k = true
  len : k + 26 + b.length ≤ t.length
  rok : Cn t k = true
  good : Cc t k b.length = true
  id : C8 t k b.length = idB b
  body : Co t k b.length = b
theorem Vy (p r : List Nat) (n : Nat) (hn : n ≤ 1024) : Be (p ++ (BR n ++ r)) p.length = n ∧ ((p ++ (BR n ++ r)).take (p.length + 6)).drop p.length = BR n := by
 refine ⟨?_, XA p _ r 6 rfl⟩
 unfold Be
 have e0 : (p ++ (BR n ++ r)).getD p.length 0 = n >>> 8 % 256 := by
   rw [List.getD_eq_getElem?_getD, List.getElem?_append_right (Nat.le_refl _), Nat.sub_self]
   rfl
 have e1 : (p ++ (BR n ++ r)).getD (p.length + 1) 0 = n % 256 := by
   rw [List.getD_eq_getElem?_getD, List.getElem?_append_right (by omega), show p.length + 1 - p.length = 1 by omega]
   rfl
 rw [e0, e1, Li_ n hn]
theorem LG_ (x : List Nat) : GOk (gput x) := by
 have h : (gput x).length = x.length + 4 := Fk x
 refine ⟨by omega, ?_⟩
 have e : (gput x).take ((gput x).length - 4) = x := by
   rw [h, show x.length + 4 - 4 = x.length by omega]
   unfold gput
   exact List.take_left
 rw [e]
theorem ZC (p r b : List Nat) (h1 : 1 ≤ b.length) (h2 : b.length ≤ 1024) : RecAt (p ++ (recB b ++ r)) p.length b := by
 have ht : p ++ (recB b ++ r) = p ++ (BR b.length ++ (gput (idB b ++ b) ++ r)) := by
   unfold recB
   rw [List.append_assoc]
 obtain ⟨e1, e2⟩ := Vy p (gput (idB b ++ b) ++ r) b.length h2
 rw [← ht] at e1 e2
 have hok : Cs (p ++ (recB b ++ r)) p.length = true := by
   unfold Cs
   rw [e1, e2, decide_eq_true ⟨h1, h2⟩, decide_eq_true rfl]
   rfl
 have hlen : p.length + 26 + b.length ≤ (p ++ (recB b ++ r)).length := by
   rw [List.length_append, List.length_append, DI]
   omega
 have hch : CO (p ++ (recB b ++ r)) p.length b.length = gput (idB b ++ b) := by
   unfold CO
   have e : p ++ (recB b ++ r) = (p ++ BR b.length) ++ (gput (idB b ++ b) ++ r) := by rw [ht, List.append_assoc]
   have hp : (p ++ BR b.length).length = p.length + 6 := by rw [List.length_append]; rfl
   have := XA (p ++ BR b.length) (gput (idB b ++ b)) r (b.length + 20) (by rw [Fk, List.length_append, B1]; omega)
   rw [hp] at this
   rw [e, show p.length + 26 + b.length = p.length + 6 + (b.length + 20) by omega]
   exact this
 have hx : CG (p ++ (recB b ++ r)) p.length b.length = idB b ++ b := by
   unfold CG
   rw [hch]
   unfold gput
   rw [← show (idB b ++ b).length = b.length + 16 by rw [List.length_append, B1]; omega]
   exact List.take_left
 have hi : BZ (p ++ (recB b ++ r)) p.length b.length = idB b := by
   unfold BZ
   rw [hx, ← B1 b]
   exact List.take_left
 have hc : Co (p ++ (recB b ++ r)) p.length b.length = b := by
   unfold Co
   rw [hx, ← B1 b]
   exact List.drop_left
 have hg : GOk (CO (p ++ (recB b ++ r)) p.length b.length) := by rw [hch]; exact LG_ _
 refine ⟨e1, hok, hlen, ?_, ?_, ?_, hc⟩
 · unfold Cn
   rw [hok, e1, decide_eq_true hlen, decide_eq_true (by omega)]
   rfl
 · unfold Cc
   rw [decide_eq_true hg, hi, hc, decide_eq_true rfl]
   rfl
 · unfold C8
   rw [if_pos hg, hi]
def Fit (l : List (List Nat)) : Prop := ∀ b ∈ l, 1 ≤ b.length ∧ b.length ≤ 1024
theorem Un : ∀ (l : List (List Nat)) (p y : List Nat) (f : Nat) (hs : List Hd) (bad : Nat), Fit l → Cr (p ++ (Ah l ++ y)) (f + l.length) p.length hs bad = Cr (p ++ (Ah l ++ y)) f (p.length + (Ah l).length) (hs ++ A8 p.length l) bad
 | [], p, y, f, hs, bad, _ => by simp [Ah, A8]
 | b :: l, p, y, f, hs, bad, hf => by
   obtain ⟨h1, h2⟩ := hf b (by simp)
   have ht : p ++ (Ah (b :: l) ++ y) = p ++ (recB b ++ (Ah l ++ y)) := by
     show p ++ ((recB b ++ Ah l) ++ y) = _
     rw [List.append_assoc]
   have ht2 : p ++ (Ah (b :: l) ++ y) = (p ++ recB b) ++ (Ah l ++ y) := by rw [ht, List.append_assoc]
   have ra := ZC p (Ah l ++ y) b h1 h2
   rw [← ht] at ra
   have hp : (p ++ recB b).length = p.length + 26 + b.length := by rw [List.length_append, DI]; omega
   have ih := Un l (p ++ recB b) y f (hs ++ [(idB b, p.length, b.length)]) bad fun x hx => hf x (by simp [hx])
   have hh : A8 p.length (b :: l) = (idB b, p.length, b.length) :: A8 (p.length + 26 + b.length) l := by
     show (idB b, p.length, b.length) :: A8 (p.length + (recB b).length) l = _
     rw [DI]
     congr 2
     omega
   rw [hh]
   rw [← ht2, hp] at ih
   rw [show f + (b :: l).length = (f + l.length) + 1 by simp; omega, Cr, ra.rok]
   simp -implicitDefEqProofs only [reduceIte]
   rw [ra.n, ra.good, ra.id]
   simp -implicitDefEqProofs only [reduceIte]
   rw [ih, List.append_assoc]
   congr 1
   show p.length + 26 + b.length + (Ah l).length = p.length + (recB b ++ Ah l).length
   rw [List.length_append, DI]
   omega
theorem KG_ (l : List Nat) (f k : Nat) (hs : List Hd) (bad : Nat) (h : Cn l k = false) : Cr l f k hs bad = (hs, bad, k, CK l k) := by
 cases f with
 | zero => rfl
 | succ f =>
   rw [Cr, h]
   rfl
theorem TD : ∀ l : List (List Nat), l.length ≤ (Ah l).length
 | [] => Nat.le_refl _
 | b :: l => by
   have := TD l
   show l.length + 1 ≤ (recB b ++ Ah l).length
   rw [List.length_append, DI]
   omega
theorem YT (l : List (List Nat)) (y : List Nat) (hf : Fit l) (hno : Cn (Ah l ++ y) (Ah l).length = false) : Eb (Ah l ++ y) = (A8 0 l, 0, (Ah l).length, CK (Ah l ++ y) (Ah l).length) := by
 have h := Un l [] y ((Ah l ++ y).length - l.length) [] 0 hf
 simp -implicitDefEqProofs only [List.nil_append, List.length_nil, Nat.zero_add] at h
 have hl := TD l
 have hle : l.length ≤ (Ah l ++ y).length := by rw [List.length_append]; omega
 rw [Nat.sub_add_cancel hle, KG_ _ _ _ _ _ hno] at h
 exact h
theorem VT {l : List Nat} {k : Nat} (h : l.length < k + 6) : Cn l k = false := by
 unfold Cn
 rw [decide_eq_false (by omega)]
 rfl
theorem Xz (l : List (List Nat)) (hf : Fit l) : Eb (Ah l) = (A8 0 l, 0, (Ah l).length, 0) := by
 have h := YT l [] hf (by rw [List.append_nil]; exact VT (by omega))
 rw [List.append_nil] at h
 rw [h]
 unfold CK
 rw [if_pos rfl]
theorem PE : ∀ (l m : List (List Nat)), Ah (l ++ m) = Ah l ++ Ah m
 | [], _ => rfl
 | b :: l, m => by show recB b ++ Ah (l ++ m) = (recB b ++ Ah l) ++ Ah m; rw [PE l m, List.append_assoc]
theorem PQ : ∀ (l m : List (List Nat)) (k : Nat), A8 k (l ++ m) = A8 k l ++ A8 (k + (Ah l).length) m
 | [], _, _ => rfl
 | b :: l, m, k => by
   show (idB b, k, b.length) :: A8 (k + (recB b).length) (l ++ m) = ((idB b, k, b.length) :: A8 (k + (recB b).length) l) ++ A8 (k + (recB b ++ Ah l).length) m
   rw [PQ l m, List.length_append, List.cons_append, Nat.add_assoc k]
theorem DV : ∀ (l : List (List Nat)) (k : Nat), (A8 k l).length = l.length
 | [], _ => rfl
 | b :: l, k => by show (A8 (k + (recB b).length) l).length + 1 = l.length + 1; rw [DV l]
theorem JD : ∀ (l : List (List Nat)) (k : Nat), ∀ h ∈ A8 k l, h.1.length = 16
 | [], _, h, hh => by cases hh
 | b :: l, k, h, hh => by
   rcases List.mem_cons.1 hh with rfl | hh
   · exact B1 b
   · exact JD l _ h hh
theorem Ol_ {L : List (List Nat)} {w : Nat} (hw : w < L.length) : (A8 0 L)[w]? = some (idB L[w], (Ah (L.take w)).length, L[w].length) := by
 have e : L = L.take w ++ L[w] :: L.drop (w + 1) := by rw [List.getElem_cons_drop, List.take_append_drop]
 conv => lhs; rw [e, PQ]
 have hl : (A8 0 (L.take w)).length = w := by rw [DV, List.length_take]; omega
 rw [List.getElem?_append_right (by omega), hl, Nat.sub_self, Nat.zero_add]
 rfl
theorem P8 : ∀ {l : List (List Nat)}, (∀ x ∈ l, x.length ≤ 1024) → (Ah l).length ≤ l.length * 1050
 | [], _ => by simp [Ah]
 | b :: l, h => by
   have h1 := P8 (l := l) fun x hx => h x (by simp [hx])
   have h2 := h b (by simp)
   show (recB b ++ Ah l).length ≤ (l.length + 1) * 1050
   rw [List.length_append, DI]
   omega
section
variable {parts : List (Value × List Nat)} {b o c : Nat}
theorem Iy_ {F : Nat → Prop} (hF : ∀ x, Cz b o parts x → F x) {Q : Value × FrameMode → St → Prop} {s0 : St} (hb0 : s0.lim ≤ s0.next) (hcx : s0.cx = cxN) (hp : Parts s0 b o parts) (hlt : ∀ p ∈ parts, ∀ x, BsF p.1 x → x < s0.next) (hby : ∀ p ∈ parts, Byt p.2) {i n : Nat} {tm : T Value} {s : St} {td : List Item} {vb ve vh : Value} {b1 b2 b3 : Nat} (hi : i < parts.length) (h20 : i < 21) (hn : 60200 ≤ n) (hT : skim 64 td = EH) (hx : Ext F Non s0 s) (I : AlI s0 parts b o c i tm s vb ve vh b1 b2 b3)
   (q1 : (parts[i].2.length = 0 ∨ 1024 < parts[i].2.length) → ∀ s1, Ext F Non s0 s1 → Q (.tuple #[.slice none 0 0, .slice none 0 0, .slice none 0 0, .bool false], .run) s1)
   (q2 : 1 ≤ parts[i].2.length → parts[i].2.length ≤ 1024 → ∀ (n1 : Nat) (tm1 : T Value) (s1 : St) (td1 : List Item) (vb1 ve1 vh1 : Value) (b11 b21 b31 : Nat), n - 40 ≤ n1 → skim 64 td1 = EH → Ext F Non s0 s1 → T.get tm1 9 = T.get tm 9 → AlI s0 parts b o c (i + 1) tm1 s1 vb1 ve1 vh1 b11 b21 b31 → W (runF envS n1 ⟨30, DL, Bx, tm1, td1, .run, .normal, none⟩) s1 Q) :
   W (runF envS n ⟨30, DL, Bx, tm, td, .run, .normal, none⟩) s Q := by
 refine KC_ hF hb0 hcx hp hlt hby hi (by omega) hT hx I.t0 I.t11 q1 fun hz1 hz2 n1 tm1 s1 td1 w C hn1 hT1 x1 hk e12 e13 hC oC hw hwn => ?_
 have hb : s.lim ≤ s.next := hx.bnd hb0
 have hx1 : Ext F Non s0 s1 := hx.step x1 hb0 (fun _ _ h => h) fun _ h => h.elim
 have hn0 : s0.next ≤ s.next := hx.nxt
 have hn1' : s.next ≤ s1.next := x1.nxt
 refine UF_ hF hb0 hp hi h20 (by omega) hT1 hx1 ((hk 0 (by simp)).trans I.t0) ((hk 6 (by simp)).trans I.t6) ((hk 8 (by simp)).trans I.t8) ((hk 11 (by simp)).trans I.t11) e13 (I.mb.ext0 x1) (I.mh.ext0 x1) (by omega) oC I.n3 fun n2 tm2 s2 td2 vh1 b31 hn2 hT2 x2 hk2 e8 hb31 mh2 => ?_
 have hl3 : ∀ x, MkF 18 i b3 x → s0.next ≤ x ∧ x < s.next := fun x h => ⟨by have h1 := h.2.1; have := I.n3; omega, I.mh.lt x h⟩
 have hl1 : ∀ x, MkF 1 (Ah (chs parts i)).length b1 x → s0.next ≤ x ∧ x < s.next := fun x h => ⟨by have h1 := h.2.1; have := I.n1; omega, I.mb.lt x h⟩
 have hl2 : ∀ x, MkF 1 i b2 x → s0.next ≤ x ∧ x < s.next := fun x h => ⟨by have h1 := h.2.1; have := I.n2; omega, I.me.lt x h⟩
 have hn2' : s1.next ≤ s2.next := x2.nxt
 have hx2 : Ext F Non s0 s2 := hx1.step x2 hb0 (fun x hx h => h.elim id fun h => by omega) fun x h => (hl3 x h).1
 have mb2 : MkS s2 1 (Ah (chs parts i)).length (u8l (Ah (chs parts i))) vb b1 := (I.mb.ext0 x1).ext x2 fun x h => I.d13 x h
 have me2 : MkS s2 1 i (D1 (Cw 0 (chs parts i))) ve b2 := (I.me.ext0 x1).ext x2 fun x h => I.d23 x h
 have hw2 : Bn s2 w (recB parts[i].2) := hw.ext x2 fun x hx h => by
   have h1 := hwn x hx
   have h2 := (hl3 x h).2
   omega
 have hrl := DI parts[i].2
 have hch : (chs parts i).length ≤ i := by unfold chs; rw [List.length_map, List.length_take]; omega
 have hrs : (Ah (chs parts i)).length ≤ 22050 := by
   have h1 : (Ah (chs parts i)).length ≤ (chs parts i).length * 1050 := P8 fun x hx => by
     obtain ⟨p, hp, rfl⟩ := List.mem_map.1 hx
     exact (I.sm p hp).2
   have h2 : (chs parts i).length * 1050 ≤ 21 * 1050 := Nat.mul_le_mul_right _ (by omega)
   omega
 have k6 : T.get tm2 6 = some vb := (hk2 6 (by decide)).trans ((hk 6 (by simp)).trans I.t6)
 have k12 : T.get tm2 12 = some w := (hk2 12 (by decide)).trans e12
 refine Un_.w hT2 (by omega) ?_
 simp -implicitDefEqProofs only [TQ, Ad, W_oS, Aa, W_mv, Ac, Ap, Al, Ak, k6, k12, E5]
 refine W.appU (hx2.bnd hb0) Ic mb2 (hw2.bs.src.g) (by omega) (by decide) (by decide) (by omega) (by rw [A0, Nat.mul_one]) (BT _) fun s3 vb1 b11 hb11 mb3 x3 => ?_
 have hn3' : s2.next ≤ s3.next := x3.nxt
 have hx3 : Ext F Non s0 s3 := hx2.step x3 hb0 (fun x hx h => by
   rcases h with h | h
   · have := hwn x h; omega
   · have := (hl1 x h).1; omega) fun x h => (hl1 x h).1
 have eL : Ah (chs parts (i + 1)) = Ah (chs parts i) ++ recB parts[i].2 := by rw [Sg hi, QW]
 have eU : u8l (Ah (chs parts i)) ++ u8l (recB parts[i].2) = u8l (Ah (chs parts (i + 1))) := by rw [eL]; exact List.map_append.symm
 have eN : (Ah (chs parts i)).length + (recB parts[i].2).length = (Ah (chs parts (i + 1))).length := by rw [eL, List.length_append]
 rw [eU, eN] at mb3
 try simp -implicitDefEqProofs only [Ad, W_oS, W_on, Aa, W_mv, Ac, Bb, T.get_set, Ap, Al, Bj, Bd, Ak, AW, reduceIte, AX, BH, By, BL, Bg, A7, Bh, Bz, AV, Bu, Nat.reduceEqDiff, reduceCtorEq, ↓reduceIte]
 have k7 : T.get tm2 7 = some ve := (hk2 7 (by decide)).trans ((hk 7 (by simp)).trans I.t7)
 refine Uu_.w JH_ (by omega) ?_
 simp -implicitDefEqProofs only [XF, Ad, W_oS, Aa, W_mv, Ac, T.get_set, Ap, Al, Bj, Bd, Ak, reduceIte, Nat.reduceEqDiff, ↓reduceIte, k7]
 rw [mb3.len A1]
 try simp -implicitDefEqProofs only [Ad, W_oS, W_on, Aa, W_mv, Ac, Bb, T.get_set, Ap, Al, Bj, Bd, Ak, AW, reduceIte, AX, BH, By, BL, Bg, A7, Bh, Bz, AV, Bu, Nat.reduceEqDiff, reduceCtorEq, ↓reduceIte]
 have me3 : MkS s3 1 i (D1 (Cw 0 (chs parts i))) ve b2 := me2.ext x3 fun x h h' => I.d12 x h' h
 refine W.buildS (hx3.bnd hb0) (r := [.int .i64 ((Ah (chs parts (i + 1))).length : Nat)]) TS_ (by decide) rfl (BD (by decide)) fun s4 n4 x4 o4 => ?_
 have n4' : s4.next = s3.next + 2 := n4
 have hx4 : Ext F Non s0 s4 := hx3.step x4 hb0 (fun _ _ h => h.elim) fun _ h => h.elim
 have hsrc : SrcG s4 1 8 false [.int .i64 0] (.slice (some ⟨s3.next, 0, none⟩) 1 1) 1 [.int .i64 ((Ah (chs parts (i + 1))).length : Nat)] (In s3.next 0 (1 * 1)) := (KG o4.row rfl).g
 try simp -implicitDefEqProofs only [E5]
 refine W.appU (hx4.bnd hb0) Xi_ (me3.ext0 x4) hsrc (by decide) (by decide) (by decide) (by omega) rfl rfl fun s5 ve1 b21 hb21 me5 x5 => ?_
 have hx5 : Ext F Non s0 s5 := hx4.step x5 hb0 (fun x hx h => by
   rcases h with h | h
   · have := h.1; have := hx3.nxt; omega
   · have := (hl2 x h).1; omega) fun x h => (hl2 x h).1
 have hd : Cw 0 (chs parts (i + 1)) = Cw 0 (chs parts i) ++ [(Ah (chs parts (i + 1))).length] := by
   rw [eL, List.length_append, Sg hi, TV, Nat.zero_add]
 have eE : D1 (Cw 0 (chs parts i)) ++ [.int .i64 ((Ah (chs parts (i + 1))).length : Nat)] = D1 (Cw 0 (chs parts (i + 1))) := by
   rw [hd]; unfold D1; rw [List.map_append]; rfl
 rw [eE] at me5
 have mb5 : MkS s5 1 (Ah (chs parts (i + 1))).length (u8l (Ah (chs parts (i + 1)))) vb1 b11 := (mb3.ext0 x4).ext x5 fun x h h' => by
   have h1 := h.2.1
   have h2 := (hl2 x h').2
   omega
 have mh5 : MkS s5 18 (i + 1) (BA (A8 0 (chs parts (i + 1)))) vh1 b31 := ((mh2.ext x3 fun x h h' => by
   have h1 := h.2.1
   have h2 := (hl1 x h').2
   omega).ext0 x4).ext x5 fun x h h' => by
   have h1 := h.2.1
   have h2 := (hl2 x h').2
   omega
 try simp -implicitDefEqProofs only [Ad, W_oS, W_on, Aa, W_mv, Ac, Bb, T.get_set, Ap, Al, Bj, Bd, Ak, AW, reduceIte, AX, BH, By, BL, Bg, A7, Bh, Bz, AV, Bu, Nat.reduceEqDiff, reduceCtorEq, ↓reduceIte]
 have ei : wrap64 ((i : Nat) + 1 : Int) = ((i + 1 : Nat) : Int) := by
   rw [Bl (by omega) (by omega)]; simp
 have k11 : T.get tm2 11 = some (.int .i64 (i : Nat)) := (hk2 11 (by decide)).trans ((hk 11 (by simp)).trans I.t11)
 have k0 : T.get tm2 0 = some (.slice (some ⟨b, o, none⟩) parts.length c) := (hk2 0 (by decide)).trans ((hk 0 (by simp)).trans I.t0)
 refine SY_.w Lw_ (by omega) ?_
 simp -implicitDefEqProofs only [AH_, Ad, W_oS, Aa, W_mv, Ac, T.get_set, reduceIte, Nat.reduceEqDiff, ↓reduceIte, BY, k11, ei]
 refine q2 hz1 hz2 _ _ s5 _ vb1 ve1 vh1 b11 b21 b31 (by omega) TZ_ hx5 (by simp [T.get_set, hk2 9 (by decide), hk 9 (by simp)]) ⟨by simp [T.get_set, k0], by simp [T.get_set], by simp [T.get_set], by simp [T.get_set, e8], by simp [T.get_set], mb5, me5, mh5, by omega, by omega, by omega, fun x h h' => ?_, fun x h h' => ?_, fun x h h' => ?_, fun p hp' => ?_⟩
 · have h1 := (mb3.ext0 x4).lt x h
   have h2 := h'.2.1
   omega
 · have h1 := mh2.lt x h'
   have h2 := h.2.1
   omega
 · have h1 := mh2.lt x h'
   have h2 := h.2.1
   omega
 · rw [List.take_succ_eq_append_getElem hi] at hp'
   rcases List.mem_append.1 hp' with h | h
   · exact I.sm p h
   · rw [List.mem_singleton.1 h]; exact ⟨hz1, hz2⟩
end
section
variable {parts : List (Value × List Nat)} {b o c : Nat}
structure AlR (s0 : St) (parts : List (Value × List Nat)) (s : St) (vb ve vh : Value) (b1 b2 b3 : Nat) : Prop where
  mb : MkS s 1 (Ah (parts.map (·.2))).length (u8l (Ah (parts.map (·.2)))) vb b1
  me : MkS s 1 parts.length (D1 (Cw 0 (parts.map (·.2)))) ve b2
  mh : MkS s 18 parts.length (BA (A8 0 (parts.map (·.2)))) vh b3
  n1 : s0.next ≤ b1
  n2 : s0.next ≤ b2
  n3 : s0.next ≤ b3
  d12 : ∀ x, MkF 1 (Ah (parts.map (·.2))).length b1 x → ¬ MkF 1 parts.length b2 x
  d13 : ∀ x, MkF 1 (Ah (parts.map (·.2))).length b1 x → ¬ MkF 18 parts.length b3 x
  d23 : ∀ x, MkF 1 parts.length b2 x → ¬ MkF 18 parts.length b3 x
  sm : ∀ p ∈ parts, 1 ≤ p.2.length ∧ p.2.length ≤ 1024
  le : parts.length ≤ 20
  tt : tot parts ≤ 4000
theorem Dy_ {F : Nat → Prop} (hF : ∀ x, Cz b o parts x → F x) {Q : Value × FrameMode → St → Prop} {s0 : St} (hb0 : s0.lim ≤ s0.next) (hcx : s0.cx = cxN) (hp : Parts s0 b o parts) (hlt : ∀ p ∈ parts, ∀ x, BsF p.1 x → x < s0.next) (hby : ∀ p ∈ parts, Byt p.2) {z : Int} (hle : parts.length ≤ 20) (hz : Iy parts (min parts.length 21) z) (hz4 : z ≤ 4000)
   (q1 : ∀ s1, Ext F Non s0 s1 → Q (.tuple #[.slice none 0 0, .slice none 0 0, .slice none 0 0, .bool false], .run) s1)
   (q2 : ∀ s1 vb ve vh b1 b2 b3, Ext F Non s0 s1 → AlR s0 parts s1 vb ve vh b1 b2 b3 → Q (.tuple #[vb, ve, vh, .bool true], .run) s1) :
   ∀ (k i n : Nat) (tm : T Value) (s : St) (td : List Item) (vb ve vh : Value) (b1 b2 b3 : Nat), i + k = parts.length → 60300 + 40 * k ≤ n → skim 64 td = EH → Ext F Non s0 s → T.get tm 9 = some (.int .i64 z) → AlI s0 parts b o c i tm s vb ve vh b1 b2 b3 →
   W (runF envS n ⟨30, DL, Bx, tm, td, .run, .normal, none⟩) s Q := by
 intro k
 induction k with
 | zero =>
   intro i n tm s td vb ve vh b1 b2 b3 hi hn hT hx h9 I
   have ei : i = parts.length := by omega
   subst ei
   refine QA.w hT (by omega) ?_
   simp -implicitDefEqProofs only [Mo, Ad, W_oS, Aa, W_mv, Ac, Ap, Al, Ak, Bm, I.t0, I.t11, BS Ca]
   refine W.cond (v := false) PF Q9 (by simp [T.get_set]) (by omega) (fun h => by cases h) fun _ => ?_
   refine V0.w AZ_ (by omega) ?_
   simp -implicitDefEqProofs only [RK, Aa, W_mv, Ac, T.get_set, reduceIte, Nat.reduceEqDiff, ↓reduceIte, I.t6, I.t7, I.t8]
   refine W.end' (rs := [2, 3, 4, 5]) (vs := [vb, ve, vh, .bool true]) Zj (.inl Za) (by omega) Gk I5 (hx.cx.trans hcx) (by simp [T.get_set]) ?_
   have et : parts.take parts.length = parts := List.take_length
   have ec : chs parts parts.length = parts.map (·.2) := by unfold chs; rw [et]
   have sm := I.sm
   rw [et] at sm
   have hm : min parts.length 21 = parts.length := by omega
   rw [hm] at hz
   have hz' := hz fun p hp' => (sm p (by rwa [et] at hp')).2
   rw [et] at hz'
   have mb := I.mb
   have me := I.me
   have mh := I.mh
   have d12 := I.d12
   have d13 := I.d13
   have d23 := I.d23
   rw [ec] at mb me mh d12 d13
   exact q2 s vb ve vh b1 b2 b3 hx ⟨mb, me, mh, I.n1, I.n2, I.n3, d12, d13, d23, sm, hle, by omega⟩
 | succ k ih =>
   intro i n tm s td vb ve vh b1 b2 b3 hi hn hT hx h9 I
   refine Iy_ hF hb0 hcx hp hlt hby (by omega) (by omega) (by omega) hT hx I (fun _ => q1) fun _ _ n1 tm1 s1 td1 vb1 ve1 vh1 b11 b21 b31 hn1 hT1 hx1 e9 I1 => ?_
   exact ih (i + 1) n1 tm1 s1 td1 vb1 ve1 vh1 b11 b21 b31 (by omega) (by omega) hT1 hx1 (e9.trans h9) I1
theorem Hv_ {n : Nat} {s : St} {Q : Value → St → Prop} (hbd : s.lim ≤ s.next) (hp : Parts s b o parts) (hlt : ∀ p ∈ parts, ∀ x, BsF p.1 x → x < s.next) (hby : ∀ p ∈ parts, Byt p.2) (hn : 62000 ≤ n)
   (q1 : ∀ s1, Ext (Cz b o parts) Non s s1 → Q (.tuple #[.slice none 0 0, .slice none 0 0, .slice none 0 0, .bool false]) s1)
   (q2 : ∀ s1 vb ve vh b1 b2 b3, Ext (Cz b o parts) Non s s1 → AlR s parts s1 vb ve vh b1 b2 b3 → Q (.tuple #[vb, ve, vh, .bool true]) s1) :
   W (Au envS (runF envS n) 30 [.slice (some ⟨b, o, none⟩) parts.length c]) s Q := by
 refine ZL fun tm h0 => ?_
 have hp0 : Parts (s.cxN cxN) b o parts := hp.same rfl rfl
 refine Wq.w rfl (by omega) ?_
 simp -implicitDefEqProofs only [R5, Aa, W_mv, Ac]
 refine Zt.w Tg (by omega) ?_
 simp -implicitDefEqProofs only [QG, Aa, W_mv, Ac]
 refine SL.w Yh (by omega) ?_
 simp -implicitDefEqProofs only [RF, Aa, W_mv, Ac]
 refine SV.w W4 (by omega) ?_
 simp -implicitDefEqProofs only [RV, Aa, W_mv, Ac]
 refine SF.w We (by omega) ?_
 simp -implicitDefEqProofs only [Pq, Aa, W_mv, Ac]
 refine VO.w Xh (by omega) ?_
 simp -implicitDefEqProofs only [PO, Aa, W_mv, Ac]
 refine CU_ (F := Cz b o parts) (fun _ h => h) (s0 := s.cxN cxN) hbd hp0 (min parts.length 21) 0 _ 0 _ _ _ (by omega) (by omega) ZD (Ext.refl _) rfl rfl (fun _ => by simp [tot]) (by simp [T.get_set, h0]; rfl) (by simp [T.get_set]) (by simp [T.get_set]) (by simp [T.get_set]) (by simp [T.get_set]) (by simp [T.get_set]) fun n1 z tm1 s1 td1 hn1 hT1 hx1 hm1 hnx1 hz g0 g6 g7 g8 g9 => ?_
 have no : ∀ (n2 : Nat) (tm2 : T Value), 10 ≤ n2 → W (runF envS n2 ⟨30, DL, Bx, tm2, brT Fu, .run, .normal, none⟩) s1 fun p s1 => Q p.1 (s1.cxN s.cx) := fun n2 tm2 hn2 => by
   refine FL_.w Ha_ (by omega) ?_
   simp -implicitDefEqProofs only [Vf, Aa, W_mv, Ac]
   refine W.end' (rs := [2, 3, 4, 5]) (vs := [.slice none 0 0, .slice none 0 0, .slice none 0 0, .bool false]) EL_ (.inl Ne_) (by omega) Gk I5 hx1.cx (by simp [T.get_set]) ?_
   exact q1 _ hx1.cx'
 refine V6.w hT1 (by omega) ?_
 simp -implicitDefEqProofs only [Sv, Ad, W_oS, W_on, Aa, W_mv, Ac, Ap, Al, Ak, AX, A7, AV, Dk, g0, g9, BS Ca]
 by_cases h20 : 20 < parts.length
 · have e1 : (decide ((20 : Int) < ((parts.length : Nat) : Int))) = true := decide_eq_true (by omega)
   simp -implicitDefEqProofs only [e1, Aa, reduceIte, By, Bz, ↓reduceIte]
   refine W.cond (v := true) L0 JJ (by simp [T.get_set]) (by omega) (fun _ => ?_) fun h => by cases h
   exact no _ _ (by omega)
 · have e1 : (decide ((20 : Int) < ((parts.length : Nat) : Int))) = false := decide_eq_false (by omega)
   simp -implicitDefEqProofs only [e1, W_oS, Aa, reduceIte, Bg, Bh, reduceCtorEq, ↓reduceIte, Dk]
   by_cases h4 : 4000 < z
   · refine W.cond (v := true) L0 JJ (by simp [T.get_set]; exact h4) (by omega) (fun _ => ?_) fun h => by cases h
     exact no _ _ (by omega)
   · refine W.cond (v := false) L0 JJ (by simp [T.get_set]; omega) (by omega) (fun h => by cases h) fun _ => ?_
     refine Ts.w Yp (by omega) ?_
     simp -implicitDefEqProofs only [QK, Aa, W_mv, Ac]
     refine Dy_ (c := c) (F := Cz b o parts) (fun _ h => h) (s0 := s.cxN cxN) hbd rfl hp0 hlt hby (z := z) (by omega) hz (by omega) (fun s2 x2 => q1 _ x2.cx') (fun s2 vb ve vh b1 b2 b3 x2 R => q2 _ vb ve vh b1 b2 b3 x2.cx' ⟨R.mb.same rfl rfl, R.me.same rfl rfl, R.mh.same rfl rfl, R.n1, R.n2, R.n3, R.d12, R.d13, R.d23, R.sm, R.le, R.tt⟩) parts.length 0 _ _ _ _ (.slice none 0 0) (.slice none 0 0) (.slice none 0 0) s.next s.next s.next (by omega) (by omega) Yl hx1 (by simp [T.get_set, g9]) ⟨by simp [T.get_set, g0], by simp [T.get_set, g6], by simp [T.get_set, g7], by simp [T.get_set, g8], by simp [T.get_set], .inl ⟨rfl, rfl, rfl⟩, .inl ⟨rfl, rfl, rfl⟩, .inl ⟨rfl, rfl, rfl⟩, Nat.le_refl _, Nat.le_refl _, Nat.le_refl _, fun x h _ => by have := h.1; simp [chs, Ah] at this, fun x h _ => by have := h.1; simp [chs, Ah] at this, fun x h _ => by have := h.1; omega, fun p h => by simp at h⟩
end
section
variable {E : Env} {s : St} {t : Nat} {xo yo : Operand}
theorem UK_ (m n : Nat) (hn : 1 ≤ n) : Cl.get (aBin E .rem t xo yo) (.int .i64 (.negSucc m)) (.int .i64 (n : Nat)) s = .some (.int .i64 ((Int.negSucc m).tmod (n : Nat))) s := by
 show A6 E .rem t xo yo (.int .i64 (.negSucc m)) (.int .i64 (n : Nat)) s = _
 show M.on (semP E.P (do eqGuard .rem t xo yo (.int .i64 (.negSucc m)) (.int .i64 (n : Nat)); binOp .rem t (.int .i64 (.negSucc m)) (.int .i64 (n : Nat)))) pV s = _
 have e : semP E.P (do eqGuard .rem t xo yo (.int .i64 (.negSucc m)) (.int .i64 (n : Nat)); binOp .rem t (.int .i64 (.negSucc m)) (.int .i64 (n : Nat))) = some (.int .i64 ((Int.negSucc m).tmod (n : Nat))) := by
   show semP E.P (Op.intDiv .rem .i64 (.negSucc m) (n : Nat)) = _
   unfold Op.intDiv
   rw [if_neg (by omega)]
   rfl
 rw [e]
 generalize (Int.negSucc m).tmod (n : Nat) = y
 have hp : ∀ y : Int, pV (.int .i64 y) s = .some (.int .i64 y) s := fun y => by
   cases y with
   | ofNat k => first | rfl | (cases k <;> rfl)
   | negSucc k => first | rfl | (cases k <;> rfl)
 exact hp y
theorem EM_ {x : Int} {n : Nat} (hn : 1 ≤ n) (Q : Value → St → Prop) : W (Cl.get (aBin E .rem t xo yo) (.int .i64 x) (.int .i64 (n : Nat))) s Q = Q (.int .i64 (x.tmod (n : Nat))) s := by
 cases x with
 | ofNat m => exact Bc (Wo m n hn xo yo)
 | negSucc m => exact Bc (UK_ m n hn)
end
theorem Ss_ {n m : Nat} {x : Int} {s : St} {Q : Value → St → Prop} (hm : 1 ≤ m) (hm2 : m ≤ 1000000) (hn : 20 ≤ n) (q : ∀ r : Nat, r < m → Q (.int .i64 (r : Nat)) s) : W (Au envS (runF envS n) 33 [.int .i64 x, .int .i64 (m : Nat)]) s Q := by
 refine Et_ fun tm h0 h1 => ?_
 refine Vl_.w rfl (by omega) ?_
 simp -implicitDefEqProofs only [UI, Aa, W_mv, Ac]
 refine Fn_.w LA_ (by omega) ?_
 simp -implicitDefEqProofs only [UD, Ad, W_oS, Aa, W_mv, Ac, T.get_set, reduceIte, Nat.reduceEqDiff, ↓reduceIte, Bm, h1]
 refine W.cond (v := false) Wp_ Rj_ (by simp [T.get_set]; omega) (by omega) (fun h => by cases h) fun _ => ?_
 refine PD_.w LD_ (by omega) ?_
 simp -implicitDefEqProofs only [Vo, Ad, W_oS, Aa, W_mv, Ac, T.get_set, reduceIte, Nat.reduceEqDiff, reduceCtorEq, ↓reduceIte, h0, h1, EM_ hm]
 have b1 : x.tmod (m : Nat) < (m : Nat) := Int.tmod_lt_of_pos x (by omega)
 have b2 : -(m : Nat) < x.tmod (m : Nat) := by
   have := Int.lt_tmod_of_pos x (b := (m : Nat)) (by omega)
   omega
 generalize x.tmod (m : Nat) = y at *
 refine IS_.w Fv_ (by omega) ?_
 simp -implicitDefEqProofs only [VL, Ad, W_oS, Aa, W_mv, Ac, T.get_set, reduceIte, ↓reduceIte, Bm]
 have fin : ∀ (n1 : Nat) (tm1 : T Value) (td : List Item) (r : Nat), 10 ≤ n1 → r < m → skim 64 td = Gw → T.get tm1 0 = some (.int .i64 (r : Nat)) → W (runF envS n1 ⟨33, SZ_, EZ, tm1, td, .run, .normal, none⟩) (s.cxN cxN) fun p s1 => Q p.1 (s1.cxN s.cx) := fun n1 tm1 td r hn1 hr hT g0 => by
   refine FE_.w hT (by omega) ?_
   simp -implicitDefEqProofs only [YW, Aa, W_mv, Ac, g0]
   refine W.end' (rs := [4]) (vs := [.int .i64 (r : Nat)]) Wb_ (.inl VH_) (by omega) UT IO_ rfl (by simp [T.get_set]) ?_
   exact q r hr
 by_cases hy : y < 0
 · refine W.cond (v := true) Bl_ VS (by simp [T.get_set]; exact hy) (by omega) (fun _ => ?_) fun h => by cases h
   refine VC_.w Xl_ (by omega) ?_
   simp -implicitDefEqProofs only [Yu, Ad, W_oS, Aa, W_mv, Ac, T.get_set, reduceIte, Nat.reduceEqDiff, reduceCtorEq, ↓reduceIte, BY, h1]
   obtain ⟨r, hr⟩ : ∃ r : Nat, y + (m : Nat) = (r : Nat) := ⟨(y + (m : Nat)).toNat, by omega⟩
   rw [Bl (by omega) (by omega), hr]
   exact fin _ _ _ r (by omega) (by omega) EW_ (by simp [T.get_set])
 · refine W.cond (v := false) Bl_ VS (by simp [T.get_set]; omega) (by omega) (fun h => by cases h) fun _ => ?_
   obtain ⟨r, hr⟩ : ∃ r : Nat, y = (r : Nat) := ⟨y.toNat, by omega⟩
   subst hr
   exact fin _ _ _ r (by omega) (by omega) Kn_ (by simp [T.get_set])
section
variable {E : Env} {s s' : St} {t : Nat} {xo yo : Operand}
theorem MkS.bs {l : List Nat} {v : Value} {b : Nat} (h : MkS s 1 l.length (u8l l) v b) (hn : l.length < capU) : Bs s v l := by
 rcases h with ⟨rfl, h0, _⟩ | ⟨h, _⟩
 · exact .inl ⟨rfl, List.eq_nil_of_length_eq_zero h0⟩
 · refine .inr ⟨b, 0, _, h.val, ?_, H1 hn (by decide), fun i u e => (h.own i u e).at'⟩
   rw [Nat.mul_add_mod, Nat.mod_eq_of_lt hn]
   exact Nat.le_refl _
theorem MkS.bsF {n : Nat} {l : List Value} {v : Value} {b : Nat} (h : MkS s 1 n l v b) : ∀ x, BsF v x → MkF 1 n b x := by
 intro x hx
 rcases h with ⟨rfl, _, _⟩ | ⟨h, h0⟩
 · exact hx.elim
 · rw [h.val] at hx
   have h1 : b + 0 ≤ x := hx.1
   have h2 : x < b + 0 + n := hx.2
   exact ⟨h0, by omega, by omega⟩
theorem MkS.hsR {hs : List Hd} {n : Nat} {v : Value} {b : Nat} (h : MkS s 18 n (BA hs) v b) (hn : n = hs.length) : HsR s v hs := by
 subst hn
 rcases h with ⟨rfl, h0, _⟩ | ⟨h, _⟩
 · exact .inl ⟨rfl, List.eq_nil_of_length_eq_zero h0⟩
 · exact .inr ⟨b, 0, _, h.val, fun i u e => (h.own i u e).at'⟩
theorem MkS.put {l : List Nat} {k x : Nat} {v : Value} {b : Nat} {G : Nat → Prop} (h : MkS s 1 l.length (u8l l) v b) (hk : k < l.length) (hn : s'.next = s.next) (e : Ext G (In b k 1) s s') (ho : Own s' b k (.int .u8 (x : Nat))) : MkS s' 1 (l.set k x).length (u8l (l.set k x)) v b := by
 rw [List.length_set]
 rcases h with ⟨_, h0, _⟩ | ⟨h, h0⟩
 · omega
 · refine .inr ⟨⟨h.val, fun i u hi => ?_, ?_, ?_, by rw [hn]; exact h.lt⟩, h0⟩
   · by_cases hik : i = k
     · subst hik
       unfold u8l at hi
       rw [List.getElem?_map, List.getElem?_set_self hk] at hi
       have : u = .int .u8 (x : Nat) := by injection hi with hi; exact hi.symm
       subst this
       rwa [Nat.zero_add]
     · have hi' : (u8l l)[i]? = some u := by
         unfold u8l at hi ⊢
         rw [List.getElem?_map, List.getElem?_set_ne (fun q => hik q.symm)] at hi
         rw [List.getElem?_map]
         exact hi
       exact (h.own i u hi').ext e fun q => by
         have h1 := In1.1 q
         omega
   · rw [A0, List.length_set, Nat.mul_one]
   · have hlt : b + l.length * 1 < s.next := h.lt
     rw [e.mem _ hlt fun q => by have h1 := In1.1 q; omega]
     exact h.tok
theorem MkS.get {l : List Nat} {k : Nat} {v : Value} {b : Nat} (h : MkS s 1 l.length (u8l l) v b) (hk : k < l.length) : ∃ c, v = .slice (some ⟨b, 0, none⟩) l.length c ∧ Own s b k (.int .u8 (l.getD k 0 : Nat)) := by
 rcases h with ⟨_, h0, _⟩ | ⟨h, h0⟩
 · omega
 · refine ⟨_, h.val, ?_⟩
   have := h.own k (.int .u8 (l.getD k 0 : Nat)) (by
     unfold u8l
     rw [List.getElem?_map, List.getElem?_eq_getElem hk, List.getD_eq_getElem?_getD, List.getElem?_eq_getElem hk]
     rfl)
   rwa [Nat.zero_add] at this
theorem MkS.hat {hs : List Hd} {n i : Nat} {v : Value} {b : Nat} (h : MkS s 18 n (BA hs) v b) (hn : n = hs.length) (h16 : ∀ h ∈ hs, h.1.length = 16) (hi : i < hs.length) : ∃ c, v = .slice (some ⟨b, 0, none⟩) n c ∧ (n < capU → c % capU = n ∧ CA c 18 = true) ∧ Row s b (0 + i * 18) (AP hs[i]) ∧ ∀ w, w ≤ hs.length → Row s b 0 (BA (hs.take w)) := by
 rcases h with ⟨_, h0, _⟩ | ⟨h, h0⟩
 · omega
 · refine ⟨_, h.val, fun hc => ⟨by rw [Nat.mul_add_mod, Nat.mod_eq_of_lt hc], H1 hc (by decide)⟩, fun j u e => ?_, fun w hw j u e => ?_⟩
   · have hj : j < 18 := by
       have := (List.getElem?_eq_some_iff.1 e).1
       rwa [Db (h16 _ (List.getElem_mem hi))] at this
     have := (h.own (i * 18 + j) u (by rw [Bb_ h16 hi hj]; exact e)).at'
     rwa [show 0 + (i * 18 + j) = 0 + i * 18 + j by omega] at this
   · refine (h.own j u ?_).at'
     have es : hs = hs.take w ++ hs.drop w := (List.take_append_drop w hs).symm
     rw [es, X3, List.getElem?_append_left (List.getElem?_eq_some_iff.1 e).1]
     exact e
end
theorem AO_ : Qt envS 22 = true := by kernel_rfl
theorem YC : PJ envS 9 = true := by kernel_rfl
theorem Kr_ {va vb : Value} {l : List Nat} {n : Nat} {s : St} {Q : Value → St → Prop} (hbd : s.lim ≤ s.next) (ha : Bs s va l) (hb : Bs s vb l) (hne : l ≠ []) (hn : 20 ≤ n)
   (q : ∀ s1, Ext (fun x => BsF va x ∨ BsF vb x) Non s s1 → s1.mem = s.mem → s1.next = s.next → Q (.bool true) s1) : W (Au envS (runF envS n) 19 [va, vb]) s Q := by
 refine OK_ fun tm h0 h1 => ?_
 have ha' : Bs (s.cxN cxN) va l := ha.same rfl rfl
 have hb' : Bs (s.cxN cxN) vb l := hb.same rfl rfl
 refine Fe_.w rfl (by omega) ?_
 simp -implicitDefEqProofs only [Yr, Aa, W_mv, Ac]
 refine GB_.w OX_ (by omega) ?_
 simp -implicitDefEqProofs only [ZN, Ad, W_oS, Aa, W_mv, Ac, T.get_set, reduceIte, Nat.reduceEqDiff, reduceCtorEq, ↓reduceIte, h0, h1]
 refine W.str ha' (.inl hne) AO_ YC fun sa ma na xa => ?_
 refine W.str (hb'.same ma na) (.inl hne) AO_ YC fun sb mb nb xb => ?_
 have hx : Ext (fun x => BsF va x ∨ BsF vb x) Non (s.cxN cxN) sb := (xa.weak hbd (fun _ _ h => .inl h) fun _ _ h => h).step xb hbd (fun _ _ h => .inr h) fun _ h => h.elim
 simp -implicitDefEqProofs only [JE_, beq_self_eq_true]
 refine W.end' (rs := [4]) (vs := [.bool true]) Dp_ (.inl Da_) (by omega) YV IH_ hx.cx (by simp [T.get_set]) ?_
 exact q _ hx.cx' (mb.trans ma) (nb.trans na)
theorem Q4 {L : List (List Nat)} {w : Nat} (hw : w < L.length) : Ah L = Ah (L.take w) ++ (recB L[w] ++ Ah (L.drop (w + 1))) := by
 have e : L = L.take w ++ L[w] :: L.drop (w + 1) := by rw [List.getElem_cons_drop, List.take_append_drop]
 conv => lhs; rw [e, PE]
 rfl
theorem KD_ {L : List (List Nat)} {w : Nat} (hw : w < L.length) (hf : Fit L) : CP (Ah L) (idB L[w], (Ah (L.take w)).length, L[w].length) = false ∧ hitB (Ah L) (idB L[w], (Ah (L.take w)).length, L[w].length) = true ∧ Co (Ah L) (Ah (L.take w)).length L[w].length = L[w] := by
 obtain ⟨h1, h2⟩ := hf L[w] (List.getElem_mem hw)
 have r := ZC (Ah (L.take w)) (Ah (L.drop (w + 1))) L[w] h1 h2
 rw [← Q4 hw] at r
 refine ⟨?_, ?_, r.body⟩
 · unfold CP CD
   have hl := r.len
   dsimp only
   rw [if_pos (by omega), r.ok, r.n, decide_eq_true rfl, decide_eq_true hl]
   rfl
 · unfold hitB
   rw [r.good, r.id, decide_eq_true rfl]
   rfl
def BV (L : List (List Nat)) (w : Nat) : Nat := (Ah (L.take w)).length
theorem GV_ {L : List (List Nat)} {w : Nat} (hw : w < L.length) : BV L (w + 1) = BV L w + (recB L[w]).length := by
 unfold BV
 rw [List.take_succ_eq_append_getElem hw, QW, List.length_append]
theorem piece (p b : List Nat) (m : Nat) (h1 : 1 ≤ b.length) (h2 : b.length ≤ 1024) (h0 : 0 < m) (hm : m < b.length + 26) : Cn (p ++ (recB b).take m) p.length = false ∧ CK (p ++ (recB b).take m) p.length = 1 := by
 have hlen : (p ++ (recB b).take m).length = p.length + m := by
   rw [List.length_append, List.length_take, DI]
   omega
 by_cases h6 : m < 6
 · refine ⟨VT (by omega), ?_⟩
   unfold CK
   rw [if_neg (by omega), if_pos (by omega)]
 · have e : (recB b).take m = BR b.length ++ (gput (idB b ++ b)).take (m - 6) := by
     unfold recB
     rw [List.take_append, Fd, List.take_of_length_le (by rw [Fd]; omega)]
   obtain ⟨e1, e2⟩ := Vy p ((gput (idB b ++ b)).take (m - 6)) b.length h2
   rw [← e] at e1 e2
   have hok : Cs (p ++ (recB b).take m) p.length = true := by
     unfold Cs
     rw [e1, e2, decide_eq_true ⟨h1, h2⟩, decide_eq_true rfl]
     rfl
   constructor
   · unfold Cn
     rw [e1, decide_eq_false (show ¬ p.length + 26 + b.length ≤ (p ++ (recB b).take m).length by omega), Bool.and_false]
   · unfold CK
     rw [if_neg (by omega), if_neg (by omega), hok]
     rfl
theorem XL_ {L : List (List Nat)} {w cut : Nat} (hf : Fit L) (hw : w ≤ L.length) (h1 : BV L w ≤ cut) (h2 : w = L.length ∨ cut < BV L (w + 1)) (hc : cut ≤ (Ah L).length) : Eb ((Ah L).take cut) = (A8 0 (L.take w), 0, BV L w, if BV L w = cut then 0 else 1) := by
 have hft : Fit (L.take w) := fun x hx => hf x (List.mem_of_mem_take hx)
 by_cases he : BV L w = cut
 · rw [if_pos he]
   have es : (Ah L).take cut = Ah (L.take w) := by
     have e : Ah L = Ah (L.take w) ++ Ah (L.drop w) := by
       rw [← PE, List.take_append_drop]
     rw [← he, e]
     exact List.take_left
   rw [es, Xz _ hft]
   rfl
 · rw [if_neg he]
   have hwl : w < L.length := by
     rcases h2 with h2 | h2
     · subst h2
       unfold BV at h1 he
       rw [List.take_length] at h1 he
       omega
     · rcases Nat.lt_or_ge w L.length with h | h
       · exact h
       · have : w = L.length := by omega
         subst this
         unfold BV at h1 he
         rw [List.take_length] at h1 he
         omega
   have h3 : cut < BV L (w + 1) := by
     rcases h2 with h2 | h2
     · omega
     · exact h2
   rw [GV_ hwl, DI] at h3
   obtain ⟨g1, g2⟩ := hf L[w] (List.getElem_mem hwl)
   have es : (Ah L).take cut = Ah (L.take w) ++ (recB L[w]).take (cut - BV L w) := by
     rw [Q4 hwl, List.take_append, List.take_of_length_le (show (Ah (L.take w)).length ≤ cut from h1)]
     congr 1
     rw [List.take_append, show cut - (Ah (L.take w)).length - (recB L[w]).length = 0 by
       rw [DI]
       unfold BV at h3
       omega, List.take_zero, List.append_nil]
     rfl
   obtain ⟨k1, k2⟩ := piece (Ah (L.take w)) L[w] (cut - BV L w) g1 g2 (by omega) (by omega)
   rw [es, YT _ _ hft k1, k2]
   rfl
end Go.Proofs.Ytofanlcjeohcjaa.Am
