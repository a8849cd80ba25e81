import Derived.Test.YtofanlcjeohcjaaMg18
namespace Go.Proofs.Ytofanlcjeohcjaa.Am
open Go.RowKit
theorem Aqv_ : elT envS 44 = some (1, 8, [.int .i64 0]) := by kernel_rfl
theorem Aqi_ : appT envS 44 44 = some (1, 8, false, [.int .i64 0]) := by kernel_rfl
def recsL : List (List Nat) → List Nat
  | [] => []
  | b :: l => recB b ++ recsL l
def endsL : Nat → List (List Nat) → List Nat
  | _, [] => []
  | k, b :: l => (k + (recB b).length) :: endsL (k + (recB b).length) l
def heldsL : Nat → List (List Nat) → List Hd
  | _, [] => []
  | k, b :: l => (idB b, k, b.length) :: heldsL (k + (recB b).length) l
theorem XR_ (x : List Nat) : ∀ l, recsL (l ++ [x]) = recsL l ++ recB x
 | [] => by show recB x ++ [] = _; rw [List.append_nil]; rfl
 | b :: l => by show recB b ++ recsL (l ++ [x]) = (recB b ++ recsL l) ++ recB x; rw [XR_ x l, List.append_assoc]
theorem Yl_ (x : List Nat) : ∀ (l : List (List Nat)) (k : Nat), endsL k (l ++ [x]) = endsL k l ++ [k + (recsL l).length + (recB x).length]
 | [], k => rfl
 | b :: l, k => by
   show (k + (recB b).length) :: endsL (k + (recB b).length) (l ++ [x]) = (k + (recB b).length) :: endsL (k + (recB b).length) l ++ [k + (recB b ++ recsL l).length + (recB x).length]
   rw [Yl_ x l, List.length_append, List.cons_append, Nat.add_assoc k]
theorem UI_ (x : List Nat) : ∀ (l : List (List Nat)) (k : Nat), heldsL k (l ++ [x]) = heldsL k l ++ [(idB x, k + (recsL l).length, x.length)]
 | [], k => rfl
 | b :: l, k => by
   show (idB b, k, b.length) :: heldsL (k + (recB b).length) (l ++ [x]) = (idB b, k, b.length) :: heldsL (k + (recB b).length) l ++ [(idB x, k + (recB b ++ recsL l).length, x.length)]
   rw [UI_ x l, List.length_append, List.cons_append, Nat.add_assoc k]
def intsV (l : List Nat) : List Value := l.map fun n => .int .i64 (n : Nat)
section
variable {parts : List (Value × List Nat)} {b o c : Nat}
def chs (parts : List (Value × List Nat)) (i : Nat) : List (List Nat) := (parts.take i).map (·.2)
theorem YK_ {i : Nat} (hi : i < parts.length) : chs parts (i + 1) = chs parts i ++ [parts[i].2] := by
 unfold chs
 rw [List.take_succ_eq_append_getElem hi, List.map_append]
 rfl
structure AlI (s0 : St) (parts : List (Value × List Nat)) (b o c i : Nat) (tm : T Value) (s : St) (vb ve vh : Value) (b1 b2 b3 : Nat) : Prop where
  t0 : T.get tm 0 = some (.slice (some ⟨b, o, none⟩) parts.length c)
  t6 : T.get tm 6 = some vb
  t7 : T.get tm 7 = some ve
  t8 : T.get tm 8 = some vh
  t11 : T.get tm 11 = some (.int .i64 (i : Nat))
  mb : MkS s 1 (recsL (chs parts i)).length (u8l (recsL (chs parts i))) vb b1
  me : MkS s 1 i (intsV (endsL 0 (chs parts i))) ve b2
  mh : MkS s 18 i (heldCs (heldsL 0 (chs parts i))) vh b3
  n1 : s0.next ≤ b1
  n2 : s0.next ≤ b2
  n3 : s0.next ≤ b3
  d12 : ∀ x, MkF 1 (recsL (chs parts i)).length b1 x → ¬ MkF 1 i b2 x
  d13 : ∀ x, MkF 1 (recsL (chs parts i)).length b1 x → ¬ MkF 18 i b3 x
  d23 : ∀ x, MkF 1 i b2 x → ¬ MkF 18 i b3 x
  sm : ∀ p ∈ parts.take i, 1 ≤ p.2.length ∧ p.2.length ≤ 1024
theorem AtX_ {id : List Nat} (h : id.length = 16) (a b : Nat) (s : St) (Q : Value → St → Prop) : W (aBuild envS 35 [(0, .agg (u8l id).toArray), (1, .int .i64 (a : Nat)), (2, .int .i64 (b : Nat))]) s Q = Q (.agg (heldC (id, a, b)).toArray) s := GY_ (XH_ h a b) Q
theorem Aqr_ {F : Nat → Prop} (hF : ∀ x, PartF b o parts x → F x) {Q : Value × FrameMode → St → Prop} {s0 : St} (hb0 : s0.lim ≤ s0.next) (hp : Parts s0 b o parts) {i n C : Nat} {tm : T Value} {s : St} {td : List Item} {vb vh : Value} {b1 b3 : Nat} (hi : i < parts.length) (hi20 : i < 21) (hn : 20 ≤ n) (hT : skim 64 td = CI_) (hx : Ext F Non s0 s)
   (t0 : T.get tm 0 = some (.slice (some ⟨b, o, none⟩) parts.length c)) (t6 : T.get tm 6 = some vb) (t8 : T.get tm 8 = some vh) (t11 : T.get tm 11 = some (.int .i64 (i : Nat))) (t13 : T.get tm 13 = some (.pointer (some ⟨C, 0, none⟩)))
   (mb : MkS s 1 (recsL (chs parts i)).length (u8l (recsL (chs parts i))) vb b1) (mh : MkS s 18 i (heldCs (heldsL 0 (chs parts i))) vh b3) (hC : s0.next ≤ C) (oC : OwnRow s C 0 (u8l (idB parts[i].2))) (n3 : s0.next ≤ b3)
   (q : ∀ (n1 : Nat) (tm1 : T Value) (s1 : St) (td1 : List Item) (vh1 : Value) (b31 : Nat), n - 1 ≤ n1 → skim 64 td1 = EY_ → Ext (fun x => F x ∨ s0.next ≤ x) (MkF 18 i b3) s s1 → (∀ k, k ≠ 8 → T.get tm1 k = T.get tm k) → T.get tm1 8 = some vh1 → s.next ≤ b31 → MkS s1 18 (i + 1) (heldCs (heldsL 0 (chs parts (i + 1)))) vh1 b31 → W (runF envS n1 ⟨30, Cc_, AJ_, tm1, td1, .run, .normal, none⟩) s1 Q) :
   W (runF envS n ⟨30, Cc_, AJ_, tm, td, .run, .normal, none⟩) s Q := by
 have hb : s.lim ≤ s.next := hx.bnd hb0
 have hps : Parts s b o parts := ⟨hp.row.ext0 hx, fun p h => (hp.bs p h).ext0 hx⟩
 obtain ⟨g1, g2⟩ := hps.get hi
 obtain ⟨pv, cv, ev⟩ := g2.sl
 rw [ev] at g1
 have hmem := List.getElem_mem hi
 have hFc : ∀ x, x = b + (o + i * 1) → F x := fun x h => hF _ (.inl ⟨by omega, by omega⟩)
 have hI16 := Bz_ parts[i].2
 have hIl : (u8l (idB parts[i].2)).length = 16 := by rw [Ar_]; exact hI16
 obtain ⟨pb, cb, eb⟩ := mb.sl
 refine Agd_.w hT (by omega) ?_
 simp -implicitDefEqProofs only [UL_, t0, t6, t8, t11, t13, Ce_, Ae_, Ah_, AC_, AG_, Ab_, AV_]
 refine W.dloadA Bn_ (fun j u e => ((oC j u e).same (s' := dSt s.mem s.next) rfl rfl).at') hIl fun m1 rd1 e1 hr1 => ?_
 subst e1
 simp -implicitDefEqProofs only [AV_, eb]
 rw [W_dq fun s Q => Bu_ (s := s) AL_ Q]
 simp -implicitDefEqProofs only [AV_]
 rw [W_dq fun s Q => Cg_ (s := s) Bt_ hi Q]
 refine W.dload GZ_ (g1.same rfl rfl) fun rd7 hr7 => ?_
 rw [W_dq fun s Q => Bu_ (s := s) AL_ Q]
 dsimp only
 rw [W_dq (AtX_ hI16 _ _)]
 refine W.dop (W.buildS (s := oSt s.mem s.next) (Nat.le_refl _) (r := heldC (idB parts[i].2, (recsL (chs parts i)).length, parts[i].2.length)) Ahz_ (by decide) (Aei_ hI16 _ _) (Bi_ (by decide)) fun sa na xa oa => ⟨Non, xa, fun rda hra => ?_⟩)
 have h18 : (heldC (idB parts[i].2, (recsL (chs parts i)).length, parts[i].2.length)).length = 18 := BY_ hI16
 have na' : sa.next = s.next + 19 := by rw [na, h18]; rfl
 have hrda : rda = [] := by
   cases rda with
   | nil => rfl
   | cons y _ => exact (hra y (by simp)).2.elim
 subst hrda
 dsimp only
 have oa' : OwnRow sa s.next 0 (heldC (idB parts[i].2, (recsL (chs parts i)).length, parts[i].2.length)) := oa
 have mha : MkS (oSt sa.mem sa.next) 18 i (heldCs (heldsL 0 (chs parts i))) vh b3 := ((mh.same (s' := oSt s.mem s.next) rfl rfl).ext0 xa).same rfl rfl
 have hsrc : SrcG (oSt sa.mem sa.next) 18 32 false (List.replicate 16 (.int .u8 0) ++ [.int .i64 0, .int .i64 0]) (.slice (some ⟨s.next, 0, none⟩) 1 1) 1 (heldC (idB parts[i].2, (recsL (chs parts i)).length, parts[i].2.length)) (In s.next 0 (1 * 18)) := (YE_ (fun j u e => ((oa' j u e).same (s' := oSt sa.mem sa.next) rfl rfl).at') (by rw [h18])).g
 refine W.dopG ?_
 rw [Aen_]
 refine W.appU (s := oSt sa.mem sa.next) (Nat.le_refl _) AaH_ mha hsrc (by decide) (by decide) (by decide) (by omega) (by rw [h18]) (Oh_ _) fun sb vh1 b31 hb31 mk1 xb => ⟨_, _, xb, fun rdb wrb hrb hwb => ?_⟩
 rw [Aa_]
 have nb' : sa.next ≤ sb.next := xb.nxt
 refine ⟨On_ ?_, ?_⟩
 · simp -implicitDefEqProofs only [List.reverse_cons, List.reverse_nil, List.nil_append, List.cons_append, allP, pairsP, List.take, freeP]
   have lts : ∀ x, s.next ≤ x → ¬ x < s.next := fun x h => by omega
   simp +contextual [lts]
   repeat' first
     | exact .inl rfl
     | apply And.intro
 · refine W.cast (AfC_ _ _ _ _ _ _ _ _ _ _ _ _ _ _ _ _ _) ?_
   simp -implicitDefEqProofs only [Ag_, W_oS, Aa_, Bl_]
   generalize hs' : (⟨(dSt sb.mem sb.next).mem, (dSt sb.mem sb.next).next, s.lim, _, _, s.cx⟩ : St) = s7
   have hn0 : s0.next ≤ s.next := hx.nxt
   have hmk : ∀ x, MkF 18 i b3 x → s0.next ≤ x := fun x h => by have h1 := h.2.1; omega
   have x7 : Ext (fun x => F x ∨ s0.next ≤ x) (MkF 18 i b3) s s7 := by
     rw [← hs']
     refine Ext.drawG (by show s.next ≤ sb.next; omega) (fun x hx hg => ?_) ?_ ?_
     · exact (xb.mem x (by show x < sa.next; omega) hg).trans (xa.mem x hx id)
     · simp -implicitDefEqProofs only [List.mem_cons, List.not_mem_nil, or_false]
       rintro m (rfl | rfl | rfl | rfl | rfl | rfl | rfl | rfl | rfl | rfl | rfl | rfl) x hx _ <;> first | (cases hx; done) | (exact (hwb x hx).2)
     · simp -implicitDefEqProofs only [List.mem_cons, List.not_mem_nil, or_false]
       rintro m (rfl | rfl | rfl | rfl | rfl | rfl | rfl | rfl | rfl | rfl | rfl | rfl) x hx hl <;> first | (cases hx; done) | (exact .inl (hFc x (hr7 x hx))) | (have h1 := (hr1 x hx).1; exact .inr (by omega)) | (exact (hrb x hx).2.elim (fun h => .inr (by have h1 := h.1; omega)) fun h => .inr (hmk x h))
   have m7 : s7.mem = sb.mem := by rw [← hs']; rfl
   have n7 : s7.next = sb.next := by rw [← hs']; rfl
   refine q _ _ s7 _ vh1 b31 (Nat.le_refl _) Wn_ x7 (fun k hk => by rw [T.get_set, if_neg hk]) (by simp [T.get_set]) (by have h1 : sa.next ≤ b31 := hb31; omega) ?_
   rw [YK_ hi, UI_, MZ_, Nat.zero_add]
   exact mk1.same m7 n7
end
end Go.Proofs.Ytofanlcjeohcjaa.Am
namespace Go.Proofs.Ytofanlcjeohcjaa.Am
theorem AbL_ (n : Nat) (h : n ≤ 1024) : len2 (n >>> 8 % 256) (n % 256) = n := by
 have d : ∀ m : Fin 1025, len2 (m.val >>> 8 % 256) (m.val % 256) = m.val := by decide +kernel
 exact d ⟨n, by omega⟩
theorem AjK_ (p q r : List Nat) (n : Nat) (h : q.length = n) : ((p ++ (q ++ r)).take (p.length + n)).drop p.length = q := by
 rw [List.drop_take, List.drop_left, show p.length + n - p.length = n by omega, ← h, List.take_left]
structure RecAt (t : List Nat) (k : Nat) (b : List Nat) : Prop where
  n : saysN t k = b.length
  ok : saysOk t k = true
  len : k + 26 + b.length ≤ t.length
  rok : recOk t k = true
  good : bodyGood t k b.length = true
  id : bodyId t k b.length = idB b
  body : bodyC t k b.length = b
theorem Arv_ (p r : List Nat) (n : Nat) (hn : n ≤ 1024) : saysN (p ++ (headB n ++ r)) p.length = n ∧ ((p ++ (headB n ++ r)).take (p.length + 6)).drop p.length = headB n := by
 refine ⟨?_, AjK_ p _ r 6 rfl⟩
 unfold saysN
 have e0 : (p ++ (headB n ++ r)).getD p.length 0 = n >>> 8 % 256 := by
   rw [List.getD_eq_getElem?_getD, List.getElem?_append_right (Nat.le_refl _), Nat.sub_self]
   rfl
 have e1 : (p ++ (headB n ++ r)).getD (p.length + 1) 0 = n % 256 := by
   rw [List.getD_eq_getElem?_getD, List.getElem?_append_right (by omega), show p.length + 1 - p.length = 1 by omega]
   rfl
 rw [e0, e1, AbL_ n hn]
theorem AqT_ (x : List Nat) : GOk (gput x) := by
 have h : (gput x).length = x.length + 4 := Cm_ x
 refine ⟨by omega, ?_⟩
 have e : (gput x).take ((gput x).length - 4) = x := by
   rw [h, show x.length + 4 - 4 = x.length by omega]
   unfold gput
   exact List.take_left
 rw [e]
theorem AtR_ (p r b : List Nat) (h1 : 1 ≤ b.length) (h2 : b.length ≤ 1024) : RecAt (p ++ (recB b ++ r)) p.length b := by
 have ht : p ++ (recB b ++ r) = p ++ (headB b.length ++ (gput (idB b ++ b) ++ r)) := by
   unfold recB
   rw [List.append_assoc]
 obtain ⟨e1, e2⟩ := Arv_ p (gput (idB b ++ b) ++ r) b.length h2
 rw [← ht] at e1 e2
 have hok : saysOk (p ++ (recB b ++ r)) p.length = true := by
   unfold saysOk
   rw [e1, e2, decide_eq_true ⟨h1, h2⟩, decide_eq_true rfl]
   rfl
 have hlen : p.length + 26 + b.length ≤ (p ++ (recB b ++ r)).length := by
   rw [List.length_append, List.length_append, EM_]
   omega
 have hch : chunkB (p ++ (recB b ++ r)) p.length b.length = gput (idB b ++ b) := by
   unfold chunkB
   have e : p ++ (recB b ++ r) = (p ++ headB b.length) ++ (gput (idB b ++ b) ++ r) := by rw [ht, List.append_assoc]
   have hp : (p ++ headB b.length).length = p.length + 6 := by rw [List.length_append]; rfl
   have := AjK_ (p ++ headB b.length) (gput (idB b ++ b)) r (b.length + 20) (by rw [Cm_, List.length_append, Bz_]; omega)
   rw [hp] at this
   rw [e, show p.length + 26 + b.length = p.length + 6 + (b.length + 20) by omega]
   exact this
 have hx : bodyX (p ++ (recB b ++ r)) p.length b.length = idB b ++ b := by
   unfold bodyX
   rw [hch]
   unfold gput
   rw [← show (idB b ++ b).length = b.length + 16 by rw [List.length_append, Bz_]; omega]
   exact List.take_left
 have hi : bodyI (p ++ (recB b ++ r)) p.length b.length = idB b := by
   unfold bodyI
   rw [hx, ← Bz_ b]
   exact List.take_left
 have hc : bodyC (p ++ (recB b ++ r)) p.length b.length = b := by
   unfold bodyC
   rw [hx, ← Bz_ b]
   exact List.drop_left
 have hg : GOk (chunkB (p ++ (recB b ++ r)) p.length b.length) := by rw [hch]; exact AqT_ _
 refine ⟨e1, hok, hlen, ?_, ?_, ?_, hc⟩
 · unfold recOk
   rw [hok, e1, decide_eq_true hlen, decide_eq_true (by omega)]
   rfl
 · unfold bodyGood
   rw [decide_eq_true hg, hi, hc, decide_eq_true rfl]
   rfl
 · unfold bodyId
   rw [if_pos hg, hi]
def Fit (l : List (List Nat)) : Prop := ∀ b ∈ l, 1 ≤ b.length ∧ b.length ≤ 1024
theorem AdK_ : ∀ (l : List (List Nat)) (p y : List Nat) (f : Nat) (hs : List Hd) (bad : Nat), Fit l → scanB (p ++ (recsL l ++ y)) (f + l.length) p.length hs bad = scanB (p ++ (recsL l ++ y)) f (p.length + (recsL l).length) (hs ++ heldsL p.length l) bad
 | [], p, y, f, hs, bad, _ => by simp [recsL, heldsL]
 | b :: l, p, y, f, hs, bad, hf => by
   obtain ⟨h1, h2⟩ := hf b (by simp)
   have ht : p ++ (recsL (b :: l) ++ y) = p ++ (recB b ++ (recsL l ++ y)) := by
     show p ++ ((recB b ++ recsL l) ++ y) = _
     rw [List.append_assoc]
   have ht2 : p ++ (recsL (b :: l) ++ y) = (p ++ recB b) ++ (recsL l ++ y) := by rw [ht, List.append_assoc]
   have ra := AtR_ p (recsL l ++ y) b h1 h2
   rw [← ht] at ra
   have hp : (p ++ recB b).length = p.length + 26 + b.length := by rw [List.length_append, EM_]; omega
   have ih := AdK_ l (p ++ recB b) y f (hs ++ [(idB b, p.length, b.length)]) bad fun x hx => hf x (by simp [hx])
   have hh : heldsL p.length (b :: l) = (idB b, p.length, b.length) :: heldsL (p.length + 26 + b.length) l := by
     show (idB b, p.length, b.length) :: heldsL (p.length + (recB b).length) l = _
     rw [EM_]
     congr 2
     omega
   rw [hh]
   rw [← ht2, hp] at ih
   rw [show f + (b :: l).length = (f + l.length) + 1 by simp; omega, scanB, ra.rok]
   simp -implicitDefEqProofs only [reduceIte]
   rw [ra.n, ra.good, ra.id]
   simp -implicitDefEqProofs only [reduceIte]
   rw [ih, List.append_assoc]
   congr 1
   show p.length + 26 + b.length + (recsL l).length = p.length + (recB b ++ recsL l).length
   rw [List.length_append, EM_]
   omega
theorem Alp_ (l : List Nat) (f k : Nat) (hs : List Hd) (bad : Nat) (h : recOk l k = false) : scanB l f k hs bad = (hs, bad, k, restB l k) := by
 cases f with
 | zero => rfl
 | succ f =>
   rw [scanB, h]
   rfl
theorem Adj_ : ∀ l : List (List Nat), l.length ≤ (recsL l).length
 | [] => Nat.le_refl _
 | b :: l => by
   have := Adj_ l
   show l.length + 1 ≤ (recB b ++ recsL l).length
   rw [List.length_append, EM_]
   omega
theorem AmQ_ (l : List (List Nat)) (y : List Nat) (hf : Fit l) (hno : recOk (recsL l ++ y) (recsL l).length = false) : scanAll (recsL l ++ y) = (heldsL 0 l, 0, (recsL l).length, restB (recsL l ++ y) (recsL l).length) := by
 have h := AdK_ l [] y ((recsL l ++ y).length - l.length) [] 0 hf
 simp -implicitDefEqProofs only [List.nil_append, List.length_nil, Nat.zero_add] at h
 have hl := Adj_ l
 have hle : l.length ≤ (recsL l ++ y).length := by rw [List.length_append]; omega
 rw [Nat.sub_add_cancel hle, Alp_ _ _ _ _ _ hno] at h
 exact h
end Go.Proofs.Ytofanlcjeohcjaa.Am
namespace Go.Proofs.Ytofanlcjeohcjaa.Am
theorem AtI_ (x j : Nat) : x ^^^ 2 ^ j ≠ x := by
 intro h
 have h2 : x ^^^ (x ^^^ 2 ^ j) = x ^^^ x := by rw [h]
 rw [← Nat.xor_assoc, Nat.xor_self, Nat.zero_xor] at h2
 have := Nat.two_pow_pos j
 omega
def turnB (l : List Nat) (i j : Nat) : List Nat := l.set i (l.getD i 0 ^^^ 2 ^ j)
theorem Vw_ (l : List Nat) (i j : Nat) : (turnB l i j).length = l.length := by unfold turnB; rw [List.length_set]
theorem AmV_ (p l r : List Nat) (i j : Nat) (hi : i < l.length) : turnB (p ++ (l ++ r)) (p.length + i) j = p ++ (turnB l i j ++ r) := by
 unfold turnB
 have e : (p ++ (l ++ r)).getD (p.length + i) 0 = l.getD i 0 := by
   rw [List.getD_eq_getElem?_getD, List.getD_eq_getElem?_getD, List.getElem?_append_right (by omega), show p.length + i - p.length = i by omega, List.getElem?_append_left hi]
 rw [e, List.set_append_right _ _ (by omega), show p.length + i - p.length = i by omega, List.set_append_left _ _ hi]
theorem AjY_ {l : List Nat} (h : Byt l) (i j : Nat) (hj : j < 8) : Byt (turnB l i j) := by
 intro x hx
 unfold turnB at hx
 by_cases hi : i < l.length
 · rcases List.mem_or_eq_of_mem_set hx with hx | hx
   · exact h x hx
   · subst hx
     rw [List.getD_eq_getElem?_getD, List.getElem?_eq_getElem hi]
     have h1 : l[i] < 2 ^ 8 := h _ (List.getElem_mem hi)
     have h2 : 2 ^ j < 2 ^ 8 := Nat.pow_lt_pow_right (by decide) hj
     exact Nat.xor_lt_two_pow h1 h2
 · rw [List.set_eq_of_length_le (by omega)] at hx
   exact h x hx
theorem AfI_ (n i j : Nat) (hn : n ≤ 1024) (hi : i < 6) : turnB (headB n) i j ≠ headB (len2 ((turnB (headB n) i j).getD 0 0) ((turnB (headB n) i j).getD 1 0)) := by
 intro h
 have hx := AtI_ ((headB n).getD i 0) j
 have hl := AbL_ n hn
 have same : ∀ k, k < 6 → k ≠ i → (turnB (headB n) i j).getD k 0 = (headB n).getD k 0 := fun k hk hne => by
   unfold turnB
   rw [List.getD_eq_getElem?_getD, List.getElem?_set_ne (fun e => hne e.symm), ← List.getD_eq_getElem?_getD]
 have at' : (turnB (headB n) i j).getD i 0 = (headB n).getD i 0 ^^^ 2 ^ j := by
   unfold turnB
   rw [List.getD_eq_getElem?_getD, List.getElem?_set_self (by rw [Eo_]; exact hi)]
   rfl
 generalize hN : len2 ((turnB (headB n) i j).getD 0 0) ((turnB (headB n) i j).getD 1 0) = N at h
 have g : ∀ k, (turnB (headB n) i j).getD k 0 = (headB N).getD k 0 := fun k => by rw [h]
 by_cases h2 : 2 ≤ i
 · have e0 := same 0 (by omega) (by omega)
   have e1 := same 1 (by omega) (by omega)
   have : N = n := by
     rw [← hN, e0, e1]
     exact hl
   subst this
   have := g i
   rw [at'] at this
   exact hx this
 · have e2 := same 2 (by omega) (by omega)
   have e3 := same 3 (by omega) (by omega)
   have a0 := g 0
   have a1 := g 1
   have a2 := (g 2).symm.trans e2
   have a3 := (g 3).symm.trans e3
   have b2 : 255 - N >>> 8 % 256 = 255 - n >>> 8 % 256 := a2
   have b3 : 255 - N % 256 = 255 - n % 256 := a3
   have c0 : N >>> 8 % 256 < 256 := Nat.mod_lt _ (by decide)
   have c1 : n >>> 8 % 256 < 256 := Nat.mod_lt _ (by decide)
   have c2 : N % 256 < 256 := Nat.mod_lt _ (by decide)
   have c3 : n % 256 < 256 := Nat.mod_lt _ (by decide)
   have d0 : N >>> 8 % 256 = n >>> 8 % 256 := by omega
   have d1 : N % 256 = n % 256 := by omega
   have k0 : (headB N).getD 0 0 = (headB n).getD 0 0 := d0
   have k1 : (headB N).getD 1 0 = (headB n).getD 1 0 := d1
   have : i = 0 ∨ i = 1 := by omega
   rcases this with rfl | rfl
   · exact hx (at'.symm.trans (a0.trans k0))
   · exact hx (at'.symm.trans (a1.trans k1))
theorem Agr_ (p r : List Nat) (n i j : Nat) (hn : n ≤ 1024) (hi : i < 6) : saysOk (p ++ (turnB (headB n) i j ++ r)) p.length = false := by
 have hlen : (turnB (headB n) i j).length = 6 := by rw [Vw_]; rfl
 unfold saysOk
 rw [AjK_ p _ r 6 hlen]
 have e : saysN (p ++ (turnB (headB n) i j ++ r)) p.length = len2 ((turnB (headB n) i j).getD 0 0) ((turnB (headB n) i j).getD 1 0) := by
   unfold saysN
   have a : ∀ k, k < 6 → (p ++ (turnB (headB n) i j ++ r)).getD (p.length + k) 0 = (turnB (headB n) i j).getD k 0 := fun k hk => by
     rw [List.getD_eq_getElem?_getD, List.getD_eq_getElem?_getD, List.getElem?_append_right (by omega), show p.length + k - p.length = k by omega, List.getElem?_append_left (by omega)]
   have a0 := a 0 (by decide)
   rw [Nat.add_zero] at a0
   rw [a0, a 1 (by decide)]
 rw [e, decide_eq_false (AfI_ n i j hn hi), Bool.and_false]
theorem Vb_ : ∀ (l m : List (List Nat)), recsL (l ++ m) = recsL l ++ recsL m
 | [], _ => rfl
 | b :: l, m => by show recB b ++ recsL (l ++ m) = (recB b ++ recsL l) ++ recsL m; rw [Vb_ l m, List.append_assoc]
theorem Pk_ : ∀ (l m : List (List Nat)) (k : Nat), heldsL k (l ++ m) = heldsL k l ++ heldsL (k + (recsL l).length) m
 | [], _, _ => rfl
 | b :: l, m, k => by
   show (idB b, k, b.length) :: heldsL (k + (recB b).length) (l ++ m) = ((idB b, k, b.length) :: heldsL (k + (recB b).length) l) ++ heldsL (k + (recB b ++ recsL l).length) m
   rw [Pk_ l m, List.length_append, List.cons_append, Nat.add_assoc k]
theorem CS_ : ∀ (l : List (List Nat)) (k : Nat), (heldsL k l).length = l.length
 | [], _ => rfl
 | b :: l, k => by show (heldsL (k + (recB b).length) l).length + 1 = l.length + 1; rw [CS_ l]
theorem Ok_ : ∀ (l : List (List Nat)) (k : Nat), ∀ h ∈ heldsL k l, h.1.length = 16
 | [], _, h, hh => by cases hh
 | b :: l, k, h, hh => by
   rcases List.mem_cons.1 hh with rfl | hh
   · exact Bz_ b
   · exact Ok_ l _ h hh
theorem Adk_ {L : List (List Nat)} {w : Nat} (hw : w < L.length) : (heldsL 0 L)[w]? = some (idB L[w], (recsL (L.take w)).length, L[w].length) := by
 have e : L = L.take w ++ L[w] :: L.drop (w + 1) := by rw [List.getElem_cons_drop, List.take_append_drop]
 conv => lhs; rw [e, Pk_]
 have hl : (heldsL 0 (L.take w)).length = w := by rw [CS_, List.length_take]; omega
 rw [List.getElem?_append_right (by omega), hl, Nat.sub_self, Nat.zero_add]
 rfl
theorem Aey_ {L : List (List Nat)} {w : Nat} (hw : w < L.length) : (heldsL 0 L).take w = heldsL 0 (L.take w) := by
 have e : L = L.take w ++ L.drop w := (List.take_append_drop w L).symm
 have hl : (heldsL 0 (L.take w)).length = w := by rw [CS_, List.length_take]; omega
 conv => lhs; rw [e, Pk_]
 exact List.take_left' hl
theorem AfG_ {L : List (List Nat)} {w i j : Nat} (hw : w < L.length) (hf : Fit L) (hi : i < 6) : saysB (turnB (recsL L) ((recsL (L.take w)).length + i) j) (recsL (L.take w)).length = ((saysB (turnB (recsL L) ((recsL (L.take w)).length + i) j) (recsL (L.take w)).length).1, false) ∧ scanAll (turnB (recsL L) ((recsL (L.take w)).length + i) j) = (heldsL 0 (L.take w), 0, (recsL (L.take w)).length, 2) := by
 have e : L = L.take w ++ L[w] :: L.drop (w + 1) := by rw [List.getElem_cons_drop, List.take_append_drop]
 obtain ⟨h1, h2⟩ := hf L[w] (List.getElem_mem hw)
 have er : recsL L = recsL (L.take w) ++ (headB L[w].length ++ (gput (idB L[w] ++ L[w]) ++ recsL (L.drop (w + 1)))) := by
   conv => lhs; rw [e, Vb_]
   show _ ++ (recB L[w] ++ _) = _
   unfold recB
   rw [List.append_assoc]
 have et : turnB (recsL L) ((recsL (L.take w)).length + i) j = recsL (L.take w) ++ (turnB (headB L[w].length) i j ++ (gput (idB L[w] ++ L[w]) ++ recsL (L.drop (w + 1)))) := by
   rw [er, AmV_ _ _ _ _ _ (by rw [Eo_]; exact hi)]
 have hs : saysOk (turnB (recsL L) ((recsL (L.take w)).length + i) j) (recsL (L.take w)).length = false := by
   rw [et]
   exact Agr_ _ _ _ _ _ h2 hi
 have hlen : (recsL (L.take w)).length + 26 + L[w].length ≤ (turnB (recsL L) ((recsL (L.take w)).length + i) j).length := by
   rw [et]
   simp -implicitDefEqProofs only [List.length_append, Vw_, Eo_, Cm_, Bz_]
   omega
 constructor
 · unfold saysB
   rw [if_pos (by omega), hs]
 · have hno : recOk (turnB (recsL L) ((recsL (L.take w)).length + i) j) (recsL (L.take w)).length = false := by
     unfold recOk
     rw [hs]
     simp
   have h := AmQ_ (L.take w) (turnB (headB L[w].length) i j ++ (gput (idB L[w] ++ L[w]) ++ recsL (L.drop (w + 1)))) (fun b hb => hf b (List.mem_of_mem_take hb)) (by rw [← et]; exact hno)
   rw [← et] at h
   rw [h]
   have hr : restB (turnB (recsL L) ((recsL (L.take w)).length + i) j) (recsL (L.take w)).length = 2 := by
     unfold restB
     rw [if_neg (by omega), if_neg (by omega), hs]
     rfl
   rw [hr]
end Go.Proofs.Ytofanlcjeohcjaa.Am
namespace Go.Proofs.Ytofanlcjeohcjaa.Am
open Go.RowKit
theorem Aas_ : ∀ {l : List (List Nat)}, (∀ x ∈ l, x.length ≤ 1024) → (recsL l).length ≤ l.length * 1050
 | [], _ => by simp [recsL]
 | b :: l, h => by
   have h1 := Aas_ (l := l) fun x hx => h x (by simp [hx])
   have h2 := h b (by simp)
   show (recB b ++ recsL l).length ≤ (l.length + 1) * 1050
   rw [List.length_append, EM_]
   omega
section
variable {parts : List (Value × List Nat)} {b o c : Nat}
theorem Alx_ {F : Nat → Prop} (hF : ∀ x, PartF b o parts x → F x) {Q : Value × FrameMode → St → Prop} {s0 : St} (hb0 : s0.lim ≤ s0.next) (hcx : s0.cx = cxN) (hp : Parts s0 b o parts) (hlt : ∀ p ∈ parts, ∀ x, BsF p.1 x → x < s0.next) (hby : ∀ p ∈ parts, Byt p.2) {i n : Nat} {tm : T Value} {s : St} {td : List Item} {vb ve vh : Value} {b1 b2 b3 : Nat} (hi : i < parts.length) (h20 : i < 21) (hn : 60200 ≤ n) (hT : skim 64 td = BV_) (hx : Ext F Non s0 s) (I : AlI s0 parts b o c i tm s vb ve vh b1 b2 b3)
   (q1 : (parts[i].2.length = 0 ∨ 1024 < parts[i].2.length) → ∀ s1, Ext F Non s0 s1 → Q (.tuple #[.slice none 0 0, .slice none 0 0, .slice none 0 0, .bool false], .run) s1)
   (q2 : 1 ≤ parts[i].2.length → parts[i].2.length ≤ 1024 → ∀ (n1 : Nat) (tm1 : T Value) (s1 : St) (td1 : List Item) (vb1 ve1 vh1 : Value) (b11 b21 b31 : Nat), n - 40 ≤ n1 → skim 64 td1 = BV_ → Ext F Non s0 s1 → T.get tm1 9 = T.get tm 9 → AlI s0 parts b o c (i + 1) tm1 s1 vb1 ve1 vh1 b11 b21 b31 → W (runF envS n1 ⟨30, Cc_, AJ_, tm1, td1, .run, .normal, none⟩) s1 Q) :
   W (runF envS n ⟨30, Cc_, AJ_, tm, td, .run, .normal, none⟩) s Q := by
 refine ArZ_ hF hb0 hcx hp hlt hby hi (by omega) hT hx I.t0 I.t11 q1 fun hz1 hz2 n1 tm1 s1 td1 w C hn1 hT1 x1 hk e12 e13 hC oC hw hwn => ?_
 have hb : s.lim ≤ s.next := hx.bnd hb0
 have hx1 : Ext F Non s0 s1 := hx.step x1 hb0 (fun _ _ h => h) fun _ h => h.elim
 have hn0 : s0.next ≤ s.next := hx.nxt
 have hn1' : s.next ≤ s1.next := x1.nxt
 refine Aqr_ hF hb0 hp hi h20 (by omega) hT1 hx1 ((hk 0 (by simp)).trans I.t0) ((hk 6 (by simp)).trans I.t6) ((hk 8 (by simp)).trans I.t8) ((hk 11 (by simp)).trans I.t11) e13 (I.mb.ext0 x1) (I.mh.ext0 x1) (by omega) oC I.n3 fun n2 tm2 s2 td2 vh1 b31 hn2 hT2 x2 hk2 e8 hb31 mh2 => ?_
 have hl3 : ∀ x, MkF 18 i b3 x → s0.next ≤ x ∧ x < s.next := fun x h => ⟨by have h1 := h.2.1; have := I.n3; omega, I.mh.lt x h⟩
 have hl1 : ∀ x, MkF 1 (recsL (chs parts i)).length b1 x → s0.next ≤ x ∧ x < s.next := fun x h => ⟨by have h1 := h.2.1; have := I.n1; omega, I.mb.lt x h⟩
 have hl2 : ∀ x, MkF 1 i b2 x → s0.next ≤ x ∧ x < s.next := fun x h => ⟨by have h1 := h.2.1; have := I.n2; omega, I.me.lt x h⟩
 have hn2' : s1.next ≤ s2.next := x2.nxt
 have hx2 : Ext F Non s0 s2 := hx1.step x2 hb0 (fun x hx h => h.elim id fun h => by omega) fun x h => (hl3 x h).1
 have mb2 : MkS s2 1 (recsL (chs parts i)).length (u8l (recsL (chs parts i))) vb b1 := (I.mb.ext0 x1).ext x2 fun x h => I.d13 x h
 have me2 : MkS s2 1 i (intsV (endsL 0 (chs parts i))) ve b2 := (I.me.ext0 x1).ext x2 fun x h => I.d23 x h
 have hw2 : Bn s2 w (recB parts[i].2) := hw.ext x2 fun x hx h => by
   have h1 := hwn x hx
   have h2 := (hl3 x h).2
   omega
 have hrl := EM_ parts[i].2
 have hch : (chs parts i).length ≤ i := by unfold chs; rw [List.length_map, List.length_take]; omega
 have hrs : (recsL (chs parts i)).length ≤ 22050 := by
   have h1 : (recsL (chs parts i)).length ≤ (chs parts i).length * 1050 := Aas_ fun x hx => by
     obtain ⟨p, hp, rfl⟩ := List.mem_map.1 hx
     exact (I.sm p hp).2
   have h2 : (chs parts i).length * 1050 ≤ 21 * 1050 := Nat.mul_le_mul_right _ (by omega)
   omega
 have k6 : T.get tm2 6 = some vb := (hk2 6 (by decide)).trans ((hk 6 (by simp)).trans I.t6)
 have k12 : T.get tm2 12 = some w := (hk2 12 (by decide)).trans e12
 refine AfM_.w hT2 (by omega) ?_
 simp -implicitDefEqProofs only [VI_, Ag_, W_oS, Aa_, W_mv, Ac_, Ae_, Ah_, Ab_, k6, k12, Aen_]
 refine W.appU (hx2.bnd hb0) TI_ mb2 (hw2.bs.src.g) (by omega) (by decide) (by decide) (by omega) (by rw [Ar_, Nat.mul_one]) (Br_ _) fun s3 vb1 b11 hb11 mb3 x3 => ?_
 have hn3' : s2.next ≤ s3.next := x3.nxt
 have hx3 : Ext F Non s0 s3 := hx2.step x3 hb0 (fun x hx h => by
   rcases h with h | h
   · have := hwn x h; omega
   · have := (hl1 x h).1; omega) fun x h => (hl1 x h).1
 have eL : recsL (chs parts (i + 1)) = recsL (chs parts i) ++ recB parts[i].2 := by rw [YK_ hi, XR_]
 have eU : u8l (recsL (chs parts i)) ++ u8l (recB parts[i].2) = u8l (recsL (chs parts (i + 1))) := by rw [eL]; exact List.map_append.symm
 have eN : (recsL (chs parts i)).length + (recB parts[i].2).length = (recsL (chs parts (i + 1))).length := by rw [eL, List.length_append]
 rw [eU, eN] at mb3
 try simp -implicitDefEqProofs only [Ag_, W_oS, W_on, Aa_, W_mv, Ac_, Bl_, T.get_set, Ae_, Ah_, AC_, AG_, Ab_, AB_, reduceIte, Aw_, BB_, Bp_, BJ_, Bm_, Bx_, BR_, CD_, AQ_, Cn_, Nat.reduceEqDiff, Nat.reduceEqDiff, reduceCtorEq, ↓reduceIte]
 have k7 : T.get tm2 7 = some ve := (hk2 7 (by decide)).trans ((hk 7 (by simp)).trans I.t7)
 refine Aeu_.w VS_ (by omega) ?_
 simp -implicitDefEqProofs only [SN_, Ag_, W_oS, Aa_, W_mv, Ac_, T.get_set, Ae_, Ah_, AC_, AG_, Ab_, reduceIte, Nat.reduceEqDiff, Nat.reduceEqDiff, ↓reduceIte, k7]
 rw [mb3.len AL_]
 try simp -implicitDefEqProofs only [Ag_, W_oS, W_on, Aa_, W_mv, Ac_, Bl_, T.get_set, Ae_, Ah_, AC_, AG_, Ab_, AB_, reduceIte, Aw_, BB_, Bp_, BJ_, Bm_, Bx_, BR_, CD_, AQ_, Cn_, Nat.reduceEqDiff, Nat.reduceEqDiff, reduceCtorEq, ↓reduceIte]
 have me3 : MkS s3 1 i (intsV (endsL 0 (chs parts i))) ve b2 := me2.ext x3 fun x h h' => I.d12 x h' h
 refine W.buildS (hx3.bnd hb0) (r := [.int .i64 ((recsL (chs parts (i + 1))).length : Nat)]) Aqv_ (by decide) rfl (Bi_ (by decide)) fun s4 n4 x4 o4 => ?_
 have n4' : s4.next = s3.next + 2 := n4
 have hx4 : Ext F Non s0 s4 := hx3.step x4 hb0 (fun _ _ h => h.elim) fun _ h => h.elim
 have hsrc : SrcG s4 1 8 false [.int .i64 0] (.slice (some ⟨s3.next, 0, none⟩) 1 1) 1 [.int .i64 ((recsL (chs parts (i + 1))).length : Nat)] (In s3.next 0 (1 * 1)) := (YE_ o4.row rfl).g
 try simp -implicitDefEqProofs only [Aen_]
 refine W.appU (hx4.bnd hb0) Aqi_ (me3.ext0 x4) hsrc (by decide) (by decide) (by decide) (by omega) rfl rfl fun s5 ve1 b21 hb21 me5 x5 => ?_
 have hx5 : Ext F Non s0 s5 := hx4.step x5 hb0 (fun x hx h => by
   rcases h with h | h
   · have := h.1; have := hx3.nxt; omega
   · have := (hl2 x h).1; omega) fun x h => (hl2 x h).1
 have hd : endsL 0 (chs parts (i + 1)) = endsL 0 (chs parts i) ++ [(recsL (chs parts (i + 1))).length] := by
   rw [eL, List.length_append, YK_ hi, Yl_, Nat.zero_add]
 have eE : intsV (endsL 0 (chs parts i)) ++ [.int .i64 ((recsL (chs parts (i + 1))).length : Nat)] = intsV (endsL 0 (chs parts (i + 1))) := by
   rw [hd]; unfold intsV; rw [List.map_append]; rfl
 rw [eE] at me5
 have mb5 : MkS s5 1 (recsL (chs parts (i + 1))).length (u8l (recsL (chs parts (i + 1)))) vb1 b11 := (mb3.ext0 x4).ext x5 fun x h h' => by
   have h1 := h.2.1
   have h2 := (hl2 x h').2
   omega
 have mh5 : MkS s5 18 (i + 1) (heldCs (heldsL 0 (chs parts (i + 1)))) vh1 b31 := ((mh2.ext x3 fun x h h' => by
   have h1 := h.2.1
   have h2 := (hl1 x h').2
   omega).ext0 x4).ext x5 fun x h h' => by
   have h1 := h.2.1
   have h2 := (hl2 x h').2
   omega
 try simp -implicitDefEqProofs only [Ag_, W_oS, W_on, Aa_, W_mv, Ac_, Bl_, T.get_set, Ae_, Ah_, AC_, AG_, Ab_, AB_, reduceIte, Aw_, BB_, Bp_, BJ_, Bm_, Bx_, BR_, CD_, AQ_, Cn_, Nat.reduceEqDiff, Nat.reduceEqDiff, reduceCtorEq, ↓reduceIte]
 have ei : wrap64 ((i : Nat) + 1 : Int) = ((i + 1 : Nat) : Int) := by
   rw [AK_ (by omega) (by omega)]; simp
 have k11 : T.get tm2 11 = some (.int .i64 (i : Nat)) := (hk2 11 (by decide)).trans ((hk 11 (by simp)).trans I.t11)
 have k0 : T.get tm2 0 = some (.slice (some ⟨b, o, none⟩) parts.length c) := (hk2 0 (by decide)).trans ((hk 0 (by simp)).trans I.t0)
 refine AeU_.w WM_ (by omega) ?_
 simp -implicitDefEqProofs only [Ub_, Ag_, W_oS, Aa_, W_mv, Ac_, T.get_set, reduceIte, Nat.reduceEqDiff, Nat.reduceEqDiff, ↓reduceIte, BC_, k11, ei]
 refine q2 hz1 hz2 _ _ s5 _ vb1 ve1 vh1 b11 b21 b31 (by omega) Wf_ hx5 (by simp [T.get_set, hk2 9 (by decide), hk 9 (by simp)]) ⟨by simp [T.get_set, k0], by simp [T.get_set], by simp [T.get_set], by simp [T.get_set, e8], by simp [T.get_set], mb5, me5, mh5, by omega, by omega, by omega, fun x h h' => ?_, fun x h h' => ?_, fun x h h' => ?_, fun p hp' => ?_⟩
 · have h1 := (mb3.ext0 x4).lt x h
   have h2 := h'.2.1
   omega
 · have h1 := mh2.lt x h'
   have h2 := h.2.1
   omega
 · have h1 := mh2.lt x h'
   have h2 := h.2.1
   omega
 · rw [List.take_succ_eq_append_getElem hi] at hp'
   rcases List.mem_append.1 hp' with h | h
   · exact I.sm p h
   · rw [List.mem_singleton.1 h]; exact ⟨hz1, hz2⟩
end
end Go.Proofs.Ytofanlcjeohcjaa.Am
namespace Go.Proofs.Ytofanlcjeohcjaa.Am
open Go.RowKit
section
variable {parts : List (Value × List Nat)} {b o c : Nat}
structure AlR (s0 : St) (parts : List (Value × List Nat)) (s : St) (vb ve vh : Value) (b1 b2 b3 : Nat) : Prop where
  mb : MkS s 1 (recsL (parts.map (·.2))).length (u8l (recsL (parts.map (·.2)))) vb b1
  me : MkS s 1 parts.length (intsV (endsL 0 (parts.map (·.2)))) ve b2
  mh : MkS s 18 parts.length (heldCs (heldsL 0 (parts.map (·.2)))) vh b3
  n1 : s0.next ≤ b1
  n2 : s0.next ≤ b2
  n3 : s0.next ≤ b3
  d12 : ∀ x, MkF 1 (recsL (parts.map (·.2))).length b1 x → ¬ MkF 1 parts.length b2 x
  d13 : ∀ x, MkF 1 (recsL (parts.map (·.2))).length b1 x → ¬ MkF 18 parts.length b3 x
  d23 : ∀ x, MkF 1 parts.length b2 x → ¬ MkF 18 parts.length b3 x
  sm : ∀ p ∈ parts, 1 ≤ p.2.length ∧ p.2.length ≤ 1024
  le : parts.length ≤ 20
  tt : tot parts ≤ 4000
theorem AnH_ {F : Nat → Prop} (hF : ∀ x, PartF b o parts x → F x) {Q : Value × FrameMode → St → Prop} {s0 : St} (hb0 : s0.lim ≤ s0.next) (hcx : s0.cx = cxN) (hp : Parts s0 b o parts) (hlt : ∀ p ∈ parts, ∀ x, BsF p.1 x → x < s0.next) (hby : ∀ p ∈ parts, Byt p.2) {z : Int} (hle : parts.length ≤ 20) (hz : SumOk parts (min parts.length 21) z) (hz4 : z ≤ 4000)
   (q1 : ∀ s1, Ext F Non s0 s1 → Q (.tuple #[.slice none 0 0, .slice none 0 0, .slice none 0 0, .bool false], .run) s1)
   (q2 : ∀ s1 vb ve vh b1 b2 b3, Ext F Non s0 s1 → AlR s0 parts s1 vb ve vh b1 b2 b3 → Q (.tuple #[vb, ve, vh, .bool true], .run) s1) :
   ∀ (k i n : Nat) (tm : T Value) (s : St) (td : List Item) (vb ve vh : Value) (b1 b2 b3 : Nat), i + k = parts.length → 60300 + 40 * k ≤ n → skim 64 td = BV_ → Ext F Non s0 s → T.get tm 9 = some (.int .i64 z) → AlI s0 parts b o c i tm s vb ve vh b1 b2 b3 →
   W (runF envS n ⟨30, Cc_, AJ_, tm, td, .run, .normal, none⟩) s Q := by
 intro k
 induction k with
 | zero =>
   intro i n tm s td vb ve vh b1 b2 b3 hi hn hT hx h9 I
   have ei : i = parts.length := by omega
   subst ei
   refine MN_.w hT (by omega) ?_
   simp -implicitDefEqProofs only [If_, Ag_, W_oS, Aa_, W_mv, Ac_, Ae_, Ah_, Ab_, Bh_, I.t0, I.t11, Bu_ Bt_]
   refine W.cond (v := false) GJ_ Mv_ (by simp [T.get_set]) (by omega) (fun h => by cases h) fun _ => ?_
   refine Vk_.w Lz_ (by omega) ?_
   simp -implicitDefEqProofs only [MD_, Aa_, W_mv, Ac_, T.get_set, reduceIte, Nat.reduceEqDiff, Nat.reduceEqDiff, ↓reduceIte, I.t6, I.t7, I.t8]
   refine W.end' (rs := [2, 3, 4, 5]) (vs := [vb, ve, vh, .bool true]) Lr_ (.inl VD_) (by omega) EO_ EW_ (hx.cx.trans hcx) (by simp [T.get_set]) ?_
   have et : parts.take parts.length = parts := List.take_length
   have ec : chs parts parts.length = parts.map (·.2) := by unfold chs; rw [et]
   have sm := I.sm
   rw [et] at sm
   have hm : min parts.length 21 = parts.length := by omega
   rw [hm] at hz
   have hz' := hz fun p hp' => (sm p (by rwa [et] at hp')).2
   rw [et] at hz'
   have mb := I.mb
   have me := I.me
   have mh := I.mh
   have d12 := I.d12
   have d13 := I.d13
   have d23 := I.d23
   rw [ec] at mb me mh d12 d13
   exact q2 s vb ve vh b1 b2 b3 hx ⟨mb, me, mh, I.n1, I.n2, I.n3, d12, d13, d23, sm, hle, by omega⟩
 | succ k ih =>
   intro i n tm s td vb ve vh b1 b2 b3 hi hn hT hx h9 I
   refine Alx_ hF hb0 hcx hp hlt hby (by omega) (by omega) (by omega) hT hx I (fun _ => q1) fun _ _ n1 tm1 s1 td1 vb1 ve1 vh1 b11 b21 b31 hn1 hT1 hx1 e9 I1 => ?_
   exact ih (i + 1) n1 tm1 s1 td1 vb1 ve1 vh1 b11 b21 b31 (by omega) (by omega) hT1 hx1 (e9.trans h9) I1
theorem Aqs_ {n : Nat} {s : St} {Q : Value → St → Prop} (hbd : s.lim ≤ s.next) (hp : Parts s b o parts) (hlt : ∀ p ∈ parts, ∀ x, BsF p.1 x → x < s.next) (hby : ∀ p ∈ parts, Byt p.2) (hn : 62000 ≤ n)
   (q1 : ∀ s1, Ext (PartF b o parts) Non s s1 → Q (.tuple #[.slice none 0 0, .slice none 0 0, .slice none 0 0, .bool false]) s1)
   (q2 : ∀ s1 vb ve vh b1 b2 b3, Ext (PartF b o parts) Non s s1 → AlR s parts s1 vb ve vh b1 b2 b3 → Q (.tuple #[vb, ve, vh, .bool true]) s1) :
   W (callW envS (runF envS n) 30 [.slice (some ⟨b, o, none⟩) parts.length c]) s Q := by
 refine AbM_ fun tm h0 => ?_
 have hp0 : Parts (s.cxN cxN) b o parts := hp.same rfl rfl
 refine XV_.w rfl (by omega) ?_
 simp -implicitDefEqProofs only [Pr_, Aa_, W_mv, Ac_]
 refine XL_.w Qd_ (by omega) ?_
 simp -implicitDefEqProofs only [Pn_, Aa_, W_mv, Ac_]
 refine Yu_.w PR_ (by omega) ?_
 simp -implicitDefEqProofs only [Pb_, Aa_, W_mv, Ac_]
 refine XF_.w RH_ (by omega) ?_
 simp -implicitDefEqProofs only [OX_, Aa_, W_mv, Ac_]
 refine Yd_.w QM_ (by omega) ?_
 simp -implicitDefEqProofs only [Pi_, Aa_, W_mv, Ac_]
 refine XY_.w Rf_ (by omega) ?_
 simp -implicitDefEqProofs only [OU_, Aa_, W_mv, Ac_]
 refine AsP_ (F := PartF b o parts) (fun _ h => h) (s0 := s.cxN cxN) hbd hp0 (min parts.length 21) 0 _ 0 _ _ _ (by omega) (by omega) RG_ (Ext.refl _) rfl rfl (fun _ => by simp [tot]) (by simp [T.get_set, h0]; rfl) (by simp [T.get_set]) (by simp [T.get_set]) (by simp [T.get_set]) (by simp [T.get_set]) (by simp [T.get_set]) fun n1 z tm1 s1 td1 hn1 hT1 hx1 hm1 hnx1 hz g0 g6 g7 g8 g9 => ?_
 have no : ∀ (n2 : Nat) (tm2 : T Value), 10 ≤ n2 → W (runF envS n2 ⟨30, Cc_, AJ_, tm2, brT CK_, .run, .normal, none⟩) s1 fun p s1 => Q p.1 (s1.cxN s.cx) := fun n2 tm2 hn2 => by
   refine AfQ_.w WK_ (by omega) ?_
   simp -implicitDefEqProofs only [US_, Aa_, W_mv, Ac_]
   refine W.end' (rs := [2, 3, 4, 5]) (vs := [.slice none 0 0, .slice none 0 0, .slice none 0 0, .bool false]) Wp_ (.inl AfY_) (by omega) EO_ EW_ hx1.cx (by simp [T.get_set]) ?_
   exact q1 _ hx1.cx'
 refine Yp_.w hT1 (by omega) ?_
 simp -implicitDefEqProofs only [Py_, Ag_, W_oS, W_on, Aa_, W_mv, Ac_, Ae_, Ah_, Ab_, Aw_, Bx_, AQ_, Er_, g0, g9, Bu_ Bt_]
 by_cases h20 : 20 < parts.length
 · have e1 : (decide ((20 : Int) < ((parts.length : Nat) : Int))) = true := decide_eq_true (by omega)
   simp -implicitDefEqProofs only [e1, Aa_, reduceIte, Bp_, CD_, ↓reduceIte]
   refine W.cond (v := true) Eu_ Hz_ (by simp [T.get_set]) (by omega) (fun _ => ?_) fun h => by cases h
   exact no _ _ (by omega)
 · have e1 : (decide ((20 : Int) < ((parts.length : Nat) : Int))) = false := decide_eq_false (by omega)
   simp -implicitDefEqProofs only [e1, W_oS, Aa_, reduceIte, Bm_, BR_, reduceCtorEq, ↓reduceIte, Er_]
   by_cases h4 : 4000 < z
   · refine W.cond (v := true) Eu_ Hz_ (by simp [T.get_set]; exact h4) (by omega) (fun _ => ?_) fun h => by cases h
     exact no _ _ (by omega)
   · refine W.cond (v := false) Eu_ Hz_ (by simp [T.get_set]; omega) (by omega) (fun h => by cases h) fun _ => ?_
     refine VK_.w Mk_ (by omega) ?_
     simp -implicitDefEqProofs only [Nb_, Aa_, W_mv, Ac_]
     refine AnH_ (c := c) (F := PartF b o parts) (fun _ h => h) (s0 := s.cxN cxN) hbd rfl hp0 hlt hby (z := z) (by omega) hz (by omega) (fun s2 x2 => q1 _ x2.cx') (fun s2 vb ve vh b1 b2 b3 x2 R => q2 _ vb ve vh b1 b2 b3 x2.cx' ⟨R.mb.same rfl rfl, R.me.same rfl rfl, R.mh.same rfl rfl, R.n1, R.n2, R.n3, R.d12, R.d13, R.d23, R.sm, R.le, R.tt⟩) parts.length 0 _ _ _ _ (.slice none 0 0) (.slice none 0 0) (.slice none 0 0) s.next s.next s.next (by omega) (by omega) LQ_ hx1 (by simp [T.get_set, g9]) ⟨by simp [T.get_set, g0], by simp [T.get_set, g6], by simp [T.get_set, g7], by simp [T.get_set, g8], by simp [T.get_set], .inl ⟨rfl, rfl, rfl⟩, .inl ⟨rfl, rfl, rfl⟩, .inl ⟨rfl, rfl, rfl⟩, Nat.le_refl _, Nat.le_refl _, Nat.le_refl _, fun x h _ => by have := h.1; simp [chs, recsL] at this, fun x h _ => by have := h.1; simp [chs, recsL] at this, fun x h _ => by have := h.1; omega, fun p h => by simp at h⟩
end
end Go.Proofs.Ytofanlcjeohcjaa.Am
namespace Go.Proofs.Ytofanlcjeohcjaa.Am
open Go.RowKit
section
variable {E : Env} {s : St} {t : Nat} {xo yo : Operand}
theorem AsM_ (m n : Nat) (hn : 1 ≤ n) : Cl.get (aBin E .rem t xo yo) (.int .i64 (.negSucc m)) (.int .i64 (n : Nat)) s = .some (.int .i64 ((Int.negSucc m).tmod (n : Nat))) s := by
 show binSlow E .rem t xo yo (.int .i64 (.negSucc m)) (.int .i64 (n : Nat)) s = _
 show M.on (semP E.P (do eqGuard .rem t xo yo (.int .i64 (.negSucc m)) (.int .i64 (n : Nat)); binOp .rem t (.int .i64 (.negSucc m)) (.int .i64 (n : Nat)))) pV s = _
 have e : semP E.P (do eqGuard .rem t xo yo (.int .i64 (.negSucc m)) (.int .i64 (n : Nat)); binOp .rem t (.int .i64 (.negSucc m)) (.int .i64 (n : Nat))) = some (.int .i64 ((Int.negSucc m).tmod (n : Nat))) := by
   show semP E.P (Op.intDiv .rem .i64 (.negSucc m) (n : Nat)) = _
   unfold Op.intDiv
   rw [if_neg (by omega)]
   rfl
 rw [e]
 generalize (Int.negSucc m).tmod (n : Nat) = y
 have hp : ∀ y : Int, pV (.int .i64 y) s = .some (.int .i64 y) s := fun y => by
   cases y with
   | ofNat k => first | rfl | (cases k <;> rfl)
   | negSucc k => first | rfl | (cases k <;> rfl)
 exact hp y
theorem Auk_ {x : Int} {n : Nat} (hn : 1 ≤ n) (Q : Value → St → Prop) : W (Cl.get (aBin E .rem t xo yo) (.int .i64 x) (.int .i64 (n : Nat))) s Q = Q (.int .i64 (x.tmod (n : Nat))) s := by
 cases x with
 | ofNat m => exact BK_ (Aln_ m n hn xo yo)
 | negSucc m => exact BK_ (AsM_ m n hn)
theorem AtV_ {k : Nat} (hk : k < 8) (Q : Value → St → Prop) : W (Cl.get (aBin E .shl t xo yo) (.int .u8 1) (.int .i64 (k : Nat))) s Q = Q (.int .u8 (2 ^ k : Nat)) s := by
 refine BK_ ?_
 match k, hk with
 | 0, _ => rfl
 | 1, _ => rfl
 | 2, _ => rfl
 | 3, _ => rfl
 | 4, _ => rfl
 | 5, _ => rfl
 | 6, _ => rfl
 | 7, _ => rfl
theorem Aue_ {m n : Nat} (h : m ^^^ n < 256) (Q : Value → St → Prop) : W (Cl.get (aBin E .xor t xo yo) (.int .u8 (m : Nat)) (.int .u8 (n : Nat))) s Q = Q (.int .u8 (m ^^^ n : Nat)) s := by
 refine BK_ ?_
 show int3 xorK (binSlow E .xor t xo yo) (.int .u8 (.ofNat m)) (.int .u8 (.ofNat n)) s = _
 show Option.rec (motive := fun _ => R Value) _ (fun v => .some v s) (xorK .u8 .u8 m n) = _
 have e : xorK .u8 .u8 m n = some (.int .u8 (m ^^^ n : Nat)) := by
   unfold xorK sameK
   rw [Nat.beq_refl]
   show fitI .u8 (m ^^^ n) = _
   unfold fitI
   rw [Nat.ble_eq_true_of_le (show m ^^^ n ≤ mxOf .u8 by show m ^^^ n ≤ 255; omega)]
   show mkI .u8 (m ^^^ n) = _
   unfold mkI
   rw [Ba_]
   rfl
 rw [e]
end
theorem ON_ {n m : Nat} {x : Int} {s : St} {Q : Value → St → Prop} (hm : 1 ≤ m) (hm2 : m ≤ 1000000) (hn : 20 ≤ n) (q : ∀ r : Nat, r < m → Q (.int .i64 (r : Nat)) s) : W (callW envS (runF envS n) 33 [.int .i64 x, .int .i64 (m : Nat)]) s Q := by
 refine AiW_ fun tm h0 h1 => ?_
 refine AfU_.w rfl (by omega) ?_
 simp -implicitDefEqProofs only [UC_, Aa_, W_mv, Ac_]
 refine AeC_.w Aau_ (by omega) ?_
 simp -implicitDefEqProofs only [TT_, Ag_, W_oS, Aa_, W_mv, Ac_, T.get_set, reduceIte, Nat.reduceEqDiff, Nat.reduceEqDiff, ↓reduceIte, Bh_, h1]
 refine W.cond (v := false) ZK_ AfE_ (by simp [T.get_set]; omega) (by omega) (fun h => by cases h) fun _ => ?_
 refine AeA_.w Aal_ (by omega) ?_
 simp -implicitDefEqProofs only [Vs_, Ag_, W_oS, Aa_, W_mv, Ac_, T.get_set, reduceIte, Nat.reduceEqDiff, Nat.reduceEqDiff, reduceCtorEq, ↓reduceIte, h0, h1, Auk_ hm]
 have b1 : x.tmod (m : Nat) < (m : Nat) := Int.tmod_lt_of_pos x (by omega)
 have b2 : -(m : Nat) < x.tmod (m : Nat) := by
   have := Int.lt_tmod_of_pos x (b := (m : Nat)) (by omega)
   omega
 generalize x.tmod (m : Nat) = y at *
 refine AfL_.w Zs_ (by omega) ?_
 simp -implicitDefEqProofs only [Ta_, Ag_, W_oS, Aa_, W_mv, Ac_, T.get_set, reduceIte, ↓reduceIte, Bh_]
 have fin : ∀ (n1 : Nat) (tm1 : T Value) (td : List Item) (r : Nat), 10 ≤ n1 → r < m → skim 64 td = DA_ → T.get tm1 0 = some (.int .i64 (r : Nat)) → W (runF envS n1 ⟨33, Aer_, CO_, tm1, td, .run, .normal, none⟩) (s.cxN cxN) fun p s1 => Q p.1 (s1.cxN s.cx) := fun n1 tm1 td r hn1 hr hT g0 => by
   refine Agc_.w hT (by omega) ?_
   simp -implicitDefEqProofs only [UJ_, Aa_, W_mv, Ac_, g0]
   refine W.end' (rs := [4]) (vs := [.int .i64 (r : Nat)]) Wv_ (.inl Ack_) (by omega) Vl_ AbY_ rfl (by simp [T.get_set]) ?_
   exact q r hr
 by_cases hy : y < 0
 · refine W.cond (v := true) Oi_ TR_ (by simp [T.get_set]; exact hy) (by omega) (fun _ => ?_) fun h => by cases h
   refine Agk_.w YY_ (by omega) ?_
   simp -implicitDefEqProofs only [SZ_, Ag_, W_oS, Aa_, W_mv, Ac_, T.get_set, reduceIte, Nat.reduceEqDiff, Nat.reduceEqDiff, reduceCtorEq, ↓reduceIte, BC_, h1]
   obtain ⟨r, hr⟩ : ∃ r : Nat, y + (m : Nat) = (r : Nat) := ⟨(y + (m : Nat)).toNat, by omega⟩
   rw [AK_ (by omega) (by omega), hr]
   exact fin _ _ _ r (by omega) (by omega) ZZ_ (by simp [T.get_set])
 · refine W.cond (v := false) Oi_ TR_ (by simp [T.get_set]; omega) (by omega) (fun h => by cases h) fun _ => ?_
   obtain ⟨r, hr⟩ : ∃ r : Nat, y = (r : Nat) := ⟨y.toNat, by omega⟩
   subst hr
   exact fin _ _ _ r (by omega) (by omega) ZF_ (by simp [T.get_set])
end Go.Proofs.Ytofanlcjeohcjaa.Am
namespace Go.Proofs.Ytofanlcjeohcjaa.Am
open Go.RowKit
section
variable {E : Env} {s s' : St} {t : Nat} {xo yo : Operand}
theorem Aon_ (m n : Nat) (hn : 1 ≤ n) (hm : m ≤ 9223372036854775807) : Cl.get (aBin E .quo t xo yo) (.int .i64 (m : Nat)) (.int .i64 (n : Nat)) s = .some (.int .i64 (m / n : Nat)) s := by
 show int3 quoK (binSlow E .quo t xo yo) (.int .i64 (.ofNat m)) (.int .i64 (.ofNat n)) s = _
 show Option.rec (motive := fun _ => R Value) _ (fun v => .some v s) (quoK .i64 .i64 m n) = _
 have : quoK .i64 .i64 m n = some (.int .i64 (m / n : Nat)) := by
   unfold quoK sameK
   rw [Nat.beq_refl, Nat.ble_eq_true_of_le hn]
   exact fit64 (Nat.le_trans (Nat.div_le_self m n) hm)
 rw [this]
theorem AqF_ {m : Nat} (hm : m ≤ 9223372036854775807) (Q : Value → St → Prop) : W (Cl.get (aBin E .quo t xo yo) (.int .i64 (m : Nat)) (.int .i64 8)) s Q = Q (.int .i64 (m / 8 : Nat)) s := BK_ (Aon_ m 8 (by decide) hm)
theorem Aug_ {m : Nat} (Q : Value → St → Prop) : W (Cl.get (aBin E .rem t xo yo) (.int .i64 (m : Nat)) (.int .i64 8)) s Q = Q (.int .i64 (m % 8 : Nat)) s := Auo_ (n := 8) (by decide) Q
theorem MkS.bs {l : List Nat} {v : Value} {b : Nat} (h : MkS s 1 l.length (u8l l) v b) (hn : l.length < capU) : Bs s v l := by
 rcases h with ⟨rfl, h0, _⟩ | ⟨h, _⟩
 · exact .inl ⟨rfl, List.eq_nil_of_length_eq_zero h0⟩
 · refine .inr ⟨b, 0, _, h.val, ?_, Tt_ hn (by decide), fun i u e => (h.own i u e).at'⟩
   rw [Nat.mul_add_mod, Nat.mod_eq_of_lt hn]
   exact Nat.le_refl _
theorem MkS.bsF {n : Nat} {l : List Value} {v : Value} {b : Nat} (h : MkS s 1 n l v b) : ∀ x, BsF v x → MkF 1 n b x := by
 intro x hx
 rcases h with ⟨rfl, _, _⟩ | ⟨h, h0⟩
 · exact hx.elim
 · rw [h.val] at hx
   have h1 : b + 0 ≤ x := hx.1
   have h2 : x < b + 0 + n := hx.2
   exact ⟨h0, by omega, by omega⟩
theorem MkS.hsR {hs : List Hd} {n : Nat} {v : Value} {b : Nat} (h : MkS s 18 n (heldCs hs) v b) (hn : n = hs.length) : HsR s v hs := by
 subst hn
 rcases h with ⟨rfl, h0, _⟩ | ⟨h, _⟩
 · exact .inl ⟨rfl, List.eq_nil_of_length_eq_zero h0⟩
 · exact .inr ⟨b, 0, _, h.val, fun i u e => (h.own i u e).at'⟩
theorem MkS.put {l : List Nat} {k x : Nat} {v : Value} {b : Nat} {G : Nat → Prop} (h : MkS s 1 l.length (u8l l) v b) (hk : k < l.length) (hn : s'.next = s.next) (e : Ext G (In b k 1) s s') (ho : Own s' b k (.int .u8 (x : Nat))) : MkS s' 1 (l.set k x).length (u8l (l.set k x)) v b := by
 rw [List.length_set]
 rcases h with ⟨_, h0, _⟩ | ⟨h, h0⟩
 · omega
 · refine .inr ⟨⟨h.val, fun i u hi => ?_, ?_, ?_, by rw [hn]; exact h.lt⟩, h0⟩
   · by_cases hik : i = k
     · subst hik
       unfold u8l at hi
       rw [List.getElem?_map, List.getElem?_set_self hk] at hi
       have : u = .int .u8 (x : Nat) := by injection hi with hi; exact hi.symm
       subst this
       rwa [Nat.zero_add]
     · have hi' : (u8l l)[i]? = some u := by
         unfold u8l at hi ⊢
         rw [List.getElem?_map, List.getElem?_set_ne (fun q => hik q.symm)] at hi
         rw [List.getElem?_map]
         exact hi
       exact (h.own i u hi').ext e fun q => by
         have h1 := In1.1 q
         omega
   · rw [Ar_, List.length_set, Nat.mul_one]
   · have hlt : b + l.length * 1 < s.next := h.lt
     rw [e.mem _ hlt fun q => by have h1 := In1.1 q; omega]
     exact h.tok
theorem MkS.get {l : List Nat} {k : Nat} {v : Value} {b : Nat} (h : MkS s 1 l.length (u8l l) v b) (hk : k < l.length) : ∃ c, v = .slice (some ⟨b, 0, none⟩) l.length c ∧ Own s b k (.int .u8 (l.getD k 0 : Nat)) := by
 rcases h with ⟨_, h0, _⟩ | ⟨h, h0⟩
 · omega
 · refine ⟨_, h.val, ?_⟩
   have := h.own k (.int .u8 (l.getD k 0 : Nat)) (by
     unfold u8l
     rw [List.getElem?_map, List.getElem?_eq_getElem hk, List.getD_eq_getElem?_getD, List.getElem?_eq_getElem hk]
     rfl)
   rwa [Nat.zero_add] at this
theorem MkS.hat {hs : List Hd} {n i : Nat} {v : Value} {b : Nat} (h : MkS s 18 n (heldCs hs) v b) (hn : n = hs.length) (h16 : ∀ h ∈ hs, h.1.length = 16) (hi : i < hs.length) : ∃ c, v = .slice (some ⟨b, 0, none⟩) n c ∧ (n < capU → c % capU = n ∧ sizeOk c 18 = true) ∧ Row s b (0 + i * 18) (heldC hs[i]) ∧ ∀ w, w ≤ hs.length → Row s b 0 (heldCs (hs.take w)) := by
 rcases h with ⟨_, h0, _⟩ | ⟨h, h0⟩
 · omega
 · refine ⟨_, h.val, fun hc => ⟨by rw [Nat.mul_add_mod, Nat.mod_eq_of_lt hc], Tt_ hc (by decide)⟩, fun j u e => ?_, fun w hw j u e => ?_⟩
   · have hj : j < 18 := by
       have := (List.getElem?_eq_some_iff.1 e).1
       rwa [BY_ (h16 _ (List.getElem_mem hi))] at this
     have := (h.own (i * 18 + j) u (by rw [Acx_ h16 hi hj]; exact e)).at'
     rwa [show 0 + (i * 18 + j) = 0 + i * 18 + j by omega] at this
   · refine (h.own j u ?_).at'
     have es : hs = hs.take w ++ hs.drop w := (List.take_append_drop w hs).symm
     rw [es, Qp_, List.getElem?_append_left (List.getElem?_eq_some_iff.1 e).1]
     exact e
end
end Go.Proofs.Ytofanlcjeohcjaa.Am
