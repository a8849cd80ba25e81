import Derived.Test.YtchnfdaebboaeaaGreatDoorSFl08
import Derived.ChangeKeysEq
import Derived.Laws.Strings
namespace Go.Proofs.YtchnfdaebboaeaaGreatDoor.Am
open Go.RowKit
section
variable {α β : Type} {s : St} {E : Env} {t t2 : Nat}
theorem Ext.delC {F G : Nat → Prop} (s : St) (l : Nat) (hG : G l) : Ext F G s ⟨T.del s.mem l, s.next, s.lim, s.rd, notes l s.lim s.wr, s.cx⟩ := by
 obtain ⟨d, e, q⟩ := FC l s.lim s.wr
 refine ⟨Nat.le_refl _, rfl, rfl, fun x _ hx => ?_, ⟨[], rfl, fun _ h => by cases h⟩, ⟨d, e, fun x hx => ⟨(q x hx).1, by rw [(q x hx).2]; exact hG⟩⟩⟩
 show T.get (T.del s.mem l) x = _
 rw [T.get_del, if_neg]
 intro h
 exact hx (by rw [h]; exact hG)
theorem NV : ∀ (n l : Nat) (s : St), s.lim ≤ s.next → l + n ≤ s.next → ∃ s', Ch n l s = .some () s' ∧ s'.next = s.next ∧ Ext Non (fun x => l ≤ x ∧ x < l + n) s s'
 | 0, _, s, _, _ => ⟨s, rfl, rfl, Ext.refl s⟩
 | n + 1, l, s, hb, h => by
   have x1 : Ext Non (fun x => l ≤ x ∧ x < l + (n + 1)) s ⟨T.del s.mem l, s.next, s.lim, s.rd, notes l s.lim s.wr, s.cx⟩ := Ext.delC s l ⟨Nat.le_refl _, by omega⟩
   obtain ⟨s2, e2, n2, x2⟩ := NV n (l + 1) ⟨T.del s.mem l, s.next, s.lim, s.rd, notes l s.lim s.wr, s.cx⟩ hb (by show l + 1 + n ≤ s.next; omega)
   refine ⟨s2, ?_, n2, x1.trans x2 hb (fun _ _ h => h) fun x _ h => ⟨by have := h.1; omega, by have := h.2; omega⟩⟩
   show M.bind (Am.delC l) (fun _ => Ch n (l + 1)) s = _
   have e1 : Am.delC l s = .some () ⟨T.del s.mem l, s.next, s.lim, s.rd, notes l s.lim s.wr, s.cx⟩ := by
     obtain ⟨mem, next, lim, rd, wr, cx⟩ := s
     show Bool.rec (motive := fun _ => R Unit) .none (R.some () (St.mk (T.del mem l) next lim rd (notes l lim wr) cx)) (Nat.blt l next) = _
     rw [Bv (show l < next from Nat.lt_of_lt_of_le (by omega) h)]
   rw [AW e1]
   exact e2
structure Marked (s : St) (sz n : Nat) (l : List Value) (v : Value) (b : Nat) : Prop where
  val : v = .slice (some ⟨b, 0, none⟩) n (capU * ((b + n * sz) * 1024 + sz) + n)
  own : Al s b 0 l
  len : l.length = n * sz
  tok : ∃ q, q % 1024 = sz ∧ T.get s.mem (b + n * sz) = some (.O (.tok false q))
  lt : b + n * sz < s.next
theorem Fresh1.marked {s s' : St} {sz n : Nat} {l : List Value} {v : Value} {b : Nat} (h : Fresh1 s s' sz n l v b) : Marked s' sz n l v b := ⟨h.val, h.own, h.len, h.tok, h.lt⟩
theorem Marked.ext {F G : Nat → Prop} {s s' : St} {sz n : Nat} {l : List Value} {v : Value} {b : Nat} (h : Marked s sz n l v b) (e : Ext F G s s') (hG : ∀ x, In b 0 (n * sz + 1) x → ¬ G x) : Marked s' sz n l v b :=
 ⟨h.val, h.own.ext e fun i hi => hG _ ⟨by omega, by rw [h.len] at hi; omega⟩, h.len, let ⟨q, h1, h2⟩ := h.tok; ⟨q, h1, by rw [e.mem _ h.lt (hG _ ⟨by omega, by omega⟩)]; exact h2⟩, Nat.lt_of_lt_of_le h.lt e.nxt⟩
theorem Marked.same {s s' : St} {sz n : Nat} {l : List Value} {v : Value} {b : Nat} (h : Marked s sz n l v b) (hm : s'.mem = s.mem) (hn : s'.next = s.next) : Marked s' sz n l v b :=
 ⟨h.val, fun i v e => (h.own i v e).same hm hn, h.len, by rw [hm]; exact h.tok, by rw [hn]; exact h.lt⟩
theorem W.appMark (hbd : s.lim ≤ s.next) {sz by' n len b : Nat} {z l old : List Value} {v x : Value} {F : Nat → Prop} {Q : Value → St → Prop} {g : Bool} (ht : appT E t t2 = some (sz, by', g, z)) (hm : Marked s sz len old v b) (hx : SrcG s sz by' g z x n l F) (hn : 0 < n) (hlen : 0 < len) (hs0 : 0 < sz) (hs1 : sz < 1024)
   (hb : (len + n) * (by' + 1) ≤ 16777216) (hl : l.length = n * sz) (h1 : l.all oneCell = true)
   (q : ∀ s2 v2 b2, Fresh1 s s2 sz (len + n) (old ++ l) v2 b2 → Ext (fun x => F x ∨ In b 0 (len * sz + 1) x) (In b 0 (len * sz + 1)) s s2 → Q v2 s2) : W (BR E t t2 v x) s Q := by
 obtain ⟨i, i2, e, ie, g1, g2, g3, g4, g5, g6, g7, g8⟩ := GI ht
 obtain ⟨hN, s1, e1, m1, n1, x1⟩ := hx ie g5 g6 g8
 subst g5; subst g6
 rw [hm.val]
 have hle : len < capU := by
   have : len ≤ 16777216 := by
     have h2 : len * 1 ≤ (len + n) * (ie.bytes + 1) := Nat.mul_le_mul (by omega) (by omega)
     omega
   unfold capU
   omega
 have hmod : (capU * ((b + len * ie.size) * 1024 + ie.size) + len) % capU = len := by
   rw [Nat.mul_add_mod, Nat.mod_eq_of_lt hle]
 have hdiv : (capU * ((b + len * ie.size) * 1024 + ie.size) + len) / capU = (b + len * ie.size) * 1024 + ie.size := by
   rw [Nat.mul_add_div (by decide), Nat.div_eq_of_lt hle, Nat.add_zero]
 generalize hc : capU * ((b + len * ie.size) * 1024 + ie.size) + len = c at *
 refine W.bind (W.ti g1 (W.bind (W.ti g2 ?_)))
 rw [g3, g7]
 refine W.bind (W.ti g4 (W.bind (W.of (hN s) (W.bind ?_))))
 refine W.of e1 ?_
 show W (M.if (Nat.ble (Nat.add len n) (c % capU)) _ _) s1 Q
 have hz : Nat.ble (Nat.add len n) (c % capU) = false := by
   cases hq : Nat.ble (Nat.add len n) (c % capU) with
   | false => rfl
   | true =>
     have h2 := Nat.le_of_ble_eq_true hq
     rw [hmod] at h2
     have h3 : Nat.add len n = len + n := rfl
     omega
 rw [hz]
 show W (grow ie.size ie.bytes (CN ie.zero) (some ⟨b, 0, none⟩) len c n l) s1 Q
 unfold grow
 have hm1 : Marked s1 ie.size len old v b := hm.same m1 n1
 have hb1 : s1.lim ≤ s1.next := x1.bnd hbd
 refine W.chk ?_ (W.bind ?_)
 · rw [h1, hl, hmod]
   simp only [Bool.and_true, Bool.and_eq_true, Bool.or_eq_true]
   refine ⟨⟨⟨⟨Nat.ble_eq_true_of_le hb, Bv hs0⟩, Bv hs1⟩, .inl (Bv hlen)⟩, Nat.beq_refl _⟩
 · show W (oldL ie.size (some ⟨b, 0, none⟩) (Bool.rec (motive := fun _ => Nat) (c % capU) len (Nat.beq (c / capU) 0))) s1 _
   rw [hmod, hdiv]
   have hb0 : Nat.beq ((b + len * ie.size) * 1024 + ie.size) 0 = false := by
     cases hq : Nat.beq ((b + len * ie.size) * 1024 + ie.size) 0 with
     | false => rfl
     | true => have := Nat.eq_of_beq_eq_true hq; omega
   rw [hb0]
   show W (Am.rdL (len * ie.size) ⟨b, 0, none⟩) s1 _
   rw [← hm1.len]
   refine W.rdL hm1.own.row fun s2 m2 n2 x2 => W.bind ?_
   have hm2 : Marked s2 ie.size len old v b := hm1.same m2 n2
   have hb2 : s2.lim ≤ s2.next := x2.bnd hb1
   show W (CC ie.size (some ⟨b, 0, none⟩) (c % capU) (c / capU)) s2 _
   rw [hmod, hdiv]
   unfold CC
   show W (M.if (Nat.beq ((b + len * ie.size) * 1024 + ie.size) 0) _ _) s2 _
   rw [hb0]
   have hd1 : ((b + len * ie.size) * 1024 + ie.size) / 1024 = b + len * ie.size := by omega
   have hd2 : ((b + len * ie.size) * 1024 + ie.size) % 1024 = ie.size := by omega
   show W (M.bind (Am.rdC (((b + len * ie.size) * 1024 + ie.size) / 1024)) _) s2 _
   rw [hd1]
   obtain ⟨qo, hqo, htok⟩ := hm2.tok
   refine W.bind (W.rdC htok hm2.lt ?_)
   show W (M.chk (Nat.beq (qo % 1024) ie.size && Nat.beq (((b + len * ie.size) * 1024 + ie.size) % 1024) ie.size) (M.bind (Am.wrC (((b + len * ie.size) * 1024 + ie.size) / 1024) (.O (.tok true ie.size))) fun _ => M.bind (Ep ie.size (some ⟨b, 0, none⟩) len) fun _ => Am.fN (qo / 1024) fun f => M.pure f)) _ _
   rw [hd2, hd1, hqo]
   refine W.chk (by rw [Nat.beq_refl]; rfl) (W.bind (W.wrC hm2.lt ?_))
   refine W.bind ?_
   show W (Ch (len * ie.size) (b + 0)) _ _
   generalize hs3 : ((s2.rdN (b + len * ie.size)).wrN (b + len * ie.size) (.O (.tok true ie.size))) = s3
   have x3 : Ext (In b 0 (len * ie.size + 1)) (In b 0 (len * ie.size + 1)) s2 s3 := by
     rw [← hs3]
     have a1 : Ext (In b 0 (len * ie.size + 1)) (In b 0 (len * ie.size + 1)) s2 (s2.rdN (b + len * ie.size)) := Ext.rdN s2 _ fun _ => ⟨by omega, by omega⟩
     exact a1.trans (Ext.wrN (F := In b 0 (len * ie.size + 1)) (s2.rdN (b + len * ie.size)) _ _ ⟨by omega, by omega⟩) hb2 (fun _ _ h => h) fun _ _ h => h
   have n3 : s3.next = s2.next := by rw [← hs3]; rfl
   have hb3 : s3.lim ≤ s3.next := x3.bnd hb2
   obtain ⟨s4, e4, n4, x4⟩ := NV (len * ie.size) (b + 0) s3 hb3 (by have := hm2.lt; omega)
   refine W.of e4 (W.fN (W.pure (W.bind (W.newL fun s5 n5 x5 r5 => W.fN (W.fN (W.bind (W.wrC ?_ ?_)))))))
   · rw [n5]
     simp only [Nat.add_eq, Nat.mul_eq, List.length_append, List.length_take, hm.len, hl, Nat.min_self]
     rw [Nat.add_mul]
     omega
   · show W (Am.fA (⟨s4.next, 0, none⟩ : Addr) fun a => Am.fN (Nat.add len n) fun l => Am.fN _ fun c => M.pure (.slice (some a) l c)) _ Q
     have htake : old.take (Nat.mul len ie.size) = old := List.take_of_length_le (by rw [hm.len]; exact Nat.le_refl _)
     rw [htake] at n5 r5
     have hadd : Nat.add len n = len + n := rfl
     have hmul : Nat.mul (len + n) ie.size = (len + n) * ie.size := rfl
     have hal : (old ++ l).length = (len + n) * ie.size := by rw [List.length_append, hm.len, hl, Nat.add_mul]
     have nn : s.next ≤ s4.next := by rw [n4, n3, n2, n1]; exact Nat.le_refl _
     have xall : Ext (fun x => F x ∨ In b 0 (len * ie.size + 1) x) (In b 0 (len * ie.size + 1)) s s5 := by
       have y1 : Ext (fun x => F x ∨ In b 0 (len * ie.size + 1) x) (In b 0 (len * ie.size + 1)) s s1 := x1.weak hbd (fun _ _ h => .inl h) fun _ _ h => h.elim
       have y2 := y1.trans x2 hbd (fun x _ h => .inr ⟨h.1, by have := h.2; rw [hm.len] at this; omega⟩) fun _ _ h => h.elim
       have y3 := y2.trans x3 hbd (fun x _ h => .inr h) fun _ _ h => h
       have y4 := y3.trans x4 hbd (fun _ _ h => h.elim) fun x _ h => ⟨by have := h.1; omega, by have := h.2; omega⟩
       exact y4.trans x5 hbd (fun _ _ h => h.elim) fun _ _ h => h.elim
     have hb5 : s5.lim ≤ s5.next := xall.bnd hbd
     refine W.fA (W.fN (W.fN (W.pure (q _ _ s4.next ⟨?_, nn, ?_, hal, ?_, ?_⟩ ?_))))
     · rfl
     · intro k v hk
       have hk' := (List.getElem?_eq_some_iff.1 hk).1
       have := r5 k v hk
       refine ⟨this.1, ?_⟩
       show T.get (T.set s5.mem _ _) _ = _
       rw [T.get_set, if_neg]
       · exact this.2
       · rw [hadd, hmul]
         show s4.next + (0 + k) ≠ s4.next + (len + n) * ie.size
         omega
     · refine ⟨flg ie.size (qo / 1024) (CN ie.zero), Gv hs1, ?_⟩
       show T.get (T.set s5.mem (Nat.add s4.next (Nat.mul (Nat.add len n) ie.size)) _) _ = _
       rw [hadd, hmul, T.get_set]
       exact if_pos rfl
     · show s4.next + (len + n) * ie.size < s5.next
       rw [n5, hal]
       omega
     · refine xall.trans (Ext.wrN (F := Non) (G := fun x => s4.next ≤ x) s5 _ _ ?_) hbd (fun _ _ h => h.elim) fun x hx h => ?_
       · show s4.next ≤ s4.next + Nat.mul (Nat.add len n) ie.size
         omega
       · omega
end
section
variable {s s' : St} {E : Env} {t t2 : Nat}
def MkS (s : St) (sz n : Nat) (l : List Value) (v : Value) (b : Nat) : Prop := (v = .slice none 0 0 ∧ n = 0 ∧ l = []) ∨ (Marked s sz n l v b ∧ 0 < n)
def MkF (sz n b : Nat) (x : Nat) : Prop := 0 < n ∧ In b 0 (n * sz + 1) x
theorem MkS.ext {F G : Nat → Prop} {sz n : Nat} {l : List Value} {v : Value} {b : Nat} (h : MkS s sz n l v b) (e : Ext F G s s') (hG : ∀ x, MkF sz n b x → ¬ G x) : MkS s' sz n l v b := by
 rcases h with h | ⟨h, h0⟩
 · exact .inl h
 · exact .inr ⟨h.ext e fun x hx => hG x ⟨h0, hx⟩, h0⟩
theorem MkS.ext0 {F : Nat → Prop} {sz n : Nat} {l : List Value} {v : Value} {b : Nat} (h : MkS s sz n l v b) (e : Ext F Non s s') : MkS s' sz n l v b := h.ext e fun _ _ => id
theorem MkS.same {sz n : Nat} {l : List Value} {v : Value} {b : Nat} (h : MkS s sz n l v b) (hm : s'.mem = s.mem) (hn : s'.next = s.next) : MkS s' sz n l v b := by
 rcases h with h | ⟨h, h0⟩
 · exact .inl h
 · exact .inr ⟨h.same hm hn, h0⟩
theorem MkS.lt {sz n : Nat} {l : List Value} {v : Value} {b : Nat} (h : MkS s sz n l v b) : ∀ x, MkF sz n b x → x < s.next := by
 intro x hx
 rcases h with ⟨_, h0, _⟩ | ⟨h, _⟩
 · have := hx.1; omega
 · have h1 := h.lt
   have h2 : x < b + 0 + (n * sz + 1) := hx.2.2
   omega
theorem MkS.sl {sz n : Nat} {l : List Value} {v : Value} {b : Nat} (h : MkS s sz n l v b) : ∃ p c, v = .slice p n c := by
 rcases h with ⟨rfl, rfl, _⟩ | ⟨h, _⟩
 · exact ⟨_, _, rfl⟩
 · exact ⟨_, _, h.val⟩
theorem MkS.len {sz n : Nat} {l : List Value} {v : Value} {b : Nat} (h : MkS s sz n l v b) {z : Nat} (ht : slN E t = some z) (Q : Value → St → Prop) : W (Bt E .len [t] [v]) s' Q = Q (.int .i64 (n : Nat)) s' := by
 obtain ⟨p, c, rfl⟩ := h.sl
 exact Ga ht Q
theorem W.appU (hbd : s.lim ≤ s.next) {sz by' n len b : Nat} {z l old : List Value} {v x : Value} {F : Nat → Prop} {Q : Value → St → Prop} {g : Bool} (ht : appT E t t2 = some (sz, by', g, z)) (hm : MkS s sz len old v b) (hx : SrcG s sz by' g z x n l F) (hn : 0 < n) (hs0 : 0 < sz) (hs1 : sz < 1024)
   (hb : (len + n) * (by' + 1) ≤ 16777216) (hl : l.length = n * sz) (h1 : l.all oneCell = true)
   (q : ∀ s2 v2 b2, s.next ≤ b2 → MkS s2 sz (len + n) (old ++ l) v2 b2 → Ext (fun x => F x ∨ MkF sz len b x) (MkF sz len b) s s2 → Q v2 s2) : W (BR E t t2 v x) s Q := by
 rcases hm with ⟨rfl, rfl, rfl⟩ | ⟨hm, h0⟩
 · rw [Nat.zero_add] at hb
   refine W.appNil hbd ht hx hn hs0 hs1 hb hl h1 fun s2 v2 b2 hf xf => ?_
   refine q s2 v2 b2 hf.new (.inr ⟨?_, by omega⟩) (xf.weak hbd (fun _ _ h => .inl h) fun _ _ h => h.elim)
   rw [Nat.zero_add]
   exact hf.marked
 · refine W.appMark hbd ht hm hx hn h0 hs0 hs1 hb hl h1 fun s2 v2 b2 hf xf => ?_
   exact q s2 v2 b2 hf.new (.inr ⟨hf.marked, by omega⟩) (xf.weak hbd (fun _ _ h => h.elim .inl fun h => .inr ⟨h0, h⟩) fun _ _ h => ⟨h0, h⟩)
end
section
variable {s s' : St} {E : Env} {t t2 : Nat} {xo yo : Operand}
def EmS (s : St) (sz n : Nat) (l : List Value) (v : Value) (b : Nat) : Prop := (v = .slice (some ⟨b, 0, none⟩) 0 0 ∧ n = 0 ∧ l = []) ∨ (Marked s sz n l v b ∧ 0 < n)
theorem EmS.same {sz n : Nat} {l : List Value} {v : Value} {b : Nat} (h : EmS s sz n l v b) (hm : s'.mem = s.mem) (hn : s'.next = s.next) : EmS s' sz n l v b := by
 rcases h with h | ⟨h, h0⟩
 · exact .inl h
 · exact .inr ⟨h.same hm hn, h0⟩
theorem EmS.row {sz n : Nat} {l : List Value} {v : Value} {b : Nat} (h : EmS s sz n l v b) : ∃ c, v = .slice (some ⟨b, 0, none⟩) n c ∧ Row s b 0 l := by
 rcases h with ⟨rfl, rfl, rfl⟩ | ⟨h, _⟩
 · exact ⟨_, rfl, fun i u e => by simp at e⟩
 · exact ⟨_, h.val, h.own.row⟩
theorem W.appE (hbd : s.lim ≤ s.next) {sz by' n len b : Nat} {z l old : List Value} {v x : Value} {F : Nat → Prop} {Q : Value → St → Prop} {g : Bool} (ht : appT E t t2 = some (sz, by', g, z)) (hm : EmS s sz len old v b) (hx : SrcG s sz by' g z x n l F) (hs0 : 0 < sz) (hs1 : sz < 1024)
   (hb : (len + n) * (by' + 1) ≤ 16777216) (hl : l.length = n * sz) (h1 : l.all oneCell = true)
   (q : ∀ s2 v2 b2, (b2 = b ∨ s.next ≤ b2) → EmS s2 sz (len + n) (old ++ l) v2 b2 → Ext (fun x => F x ∨ MkF sz len b x) (MkF sz len b) s s2 → Q v2 s2) : W (BR E t t2 v x) s Q := by
 by_cases hn : n = 0
 · subst hn
   have hl0 : l = [] := List.eq_nil_of_length_eq_zero (by rw [hl, Nat.zero_mul])
   subst hl0
   have hno : ∀ (o : Nat) x, In b o (0 * sz) x → False := fun o x h => by
     have h1 := h.1
     have h2 := h.2
     rw [Nat.zero_mul] at h2
     omega
   have hle : ∀ c, v = .slice (some ⟨b, 0, none⟩) len c → len ≤ c % capU := fun c hc => by
     rcases hm with ⟨e, rfl, _⟩ | ⟨hm, _⟩
     · exact Nat.zero_le _
     · have e := hm.val
       rw [e] at hc
       have h2 : len < capU := by
         have : len * 1 ≤ (len + 0) * (by' + 1) := Nat.mul_le_mul (by omega) (by omega)
         unfold capU
         omega
       injection hc with _ _ hc
       rw [← hc, Nat.mul_add_mod, Nat.mod_eq_of_lt h2]
       exact Nat.le_refl _
   obtain ⟨c, rfl, _⟩ := hm.row
   refine W.appIn ht hx (by have := hle c rfl; omega) hl h1 (fun i hi => by rw [Nat.zero_mul] at hi; omega) fun s2 n2 x2 _ => ?_
   have x3 : Ext (fun x => F x ∨ MkF sz len b x) (MkF sz len b) s s2 := x2.weak hbd (fun y _ h => h.elim .inl fun h => (hno _ y h).elim) fun y _ h => (hno _ y h).elim
   refine q s2 _ b (.inl rfl) ?_ x3
   rw [List.append_nil, Nat.add_zero]
   have x4 : Ext (fun x => F x ∨ MkF sz len b x) Non s s2 := x2.weak hbd (fun y _ h => h.elim .inl fun h => (hno _ y h).elim) fun y _ h => hno _ y h
   rcases hm with hm | ⟨hm, h0⟩
   · exact .inl hm
   · exact .inr ⟨hm.ext x4 fun _ _ => id, h0⟩
 · have hn0 : 0 < n := by omega
   rcases hm with ⟨rfl, rfl, rfl⟩ | ⟨hm, h0⟩
   · rw [Nat.zero_add] at hb
     refine W.appEmp hbd ht hx hn0 hs0 hs1 hb hl h1 fun s2 v2 b2 hf xf => ?_
     refine q s2 v2 b2 (.inr hf.new) (.inr ⟨?_, by omega⟩) (xf.weak hbd (fun _ _ h => .inl h) fun _ _ h => h.elim)
     rw [Nat.zero_add]
     exact hf.marked
   · refine W.appMark hbd ht hm hx hn0 h0 hs0 hs1 hb hl h1 fun s2 v2 b2 hf xf => ?_
     exact q s2 v2 b2 (.inr hf.new) (.inr ⟨hf.marked, by omega⟩) (xf.weak hbd (fun _ _ h => h.elim .inl fun h => .inr ⟨h0, h⟩) fun _ _ h => ⟨h0, h⟩)
end
section
variable {P : Program} {E : Env} {s : St} {t : Nat}
theorem Q4 (l : List Nat) : plain (.agg (u8l l).toArray) = true := by
 show (u8l l).toArray.toList.all (AY 3) = true
 rw [List.all_eq_true]
 intro v hv
 simp only [List.mem_map] at hv
 obtain ⟨n, _, rfl⟩ := hv
 rfl
theorem Dm_ {op : BinOp} {xo yo : Operand} {a b : ByteArray} {v : Value} (hc : ∀ s, Cl.get (aBin E op t xo yo) (.string a) (.string b) s = AV E op t xo yo (.string a) (.string b) s) (hg : semP E.P (eqGuard op t xo yo (.string a) (.string b)) = some ()) (hb : semP E.P (binOp op t (.string a) (.string b)) = some v) (hv : ∀ s : St, pV v s = .some v s) :
   Cl.get (aBin E op t xo yo) (.string a) (.string b) s = .some v s := by
 rw [hc]
 unfold AV
 show M.on (semP E.P (do eqGuard op t xo yo (.string a) (.string b); binOp op t (.string a) (.string b))) pV s = _
 rw [En, hg]
 show M.on (semP E.P (binOp op t (.string a) (.string b))) pV s = _
 rw [hb]
 exact hv s
theorem El_ {xo yo : Operand} (a b : ByteArray) (Q : Value → St → Prop) : W (Cl.get (aBin E .eql t xo yo) (.string a) (.string b)) s Q = Q (.bool (a.data.toList == b.data.toList)) s :=
 A5 (Dm_ (fun _ => rfl) rfl (by rw [← ByteArray.toList_eq, ← ByteArray.toList_eq]; rfl) fun _ => rfl)
end
open Go.RowKit Go.ChangeShapes Go.WideShapes
abbrev Any : Nat → Prop := fun _ => True
theorem Ext.any {F G : Nat → Prop} {s s1 : St} (h : Ext F G s s1) (hb : s.lim ≤ s.next) : Ext Any G s s1 := h.weak hb (fun _ _ _ => trivial) fun _ _ h => h
theorem Ext.then0 {F : Nat → Prop} {s s1 s2 : St} (h : Ext Any Non s s1) (k : Ext F Non s1 s2) (hb : s.lim ≤ s.next) : Ext Any Non s s2 := h.trans k hb (fun _ _ _ => trivial) fun _ _ h => h
theorem Ext.thenRd {s s1 : St} (h : Ext Any Non s s1) (hb : s.lim ≤ s.next) (l : Nat) : Ext Any Non s (s1.rdN l) := h.then0 (Ext.rdN (F := Any) s1 l fun _ => trivial) hb
theorem Ext.cx' {F G : Nat → Prop} {s s1 : St} {c : Ctx} (x : Ext F G (s.cxN c) s1) : Ext F G s (s1.cxN s.cx) := ⟨x.nxt, x.lim, rfl, x.mem, x.rd, x.wr⟩
section
variable {E : Env} {t : Nat} {s : St} {xo yo : Operand}
end
def OC (P : Program) (t : TypeId) (l : List (TypeId × Nat)) : Bool := match P.underlying t with
  | some (.struct fs) => decide (fs.toList.map (fun x => (x.type, x.offset)) = l)
  | _ => false
theorem Bu.struct {P : Program} {N F : Nat} {s : St} {t : TypeId} {us : List Value} {l : List (TypeId × Nat)} (hb : OC P t l = true) (h : Bu P N s (F + 1) t us) : us.length = P.cellsOf t ∧ ∀ x ∈ l, Bu P N s F x.1 ((us.drop x.2).take (P.cellsOf x.1)) := by
 unfold OC at hb
 unfold Bu at h
 cases hu : P.underlying t with
 | none => rw [hu] at hb; cases hb
 | some u =>
   rw [hu] at hb h
   cases u <;> try (cases hb; done)
   have e := of_decide_eq_true hb
   refine ⟨h.1, fun x hx => ?_⟩
   rw [← e] at hx
   obtain ⟨y, hy, rfl⟩ := List.mem_map.1 hx
   exact h.2 y hy
theorem JS.one {P : Program} {N F : Nat} {s : St} {t : TypeId} {u : Value} (hb : aggT P t = false) (h : JS P N s F t u) : Bu P N s F t [u] := by
 obtain ⟨us, h1, ⟨h2, _⟩ | ⟨_, rfl⟩⟩ := h
 · rw [hb] at h2; cases h2
 · exact h1
theorem JS.agg {P : Program} {N F : Nat} {s : St} {t : TypeId} {u : Value} (hb : aggT P t = true) (h : JS P N s F t u) : ∃ us, u = .agg us.toArray ∧ Bu P N s F t us := by
 obtain ⟨us, h1, ⟨_, h2⟩ | ⟨h2, _⟩⟩ := h
 · exact ⟨us, h2, h1⟩
 · rw [hb] at h2; cases h2
section
variable {E : Env} {s : St} {t : Nat}
def Obj (s : St) (l : Nat) (o : AObj) : Prop := l < s.next ∧ T.get s.mem l = some (.O o)
theorem Obj.ext {F G : Nat → Prop} {s s' : St} {l : Nat} {o : AObj} (h : Obj s l o) (e : Ext F G s s') (hG : ¬ G l) : Obj s' l o := ⟨Nat.lt_of_lt_of_le h.1 e.nxt, by rw [e.mem _ h.1 hG]; exact h.2⟩
theorem Obj.same {s s' : St} {l : Nat} {o : AObj} (h : Obj s l o) (hm : s'.mem = s.mem) (hn : s'.next = s.next) : Obj s' l o := by
 unfold Obj at *
 rw [hm, hn]
 exact h
theorem W.newO {o : AObj} {Q : Nat → St → Prop} (q : ∀ s1, s1.next = s.next + 1 → Ext Non Non s s1 → Obj s1 s.next o → Q s.next s1) : W (newO o) s Q := by
 obtain ⟨mem, next, lim, rd, wr, cx⟩ := s
 refine ⟨next, ⟨T.set mem next (.O o), next + 1, lim, rd, wr, cx⟩, ?_, q _ rfl ⟨by simp only; omega, rfl, rfl, fun l hl _ => ?_, ⟨[], rfl, fun _ h => by cases h⟩, ⟨[], rfl, fun _ h => by cases h⟩⟩ ⟨by simp only; omega, ?_⟩⟩
 · show Am.fN next (fun b => Am.fN (Nat.succ b) fun n => R.some b (St.mk (T.set mem b (.O o)) n lim rd wr cx)) = _
   rw [AG, AG]
 · simp only at hl ⊢
   rw [T.get_set, if_neg (by omega)]
 · simp only
   rw [T.get_set, if_pos rfl]
theorem W.getCx {Q : Ctx → St → Prop} (q : Q s.cx s) : W getCx s Q := by
 obtain ⟨mem, next, lim, rd, wr, cx⟩ := s
 exact ⟨cx, _, rfl, q⟩
theorem W.putCx {c : Ctx} {Q : Unit → St → Prop} (q : Q () (s.cxN c)) : W (putCx c) s Q := by
 obtain ⟨mem, next, lim, rd, wr, cx⟩ := s
 exact ⟨(), _, rfl, q⟩
abbrev FZ (d : Nat) : Deferred := { target := .collected d, args := #[] }
noncomputable def rfP (l : List Item) : Option (Nat × List Nat × Code × Code) := match l with | .code (.rangeFunc (.tmp t) ps as bd) :: _ => some (t, ps.toList, as, bd) | _ => none
theorem XX {P : List Item} {t : Nat} {ps : List Nat} {as bd : Code} (h : rfP P = some (t, ps, as, bd)) : ∃ pa : Array Nat, P = .code (.rangeFunc (.tmp t) pa as bd) :: P.tail ∧ pa.toList = ps := by
 unfold rfP at h
 split at h
 · cases h
   exact ⟨_, rfl, rfl⟩
 · cases h
theorem W.rangeFunc {n f nt g f2 : Nat} {tm : T Value} {T P : List Item} {ki : CallKind} {first cap : Array Value} {up : Option FrameMode} {dfs : List Deferred} {ps : List Nat} {as bd : Code} {Q : Value × FrameMode → St → Prop} (ht : skim 64 T = P) (hP : rfP P = some (t, ps, as, bd)) (hv : Am.T.get tm t = some (.func (.func f2) first cap)) (hx : E.ext.get f2 = none)
   (hc : s.cx = .cx up (some dfs)) (hn : 0 < n)
   (h : ∀ s1, s1.next = s.next + 2 → Ext Non Non s s1 → Obj s1 s.next (.deferred (some [])) → Obj s1 (s.next + 1) (.loop .ready none f nt g tm ps as bd s.next) →
     W (AJ E (runF E (n - 1)) f2 (first.toList ++ (.func (.yield (s.next + 1)) #[] #[] :: cap.toList))) (s1.cxN (.cx up (some (FZ s.next :: dfs)))) fun _ s2 => Obj s2 (s.next + 1) (.loop .ready none f nt g tm ps as bd s.next) ∧
       W (runF E (n - 1) ⟨f, nt, g, tm, P.tail, .run, ki, none⟩) ((s2.rdN (s.next + 1)).wrN (s.next + 1) (.O (.loop .exhausted none f nt g tm ps as bd s.next))) Q) : W (runF E n ⟨f, nt, g, tm, T, .run, ki, none⟩) s Q := by
 obtain ⟨m, rfl⟩ : ∃ m, n = m + 1 := ⟨n - 1, by omega⟩
 rw [Nat.add_sub_cancel] at h
 obtain ⟨pa, hP2, rfl⟩ := XX hP
 rw [hP2] at ht
 refine W.code ht ?_
 show W (M.on (Am.T.get tm t) fun fv => ER E (AJ E (runF E m)) ⟨f, nt, g, tm, .code (.rangeFunc (.tmp t) pa as bd) :: P.tail, .run, ki, none⟩ fv pa as bd P.tail) s _
 refine W.on hv (W.bind (W.bind (W.newO fun sa na xa oa => W.bind (W.getCx ?_))))
 have hca : sa.cx = .cx up (some dfs) := by rw [xa.cx]; exact hc
 rw [hca]
 refine W.bind (W.putCx (W.pure (W.bind (W.newO fun sb nb xb ob => ?_))))
 have hb : W (AJ E (runF E m) f2 (first.toList ++ (.func (.yield (s.next + 1)) #[] #[] :: cap.toList))) sb fun _ s2 => Obj s2 (s.next + 1) (.loop .ready none f nt g tm pa.toList as bd s.next) ∧
       W (runF E m ⟨f, nt, g, tm, P.tail, .run, ki, none⟩) ((s2.rdN (s.next + 1)).wrN (s.next + 1) (.O (.loop .exhausted none f nt g tm pa.toList as bd s.next))) Q := by
   have hn1 : (sa.cxN (.cx up (some (FZ s.next :: dfs)))).next = s.next + 1 := na
   rw [hn1] at ob nb
   have hcb : sb.cx = .cx up (some (FZ s.next :: dfs)) := xb.cx
   have x : Ext Non Non s (sb.cxN s.cx) := by
     refine ⟨?_, ?_, rfl, fun l hl hg => ?_, ?_, ?_⟩
     · show s.next ≤ sb.next
       omega
     · exact xb.lim.trans xa.lim
     · exact (xb.mem l (show l < sa.next by omega) hg).trans (xa.mem l hl hg)
     · obtain ⟨d1, p1, p2⟩ := xa.rd
       obtain ⟨d2, p3, p4⟩ := xb.rd
       refine ⟨d2 ++ d1, ?_, fun l hl => ?_⟩
       · rw [List.append_assoc, ← p1]; exact p3
       · rcases List.mem_append.1 hl with hl | hl
         · exact (p4 l hl).2.elim
         · exact (p2 l hl).2.elim
     · obtain ⟨d1, p1, p2⟩ := xa.wr
       obtain ⟨d2, p3, p4⟩ := xb.wr
       refine ⟨d2 ++ d1, ?_, fun l hl => ?_⟩
       · rw [List.append_assoc, ← p1]; exact p3
       · rcases List.mem_append.1 hl with hl | hl
         · exact (p4 l hl).2.elim
         · exact (p2 l hl).2.elim
   have := h (sb.cxN s.cx) (by show sb.next = _; omega) x (by
     have h1 : Obj (sa.cxN (.cx up (some (FZ s.next :: dfs)))) s.next (.deferred (some [])) := oa.same rfl rfl
     exact (h1.ext xb id).same rfl rfl) (ob.same rfl rfl)
   rw [show (sb.cxN s.cx).cxN (.cx up (some (FZ s.next :: dfs))) = sb by
     rw [← hcb]; rfl] at this
   exact this
 have hn1 : (sa.cxN (.cx up (some (FZ s.next :: dfs)))).next = s.next + 1 := na
 rw [hn1]
 refine W.bind (W.np ?_)
 show W (M.chk (E.ext.get f2).isNone (AJ E (runF E m) f2 (first.toList ++ (.func (.yield (s.next + 1)) #[] #[] :: cap.toList)))) sb _
 refine W.chk (by rw [hx]; rfl) (hb.mono fun _ s2 q => ?_)
 obtain ⟨q1, q2⟩ := q
 show W (M.bind (Am.rdC (s.next + 1)) _) s2 _
 refine W.bind (W.rdC q1.2 q1.1 ?_)
 exact W.bind (W.wrC q1.1 (W.pure q2))
theorem W.yield {call round : Ae} {l : Nat} {args : List Value} {Q : Value → St → Prop} (h : W (round l args) s Q) : W (B3 call round (.func (.yield l) #[] #[]) args) s Q := h
theorem W.round {n l f nt g d : Nat} {tm : T Value} {ps : List Nat} {as bd : Code} {st : LoopState} {pe : Option Code} {args : List Value} {Q : Value → St → Prop} (hO : Obj s l (.loop st pe f nt g tm ps as bd d)) (ha : args.length = ps.length) (hps : ps.all (fun p => Nat.blt p nt) = true)
   (h : W (runF E n ⟨f, nt, g, Hl g ps args tm, [.code as, .beginRound, .code bd], .run, .normal, some l⟩) ((s.rdN l).cxN cxR) fun p s1 => Q p.1 (s1.cxN s.cx)) : W (BB (runF E n) l args) s Q := by
 refine W.np (W.within (W.bind (W.bind ?_)))
 refine W.bind (W.rdC (s := s.cxN cxR) hO.2 hO.1 ?_)
 show W (M.chk (Nat.beq args.length ps.length && ps.all fun p => Nat.blt p nt) _) _ _
 refine W.chk (by rw [ha, hps, Nat.beq_refl]; rfl) (W.pure ?_)
 exact h.mono fun p s1 q => W.pure q
theorem W.begR {n l f nt g f' nt' g' d : Nat} {tm tm' : T Value} {T k : List Item} {ki : CallKind} {ps : List Nat} {as bd : Code} {pe : Option Code} {Q : Value × FrameMode → St → Prop} (ht : skim 64 T = .beginRound :: k) (hO : Obj s l (.loop .ready pe f' nt' g' tm' ps as bd d)) (hn : 0 < n)
   (h : W (runF E (n - 1) ⟨f, nt, g, tm, k, .run, ki, some l⟩) ((s.rdN l).wrN l (.O (.loop .busy pe f' nt' g' tm' ps as bd d))) Q) : W (runF E n ⟨f, nt, g, tm, T, .run, ki, some l⟩) s Q := by
 obtain ⟨m, rfl⟩ : ∃ m, n = m + 1 := ⟨n - 1, by omega⟩
 rw [Nat.add_sub_cancel] at h
 refine W.run ?_
 show W (noP (Eu E (AJ E (runF E m)) (BB (runF E m)) ⟨f, nt, g, tm, skim 64 T, .run, ki, some l⟩ (skim 64 T))) s _
 rw [ht]
 refine W.np ?_
 show W (M.bind (Am.rdC l) _) s _
 exact W.bind (W.rdC hO.2 hO.1 (W.bind (W.wrC hO.1 (W.pure h))))
theorem W.endR {n l f nt g f' nt' g' d : Nat} {tm tm' : T Value} {T : List Item} {ki : CallKind} {ps : List Nat} {as bd : Code} {st : LoopState} {pe : Option Code} {Q : Value × FrameMode → St → Prop} (ht : skim 64 T = []) (hO : Obj s l (.loop st pe f' nt' g' tm' ps as bd d)) (hn : 0 < n)
   (q : Q (.bool true, .run) ((s.rdN l).wrN l (.O (.loop .ready none f' nt' g' tm' ps as bd d)))) : W (runF E n ⟨f, nt, g, tm, T, .run, ki, some l⟩) s Q := by
 obtain ⟨m, rfl⟩ : ∃ m, n = m + 1 := ⟨n - 1, by omega⟩
 refine W.run ?_
 show W (noP (Eu E (AJ E (runF E m)) (BB (runF E m)) ⟨f, nt, g, tm, skim 64 T, .run, ki, some l⟩ (skim 64 T))) s _
 rw [ht]
 refine W.np ?_
 show W (M.bind (Am.rdC l) _) s _
 exact W.bind (W.rdC hO.2 hO.1 (W.bind (W.wrC hO.1 (W.pure (W.pure q)))))
end
end Go.Proofs.YtchnfdaebboaeaaGreatDoor.Am
