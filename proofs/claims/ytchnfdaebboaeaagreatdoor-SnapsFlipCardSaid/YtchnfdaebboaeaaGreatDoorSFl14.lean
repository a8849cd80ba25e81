import Derived.Test.YtchnfdaebboaeaaGreatDoorSFl09
import Derived.Test.YtchnfdaebboaeaaGreatDoorSFl11
import Derived.Test.YtchnfdaebboaeaaGreatDoorSFl13
import Derived.Test.YtchnfdaebboaeaaGreatDoorRows
import Derived.Test.YtchnfdaebboaeaaGreatDoorSFl01
import Derived.Test.YtchnfdaebboaeaaGreatDoorSFl07
import Derived.WalkKit
import Derived.WalkSpells
import Derived.WalkLawsBesides
import Derived.BigQuiet
import Derived.Deep.QuietTactic
import Derived.Deep.RegionHeld3
import Derived.Laws.CopyOwn
import Derived.Outline
import Derived.IntWalk
import Derived.Lib.Hide
import Derived.Deep.Heap
import Derived.Deep.Cut
import Derived.RegionTactic
import Derived.ChangeAlike
import Derived.Test.YtchnfdaebboaeaaGreatDoorSFl08
import GoSem.ClaimWide
import Derived.Carry
import Derived.ChangeSame
noncomputable section
namespace Go.Proofs.YtchnfdaebboaeaaGreatDoor.Am
open Go.RowKit
section
variable {P : Program} {t : Nat}
theorem P2 (a : ByteArray) : ∀ (es : List MapEntry) (ns : List ByteArray) (i : Nat), es.map (·.key) = ns.map Value.string → ∃ r, Instr.findNow .string (.string a) (Cz es) i = some r ∧ r.map (·.1) = (ns.findIdx? fun b => a == b).map (i + ·)
  | [], [], i, _ => ⟨none, rfl, rfl⟩
  | [], _ :: _, i, h => by cases h
  | _ :: _, [], i, h => by cases h
  | e :: es, n :: ns, i, h => by
    simp only [List.map_cons, List.cons.injEq] at h
    obtain ⟨h1, h2⟩ := h
    obtain ⟨r, h3, h4⟩ := P2 a es ns (i + 1) h2
    have hs : Instr.sameNow .string (.string a) e.key = some (a == n) := by rw [h1]; rfl
    have hu : Instr.findNow .string (.string a) (Cz (e :: es)) i = (match Instr.sameNow .string (.string a) e.key with
      | some true => some (some (i, undef))
      | some false => Instr.findNow .string (.string a) (Cz es) (i + 1)
      | none => none) := rfl
    rw [hu, hs]
    cases hq : a == n with
    | true => exact ⟨some (i, undef), rfl, by rw [List.findIdx?_cons, hq]; rfl⟩
    | false =>
      refine ⟨r, h3, ?_⟩
      rw [h4, List.findIdx?_cons, hq]
      simp only [Bool.false_eq_true, if_false, Option.map_map]
      congr 1
      funext x
      simp only [Function.comp]
      omega
theorem Ae_ {d : Nat} {b : Bool} {a : Value} (hu : P.underlying t = some .string) : semP P (Instr.checkKey b (d + 1) t a) = some () := by
  unfold Instr.checkKey
  simp only [En, SB hu, Option.bind_some]
  rfl
end
section
variable {E : Env} {s : St} {t kt et l m : Nat} {a : ByteArray} {es : List MapEntry} {ns : List ByteArray}
theorem H4 (hk : E.P.underlying kt = some .string) (he : es.map (·.key) = ns.map Value.string) (b : Bool) : BX E b kt (.string a) es s = .some (ns.findIdx? fun x => a == x) s := by
  obtain ⟨r, h1, h2⟩ := P2 a es ns 0 he
  have hf : semP E.P (Instr.findKey kt (.string a) (Cz es)) = some r := by
    unfold Instr.findKey
    rw [En, SB hk]
    simp only [Option.bind_some, h1]
    rfl
  have h3 : r.map (·.1) = ns.findIdx? fun x => a == x := by
    rw [h2]
    cases ns.findIdx? fun x => a == x <;> simp
  unfold BX
  show M.on (semP E.P (do Instr.checkKey b (9999 + 1) kt (.string a); Instr.findKey kt (.string a) (Cz es))) (fun r => M.pure (r.map (·.1))) s = _
  rw [En, Ae_ hk]
  simp only [Option.bind_some]
  rw [hf]
  show M.pure (r.map (·.1)) s = _
  rw [h3]
  rfl
theorem W.lookS1 {j : Nat} {e : MapEntry} {Q : Value → St → Prop} (hT : ∀ s, mapT E t s = .some (kt, et) s) (hk : E.P.underlying kt = some .string) (he : es.map (·.key) = ns.map Value.string) (hj : (ns.findIdx? fun x => a == x) = some j) (hej : es[j]? = some e) (ho : Obj s l (.map es m)) (q : Q e.val (s.rdN l)) : W (DL E t false (.map (some l)) (.string a)) s Q := by
  refine W.bind ⟨_, _, hT s, ?_⟩
  show W (M.bind (mapAt l) fun p => CV E kt et (.string a) false p.1) s Q
  refine W.bind (W.bind (W.rdC ho.2 ho.1 (W.pure ?_)))
  show W (CV E kt et (.string a) false es) (s.rdN l) Q
  unfold CV
  refine W.bind ⟨_, _, H4 hk he _, ?_⟩
  rw [hj]
  show W (M.on es[j]? fun e => CW false e.val true) (s.rdN l) Q
  rw [hej]
  exact W.pure q
theorem W.lookS0 {z : Value} {Q : Value → St → Prop} (hT : ∀ s, mapT E t s = .some (kt, et) s) (hZ : ∀ s, zeroOf E et s = .some z s) (hk : E.P.underlying kt = some .string) (he : es.map (·.key) = ns.map Value.string) (hj : (ns.findIdx? fun x => a == x) = none) (ho : Obj s l (.map es m)) (q : Q z (s.rdN l)) : W (DL E t false (.map (some l)) (.string a)) s Q := by
  refine W.bind ⟨_, _, hT s, ?_⟩
  show W (M.bind (mapAt l) fun p => CV E kt et (.string a) false p.1) s Q
  refine W.bind (W.bind (W.rdC ho.2 ho.1 (W.pure ?_)))
  show W (CV E kt et (.string a) false es) (s.rdN l) Q
  unfold CV
  refine W.bind ⟨_, _, H4 hk he _, ?_⟩
  rw [hj]
  exact W.bind ⟨_, _, hZ _, W.pure q⟩
theorem Ext.wrO {s : St} (l : Nat) (c : Cell) : Ext Any (fun x => x = l) s ((s.rdN l).wrN l c) := by
  obtain ⟨d1, p1, p2⟩ := (Ext.rdN (F := Any) (G := Non) s l fun _ => trivial).rd
  obtain ⟨d2, p3, p4⟩ := (Ext.wrN (F := Any) (G := fun x => x = l) (s.rdN l) l c rfl).wr
  exact ⟨Nat.le_refl _, rfl, rfl, fun x h1 h2 => (Ext.wrN (F := Any) (G := fun x => x = l) (s.rdN l) l c rfl).mem x h1 h2, ⟨d1, p1, p2⟩, ⟨d2, p3, p4⟩⟩
theorem Obj.wrO {s : St} {l : Nat} {o o' : AObj} (h : Obj s l o) : Obj ((s.rdN l).wrN l (.O o')) l o' := ⟨h.1, by
  show T.get (T.set s.mem l _) l = _
  rw [T.get_set, if_pos rfl]⟩
theorem W.mapUpS0 {x : Value} {Q : Value → St → Prop} (hT : ∀ s, mapT E t s = .some (kt, et) s) (hk : E.P.underlying kt = some .string) (he : es.map (·.key) = ns.map Value.string) (hj : (ns.findIdx? fun x => a == x) = none) (ho : Obj s l (.map es m))
    (q : ∀ s1, s1.next = s.next → Ext Any (fun y => y = l) s s1 → Obj s1 l (.map (es ++ [⟨.string a, x, m⟩]) (m + 1)) → Q undef s1) : W (DF E t (.map (some l)) (.string a) x) s Q := by
  refine W.bind ⟨_, _, hT s, ?_⟩
  show W (M.bind (mapAt l) fun p => M.bind (putE E kt (.string a) x l p) fun _ => M.pure undef) s Q
  refine W.bind (W.bind (W.rdC ho.2 ho.1 (W.pure ?_)))
  refine W.bind ?_
  show W (putE E kt (.string a) x l (es, m)) (s.rdN l) _
  unfold putE
  refine W.bind ⟨_, _, H4 hk he _, ?_⟩
  rw [hj]
  have hl : l < (s.rdN l).next := ho.1
  exact W.wrC hl (W.pure (q _ rfl (Ext.wrO l _) (Obj.wrO ho)))
theorem W.delS {j : Nat} {Q : Value → St → Prop} (hT : ∀ s, mapT E t s = .some (kt, et) s) (hk : E.P.underlying kt = some .string) (he : es.map (·.key) = ns.map Value.string) (hj : (ns.findIdx? fun x => a == x) = some j) (ho : Obj s l (.map es m))
    (q : ∀ s1, s1.next = s.next → Ext Any (fun y => y = l) s s1 → Obj s1 l (.map (es.eraseIdx j) m) → Q undef s1) : W (kDel E t (.map (some l)) (.string a)) s Q := by
  refine W.bind ⟨_, _, hT s, ?_⟩
  show W (M.bind (mapAt l) fun p => M.bind (BX E p.1.isEmpty kt (.string a) p.1) fun r => (match r with
    | some j => M.bind (Am.wrC l (.O (.map (p.1.eraseIdx j) p.2))) fun _ => M.pure undef
    | none => M.bind (Am.wrC l (.O (.map p.1 p.2))) fun _ => M.pure undef)) s Q
  refine W.bind (W.bind (W.rdC ho.2 ho.1 (W.pure ?_)))
  refine W.bind ⟨_, _, H4 hk he _, ?_⟩
  rw [hj]
  have hl : l < (s.rdN l).next := ho.1
  exact W.bind (W.wrC hl (W.pure (q _ rfl (Ext.wrO l _) (Obj.wrO ho))))
def mapU (E : Env) (t : Nat) : Bool := match T.get E.ty t with | some i => (match i.u with | .map _ _ => true | _ => false) | none => false
theorem W.lenM {Q : Value → St → Prop} (h : mapU E t = true) (ho : Obj s l (.map es m)) (q : Q (.int .i64 (es.length : Nat)) (s.rdN l)) : W (Bt E .len [t] [.map (some l)]) s Q := by
  unfold mapU at h
  split at h
  · rename_i i hi
    split at h
    · rename_i k e hu
      show W (aLen E t (.map (some l))) s Q
      unfold aLen
      refine W.bind (W.ti hi ?_)
      rw [hu]
      show W (DO (.map (some l))) s Q
      unfold DO
      refine W.bind (W.bind (W.rdC ho.2 ho.1 (W.pure ?_)))
      show W (pN es.length) (s.rdN l) Q
      exact W.fN (W.pure q)
    · cases h
  · cases h
end
section
variable {E : Env} {s : St}
def FL (s : St) (e : MapEntry) (n : Nat) : Prop := ∃ b p1 n1 c1 p2 n2 c2, e.val = .pointer (some ⟨b, 0, none⟩) ∧ At s b 0 (.slice p1 n1 c1) ∧ At s b 1 (.slice p2 n2 c2) ∧ n = n1 + n2
theorem FL.same {s s' : St} {e : MapEntry} {n : Nat} (h : FL s e n) (hm : s'.mem = s.mem) (hn : s'.next = s.next) : FL s' e n := by
  obtain ⟨b, p1, n1, c1, p2, n2, c2, e1, a1, a2, e2⟩ := h
  exact ⟨b, p1, n1, c1, p2, n2, c2, e1, a1.same hm hn, a2.same hm hn, e2⟩
theorem W.filesLen : ∀ {es : List MapEntry} {ns : List Nat} {s : St} {Q : Int → St → Prop}, es.length = ns.length → (∀ (i : Nat) (e : MapEntry) (n : Nat), es[i]? = some e → ns[i]? = some n → FL s e n) → s.lim ≤ s.next →
    (∀ s1, s1.mem = s.mem → s1.next = s.next → Ext Any Non s s1 → Q (Int.ofNat ns.sum) s1) → W (Am.filesLen es) s Q
  | [], [], s, Q, _, _, _, q => W.pure (q s rfl rfl (Ext.refl s))
  | [], _ :: _, _, _, h, _, _, _ => by cases h
  | _ :: _, [], _, _, h, _, _, _ => by cases h
  | e :: es, n :: ns, s, Q, hl, h, hb, q => by
    obtain ⟨b, p1, n1, c1, p2, n2, c2, e1, a1, a2, e2⟩ := h 0 e n rfl rfl
    show W (M.bind (Am.fileLen e.val) fun n => M.bind (Am.filesLen es) fun k => fI (n + k) fun i => M.pure i) s Q
    refine W.bind ?_
    rw [e1]
    show W (M.bind (Am.rdV ⟨b, 0, none⟩) fun x => M.bind (Am.rdV ⟨b, 0 + 1, none⟩) fun y => match x, y with
      | .slice _ n _, .slice _ k _ => fI (Int.ofNat n + Int.ofNat k) fun i => M.pure i
      | _, _ => M.fail) s _
    refine W.bind (W.rdV a1 (W.bind (W.rdV (a2.same rfl rfl) ?_)))
    show W (fI (Int.ofNat n1 + Int.ofNat n2) fun i => M.pure i) _ _
    rw [BP]
    refine W.pure ?_
    have x1 : Ext Any Non s ((s.rdN (b + 0)).rdN (b + (0 + 1))) := (Ext.rdN (F := Any) (G := Non) s _ fun _ => trivial).trans (Ext.rdN (F := Any) (G := Non) _ _ fun _ => trivial) hb (fun _ _ _ => trivial) fun _ _ h => h
    refine W.bind (W.filesLen (by simpa using hl) (fun i e n h1 h2 => (h (i + 1) e n (by simpa using h1) (by simpa using h2)).same rfl rfl) (x1.bnd hb) fun s1 m1 n1' y1 => ?_)
    rw [BP]
    refine W.pure ?_
    have := q s1 m1 n1' (x1.trans y1 hb (fun _ _ _ => trivial) fun _ _ h => h)
    rw [List.sum_cons, e2] at this
    exact this
theorem W.used {D l m : Nat} {es : List MapEntry} {ns : List Nat} {Q : Value → St → Prop} (hb : s.lim ≤ s.next) (h0 : At s D 0 (.bool true)) (h1 : At s D 1 (.map (some l))) (ho : Obj s l (.map es m)) (hbo : CH es 0 m = true) (hl : es.length = ns.length) (h : ∀ (i : Nat) (e : MapEntry) (n : Nat), es[i]? = some e → ns[i]? = some n → FL s e n)
    (q : ∀ s1, s1.mem = s.mem → s1.next = s.next → Ext Any Non s s1 → Q (.int .i64 (wrap64 (ns.sum : Nat))) s1) : W (usedM [.pointer (some ⟨D, 0, none⟩)]) s Q := by
  show W (M.bind (Am.rdV ⟨D, 0, none⟩) fun x => match x with
    | .bool true => M.bind (Am.rdV ⟨D, 0 + 1, none⟩) fun y => match y with
      | .map (some l) => M.bind (Am.mapAt l) fun p => M.chk (CH p.1 0 p.2) (M.bind (Am.filesLen p.1) fun n => fI (wrap64 n) fun n => M.pure (.int .i64 n))
      | _ => M.fail
    | _ => M.fail) s Q
  refine W.bind (W.rdV h0 (W.bind (W.rdV (h1.same rfl rfl) ?_)))
  have ho' : Obj ((s.rdN (D + 0)).rdN (D + (0 + 1))) l (.map es m) := ho.same rfl rfl
  refine W.bind (W.bind (W.rdC ho'.2 ho'.1 (W.pure (W.chk hbo ?_))))
  have x1 : Ext Any Non s (((s.rdN (D + 0)).rdN (D + (0 + 1))).rdN l) := ((Ext.rdN (F := Any) (G := Non) s _ fun _ => trivial).trans (Ext.rdN (F := Any) (G := Non) _ _ fun _ => trivial) hb (fun _ _ _ => trivial) fun _ _ h => h).trans (Ext.rdN (F := Any) (G := Non) _ _ fun _ => trivial) hb (fun _ _ _ => trivial) fun _ _ h => h
  refine W.bind (W.filesLen hl (fun i e n h1 h2 => (h i e n h1 h2).same rfl rfl) (x1.bnd hb) fun s1 m1 n1 y1 => ?_)
  rw [BP]
  exact W.pure (q s1 m1 n1 (x1.trans y1 hb (fun _ _ _ => trivial) fun _ _ h => h))
end
structure FileS where
  name : ByteArray
  born : Nat
  blk : Nat
  sv : Value
  sbk : Nat
  sb : List Nat
  lv : Value
  lbk : Nat
  lb : List Nat
def FileS.ent (f : FileS) : MapEntry := ⟨.string f.name, .pointer (some ⟨f.blk, 0, none⟩), f.born⟩
def FileS.all (f : FileS) : List Nat := f.sb ++ f.lb
structure FileI (s : St) (col : Nat → Nat) (c : Nat) (f : FileS) : Prop where
  o0 : Own s f.blk 0 f.sv
  o1 : Own s f.blk 1 f.lv
  k : ∀ x, f.blk ≤ x → x < f.blk + 2 → col x = c
  ms : MkS s 1 f.sb.length (u8l f.sb) f.sv f.sbk
  ks : ∀ x, MkF 1 f.sb.length f.sbk x → col x = c + 1
  ml : MkS s 1 f.lb.length (u8l f.lb) f.lv f.lbk
  kl : ∀ x, MkF 1 f.lb.length f.lbk x → col x = c + 2
theorem FileI.ext {F G : Nat → Prop} {s s' : St} {col : Nat → Nat} {c : Nat} {f : FileS} (h : FileI s col c f) (x : Ext F G s s') (hG : ∀ y, y < s.next → G y → col y ≠ c ∧ col y ≠ c + 1 ∧ col y ≠ c + 2) : FileI s' col c f := by
  have b0 := h.o0.1
  have b1 := h.o1.1
  exact ⟨h.o0.ext x fun g => (hG _ b0 g).1 (h.k _ (by omega) (by omega)), h.o1.ext x fun g => (hG _ b1 g).1 (h.k _ (by omega) (by omega)), h.k, h.ms.ext x fun y hy g => (hG y (h.ms.lt y hy) g).2.1 (h.ks y hy), h.ks, h.ml.ext x fun y hy g => (hG y (h.ml.lt y hy) g).2.2 (h.kl y hy), h.kl⟩
theorem FileI.col {s : St} {col col' : Nat → Nat} {c : Nat} {f : FileS} (h : FileI s col c f) (e : ∀ x, x < s.next → col' x = col x) : FileI s col' c f := by
  have b0 := h.o0.1
  have b1 := h.o1.1
  exact ⟨h.o0, h.o1, fun x h1 h2 => (e x (by omega)).trans (h.k x h1 h2), h.ms, fun x hx => (e x (h.ms.lt x hx)).trans (h.ks x hx), h.ml, fun x hx => (e x (h.ml.lt x hx)).trans (h.kl x hx)⟩
theorem FileI.same {s s' : St} {col : Nat → Nat} {c : Nat} {f : FileS} (h : FileI s col c f) (hm : s'.mem = s.mem) (hn : s'.next = s.next) : FileI s' col c f :=
  ⟨h.o0.same hm hn, h.o1.same hm hn, h.k, h.ms.same hm hn, h.ks, h.ml.same hm hn, h.kl⟩
structure DkS where
  fs : List FileS
  mx : Nat
  room : Int
  steps : Int
  fused : Bool
  left : Int
  out : Bool
structure DkI (s : St) (col : Nat → Nat) (D M : Nat) (k : DkS) : Prop where
  d0 : Own s D 0 (.bool true)
  d1 : Own s D 1 (.map (some M))
  d2 : Own s D 2 (.int .i64 k.room)
  d3 : Own s D 3 (.int .i64 k.steps)
  d4 : Own s D 4 (.bool k.fused)
  d5 : Own s D 5 (.int .i64 k.left)
  d6 : Own s D 6 (.bool k.out)
  kd : ∀ x, D ≤ x → x < D + 7 → col x = 0
  om : Obj s M (.map (k.fs.map FileS.ent) k.mx)
  km : col M = 1
  bo : CH (k.fs.map FileS.ent) 0 k.mx = true
  fl : ∀ i (h : i < k.fs.length), FileI s col (2 + 3 * i) k.fs[i]
theorem DkI.ext {F G : Nat → Prop} {s s' : St} {col : Nat → Nat} {D M : Nat} {k : DkS} (h : DkI s col D M k) (x : Ext F G s s') (hl : k.fs.length ≤ 300) (hG : ∀ y, y < s.next → G y → 1000 ≤ col y) : DkI s' col D M k := by
  have c : ∀ o, o < 7 → D + o < s.next → ¬ G (D + o) := fun o ho hn g => by
    have h1 := hG _ hn g
    have h2 := h.kd (D + o) (by omega) (by omega)
    omega
  exact ⟨h.d0.ext x (c 0 (by decide) h.d0.1), h.d1.ext x (c 1 (by decide) h.d1.1), h.d2.ext x (c 2 (by decide) h.d2.1), h.d3.ext x (c 3 (by decide) h.d3.1), h.d4.ext x (c 4 (by decide) h.d4.1), h.d5.ext x (c 5 (by decide) h.d5.1), h.d6.ext x (c 6 (by decide) h.d6.1), h.kd, h.om.ext x fun g => by
    have h1 := hG _ h.om.1 g
    have h2 := h.km
    omega, h.km, h.bo, fun i hi => (h.fl i hi).ext x fun y hy g => by
    have h1 := hG y hy g
    omega⟩
theorem DkI.col {s : St} {col col' : Nat → Nat} {D M : Nat} {k : DkS} (h : DkI s col D M k) (e : ∀ x, x < s.next → col' x = col x) : DkI s col' D M k := by
  have b6 := h.d6.1
  exact ⟨h.d0, h.d1, h.d2, h.d3, h.d4, h.d5, h.d6, fun x h1 h2 => (e x (by omega)).trans (h.kd x h1 h2), h.om, (e M h.om.1).trans h.km, h.bo, fun i hi => (h.fl i hi).col e⟩
theorem DkI.same {s s' : St} {col : Nat → Nat} {D M : Nat} {k : DkS} (h : DkI s col D M k) (hm : s'.mem = s.mem) (hn : s'.next = s.next) : DkI s' col D M k :=
  ⟨h.d0.same hm hn, h.d1.same hm hn, h.d2.same hm hn, h.d3.same hm hn, h.d4.same hm hn, h.d5.same hm hn, h.d6.same hm hn, h.kd, h.om.same hm hn, h.km, h.bo, fun i hi => (h.fl i hi).same hm hn⟩
theorem DkI.ext0 {F : Nat → Prop} {s s' : St} {col : Nat → Nat} {D M : Nat} {k : DkS} (h : DkI s col D M k) (x : Ext F Non s s') (hl : k.fs.length ≤ 300) : DkI s' col D M k := h.ext x hl fun _ _ g => g.elim
def II (col : Nat → Nat) (n c : Nat) : Nat → Nat := fun x => if x < n then col x else c
theorem Hs_ {col : Nat → Nat} {n c x : Nat} (h : x < n) : II col n c x = col x := by unfold II; rw [if_pos h]
theorem Ht_ {col : Nat → Nat} {n c x : Nat} (h : n ≤ x) : II col n c x = c := by unfold II; rw [if_neg (by omega)]
def DG (col : Nat → Nat) (n : Nat) : Nat → Prop := fun x => n ≤ x ∨ col x < 1000
end Go.Proofs.YtchnfdaebboaeaaGreatDoor.Am
namespace Go.Proofs.YtchnfdaebboaeaaGreatDoor
open Go.RowKit
theorem Ds_ {a b : Int} (h : a = b) : Ending.returned (.int .u32 a) = .returned (.int .u32 b) := by rw [h]
theorem BE {wr : World} {R : Nat} {cs : Array Value} {t : TypeId} (h : wr.heap[R]? = some (.cells cs t (0, 0))) (j : Nat) : wr.cell? ⟨R, j, none⟩ = cs[j]? := by simp [World.cell?, h]
theorem MG {wr : World} {R : Nat} {cs : Array Value} {t : TypeId} (h : wr.heap[R]? = some (.cells cs t (0, 0))) (j : Nat) : wr.frozen? ⟨R, j, none⟩ = false := by simp [World.frozen?, h]
theorem Qx {wr : World} {R j : Nat} {cs : Array Value} {t : TypeId} {v : Value} (h : wr.heap[R]? = some (.cells cs t (0, 0))) : (wr.setCell ⟨R, j, none⟩ v).heap[R]? = some (.cells (cs.setIfInBounds j v) t (0, 0)) := by
  simp [World.setCell, Array.getElem?_modify, h]
def env0 : Am.Env := Am.envOf Tryz.prog .E .E
theorem Pn : Am.EnvOK env0 := Am.envOf_ok Tryz.prog (by kernel_rfl)
theorem Eg {a b : Nat} (ha : a < 4294967296) : a &&& b < 4294967296 := Nat.lt_of_le_of_lt Nat.and_le_left ha
structure Put (w w' : World) (g : Nat) (cs : Array Value) (t : TypeId) : Prop where
  at' : w'.heap[g]? = some (.cells cs t (0, 0))
  oth : ∀ k, k ≠ g → w'.heap[k]? = w.heap[k]?
  size : w'.heap.size = w.heap.size
  bel : ∀ B, B ≤ g → Below B w w'
theorem Gi {P : Program} {ops : Array Oper} {rest : List Oper} {o : Oper} {a : Act} {w : World} {Q : Exit → Act → World → Prop} (hgd : o.guard = none) (ty : TypeId) (x y : Operand) (ho : o.op = .store ty x y)
    (g : Nat) (cells : Array Value) (hx : a.eval x = .pointer (some ⟨g, 0, none⟩)) (hy : a.eval y = .agg cells)
    (t : TypeId) (old : Array Value) (hg : w.heap[g]? = some (.cells old t (0, 0))) (hi : (P.info? ty).map (·.size) = some cells.size)
    (hold : old.size = cells.size) (h1 : cells.all (·.oneCell') = true)
    (h : ∀ w', Put w w' g cells t → wpList P ops Q rest (a.put o.dst undef) w') : wpList P ops Q (o :: rest) a w :=
  wpList_store_row hgd ty x y ho g cells hx hy t old hg hi hold h1 (h _ ⟨setRow_heap _ _ _ _ _ _ hg, fun _k hk => setRow_other _ _ _ _ hk, size_setRow _ _ _, fun _B hB => below_setRow (Below.refl _ _) hB _⟩)
theorem Jx {B : Nat} {w w' : World} (h : Below B w w') {k : Nat} (hk : k < B) : w'.heap[k]? = w.heap[k]? := h.block k hk
end Go.Proofs.YtchnfdaebboaeaaGreatDoor
namespace Go.Proofs.YtchnfdaebboaeaaGreatDoor.Am
open Go.RowKit
def u8s : List Value → Option (List Nat)
  | [] => some []
  | v :: l => match v, u8s l with
    | .int .u8 (.ofNat n), some ns => bif Nat.blt n 256 then some (n :: ns) else none
    | _, _ => none
theorem On : ∀ {l : List Value} {ns : List Nat}, u8s l = some ns → l = ns.map (fun n : Nat => Value.int .u8 n) ∧ ∀ n ∈ ns, n < 256
  | [], ns, h => by cases h; exact ⟨rfl, fun n h => by cases h⟩
  | v :: l, ns, h => by
    unfold u8s at h
    split at h
    · rename_i n ns' h1
      cases hb : Nat.blt n 256 with
      | false => rw [hb] at h; cases h
      | true =>
        rw [hb] at h
        cases h
        obtain ⟨h2, h3⟩ := On h1
        refine ⟨by rw [h2]; rfl, fun m hm => ?_⟩
        rcases List.mem_cons.1 hm with rfl | hm
        · exact A3 hb
        · exact h3 m hm
    · cases h
section
variable {s : St} {E : Env} {t t2 : Nat}
theorem W.appV (hbd : s.lim ≤ s.next) {sz by' n len b : Nat} {z l old : List Value} {v x : Value} {F : Nat → Prop} {Q : Value → St → Prop} {g : Bool} (ht : appT E t t2 = some (sz, by', g, z)) (hm : MkS s sz len old v b) (hx : SrcG s sz by' g z x n l F) (hs0 : 0 < sz) (hs1 : sz < 1024)
    (hb : (len + n) * (by' + 1) ≤ 16777216) (hl : l.length = n * sz) (h1 : l.all oneCell = true)
    (q : ∀ s2 v2 b2, (b2 = b ∧ n = 0 ∨ s.next ≤ b2) → MkS s2 sz (len + n) (old ++ l) v2 b2 → Ext (fun x => F x ∨ MkF sz len b x) (MkF sz len b) s s2 → Q v2 s2) : W (BR E t t2 v x) s Q := by
  by_cases hn : n = 0
  · rcases hm with ⟨rfl, rfl, rfl⟩ | ⟨hm, h0⟩
    · subst hn
      have hl0 : l = [] := List.eq_nil_of_length_eq_zero (by rw [hl, Nat.zero_mul])
      subst hl0
      obtain ⟨i, i2, e, ie, g1, g2, g3, g4, g5, g6, g7, g8⟩ := GI ht
      obtain ⟨hN, s1, e1, m1, n1, x1⟩ := hx ie g5 g6 g8
      subst g5; subst g6
      refine W.bind (W.ti g1 (W.bind (W.ti g2 ?_)))
      rw [g3, g7]
      refine W.bind (W.ti g4 (W.bind (W.of (hN s) (W.bind ?_))))
      refine W.of e1 ?_
      show W (M.if (Nat.ble (Nat.add 0 0) (0 % capU)) (D7 ie.size none 0 0 0 []) _) s1 Q
      rw [show Nat.ble (Nat.add 0 0) (0 % capU) = true from Nat.ble_eq_true_of_le (Nat.zero_le _)]
      show W (M.pure (.slice none 0 0)) s1 Q
      exact W.pure (q s1 _ b (.inl ⟨rfl, rfl⟩) (.inl ⟨rfl, rfl, rfl⟩) (x1.weak hbd (fun _ _ h => .inl h) fun _ _ h => h.elim))
    · refine W.appE hbd ht (.inr ⟨hm, h0⟩) hx hs0 hs1 hb hl h1 fun s2 v2 b2 hb2 e2 x2 => q s2 v2 b2 (hb2.elim (fun h => .inl ⟨h, hn⟩) .inr) ?_ x2
      rcases e2 with ⟨_, h, _⟩ | ⟨h, h'⟩
      · omega
      · exact .inr ⟨h, h'⟩
  · exact W.appU hbd ht hm hx (by omega) hs0 hs1 hb hl h1 fun s2 v2 b2 hb2 mk x2 => q s2 v2 b2 (.inr hb2) mk x2
end
def Zj (n0 : Nat) (m a : OpLog) : Prop := (∀ x ∈ m.rd, n0 ≤ x → ¬ (a.lo ≤ x ∧ x < a.hi)) ∧ (∀ x ∈ m.wr, n0 ≤ x → ¬ (a.lo ≤ x ∧ x < a.hi)) ∧ (∀ x ∈ a.wr, x ∉ m.rd ∧ x ∉ m.wr) ∧ (∀ x ∈ m.wr, x ∉ a.rd)
def Ie (n0 b : Nat) (m : OpLog) : List OpLog → Nat → Prop
  | [], _ => True
  | a :: l, i => (b.testBit i = true ∨ Zj n0 m a) ∧ Ie n0 b m l (i + 1)
def allP (n0 : Nat) (all : List OpLog) : List OpLog → List Nat → Nat → Prop
  | [], _, _ => True
  | m :: l, b :: bef, j => Ie n0 b m (all.take j) 0 ∧ allP n0 all l bef (j + 1)
  | _ :: _, [], _ => False
theorem RB {x : Nat} : ∀ {l : List Nat} {m : Nat}, (BH l m).testBit x = true → x ∈ l ∨ m.testBit x = true
  | [], m, h => .inr h
  | a :: l, m, h => by
    have e : BH (a :: l) m = BH l (m ||| 2 ^ a) := by
      show fN (Nat.lor m (Nat.shiftLeft (nat_lit 1) a)) (BH l) = _
      rw [AG]
      show BH l (m ||| (1 <<< a)) = _
      rw [Nat.one_shiftLeft]
    rw [e] at h
    rcases RB h with h | h
    · exact .inl (by simp [h])
    · rw [Nat.testBit_or, KY, Bool.or_eq_true] at h
      rcases h with h | h
      · exact .inr h
      · have : x = a := by
          have := of_decide_eq_true h
          omega
        exact .inl (by simp [this])
theorem Pr {a b : Nat} (h : ∀ x, ¬ (a.testBit x = true ∧ b.testBit x = true)) : Nat.beq (Nat.land a b) (nat_lit 0) = true := by
  have e : a &&& b = 0 := by
    refine Nat.eq_of_testBit_eq fun x => ?_
    rw [Nat.testBit_and, Nat.zero_testBit]
    cases h1 : a.testBit x with
    | false => rfl
    | true =>
      cases h2 : b.testBit x with
      | false => rfl
      | true => exact absurd ⟨h1, h2⟩ (h x)
  show Nat.beq (a &&& b) 0 = true
  rw [e]
  rfl
theorem Fh {x : Nat} {l : List Nat} (h : (BH l 0).testBit x = true) : x ∈ l := by
  rcases RB h with h | h
  · exact h
  · rw [Nat.zero_testBit] at h; cases h
theorem Tr {a m : OpLog} (h1 : ∀ x ∈ a.wr, x ∉ m.rd ∧ x ∉ m.wr) (h2 : ∀ x ∈ m.wr, x ∉ a.rd) : Dn (Bk a) (Bk m) = true := by
  unfold Dn
  rw [Bool.and_eq_true, JJ, JJ]
  refine ⟨Pr fun x ⟨p, q⟩ => ?_, Pr fun x ⟨p, q⟩ => h2 x (Fh p) (Fh q)⟩
  have q' : (BH m.rd 0 ||| BH m.wr 0).testBit x = true := q
  rw [Nat.testBit_or, Bool.or_eq_true] at q'
  rcases q' with q | q
  · exact (h1 x (Fh p)).1 (Fh q)
  · exact (h1 x (Fh p)).2 (Fh q)
theorem Qd {n0 b : Nat} {m : OpLog} (news : List Nat) (hn : ∀ x ∈ news, n0 ≤ x ∧ (x ∈ m.rd ∨ x ∈ m.wr)) : ∀ (acc : List OpLog) (i : Nat), Ie n0 b m acc i → C4 b news acc i = true
  | [], _, _ => rfl
  | a :: acc, i, h => by
    show ((b.testBit i || !CP a.lo a.hi news) && C4 b news acc (Nat.succ i)) = true
    rw [Bool.and_eq_true]
    refine ⟨?_, Qd news hn acc (i + 1) h.2⟩
    rcases h.1 with h | h
    · rw [h]; rfl
    · rw [Ob _ _ _ fun x hx => ?_]
      · simp
      · obtain ⟨h1, h2⟩ := hn x hx
        rcases h2 with h2 | h2
        · exact h.1 x h2 h1
        · exact h.2.1 x h2 h1
theorem Sf {n0 b : Nat} {m : OpLog} : ∀ (acc : List OpLog) (i : Nat), Ie n0 b m acc i → ET b (Bk m) (acc.map Bk) i = true
  | [], _, _ => rfl
  | a :: acc, i, h => by
    show ((b.testBit i || Dn (Bk a) (Bk m)) && ET b (Bk m) (acc.map Bk) (Nat.succ i)) = true
    rw [Bool.and_eq_true]
    refine ⟨?_, Sf acc (i + 1) h.2⟩
    rcases h.1 with h | h
    · rw [h]; rfl
    · rw [Tr h.2.2.1 h.2.2.2]; simp
theorem OD {n0 : Nat} {all : List OpLog} : ∀ (l : List OpLog) (bef : List Nat) (j : Nat), allP n0 all l bef j → EJ n0 all l bef j = true
  | [], _, _, _ => rfl
  | _ :: _, [], _, h => h.elim
  | m :: l, b :: bef, j, h => by
    show (E1 b (A9 n0 m.rd (A9 n0 m.wr [])) (all.take j) && EJ n0 all l bef (Nat.succ j)) = true
    rw [Bool.and_eq_true]
    refine ⟨?_, OD l bef (j + 1) h.2⟩
    have hn : ∀ x ∈ A9 n0 m.rd (A9 n0 m.wr []), n0 ≤ x ∧ (x ∈ m.rd ∨ x ∈ m.wr) := fun x hx => by
      rcases LB _ _ _ x hx with h | h
      · exact ⟨h.2, .inl h.1⟩
      · rcases LB _ _ _ x h with h | h
        · exact ⟨h.2, .inr h.1⟩
        · cases h
    have hj := Qd _ hn _ _ h.1
    unfold E1
    generalize A9 n0 m.rd (A9 n0 m.wr []) = z at hj
    cases z with
    | nil => rfl
    | cons x z => exact hj
theorem Sl {n0 : Nat} {all : List OpLog} : ∀ (l : List OpLog) (bef : List Nat) (j : Nat), allP n0 all l bef j → GO (all.map Bk) (l.map Bk) bef j = true
  | [], _, _, _ => rfl
  | _ :: _, [], _, h => h.elim
  | m :: l, b :: bef, j, h => by
    show (ET b (Bk m) ((all.map Bk).take j) 0 && GO (all.map Bk) (l.map Bk) bef (Nat.succ j)) = true
    rw [Bool.and_eq_true, ← List.map_take]
    exact ⟨Sf _ _ h.1, Sl l bef (j + 1) h.2⟩
theorem Hx_ {n0 : Nat} {l : List OpLog} {bef : List Nat} (h : allP n0 l l bef 0) : BC n0 l bef = true := by
  unfold BC
  rw [OD l bef 0 h, Ki, Sl l bef 0 h]
  simp
section
variable {α β : Type} {s : St}
theorem W.dopG {m : M α} {f : α × OpLog → M β} {mem : T Cell} {next : Nat} {Q : β → St → Prop}
    (h : W m (oSt mem next) fun v s1 => ∃ F G, Ext F G (oSt mem next) s1 ∧ ∀ rd wr, (∀ x ∈ rd, x < next ∧ F x) → (∀ x ∈ wr, x < next ∧ G x) → W (f (v, ⟨next, s1.next, rd, wr⟩)) (dSt s1.mem s1.next) Q) : W (M.bind (apartO m) f) (dSt mem next) Q := by
  obtain ⟨a, s1, e, F, G, x, q⟩ := h
  obtain ⟨mem1, next1, lim1, rd1, wr1, cx1⟩ := s1
  have hcx : cx1 = .no := x.cx
  obtain ⟨d1, p1, p2⟩ := x.rd
  obtain ⟨d2, p3, p4⟩ := x.wr
  have e1 : rd1 = d1 := by simpa [oSt] using p1
  have e2 : wr1 = d2 := by simpa [oSt] using p3
  subst hcx
  refine W.bind (W.of (a := (a, ⟨next, next1, rd1, wr1⟩)) (s' := dSt mem1 next1) ?_ (q rd1 wr1 (fun y hy => p2 y (by rw [← e1]; exact hy)) fun y hy => p4 y (by rw [← e2]; exact hy)))
  have e' : m ⟨mem, next, next, [], [], .no⟩ = .some a ⟨mem1, next1, lim1, rd1, wr1, .no⟩ := e
  show Am.apartO m ⟨mem, next, 0, [], [], .no⟩ = _
  unfold Am.apartO
  simp only [e']
  rfl
theorem Eu_ (lim : Nat) (l : List OpLog) (base : List Nat) : ∃ d, wrsL lim l base = d ++ base ∧ ∀ x ∈ d, x < lim ∧ ∃ m ∈ l, x ∈ m.wr := by
  induction l with
  | nil => exact ⟨[], rfl, fun _ h => by cases h⟩
  | cons m l ih =>
    obtain ⟨d, e, q⟩ := ih
    obtain ⟨d2, e2, q2⟩ := P9 lim m.wr (wrsL lim l base)
    refine ⟨d2 ++ d, ?_, fun x hx => ?_⟩
    · show addL lim m.wr (wrsL lim l base) = _
      rw [e2, e, List.append_assoc]
    · rcases List.mem_append.1 hx with hx | hx
      · exact ⟨(q2 x hx).1, m, by simp, (q2 x hx).2⟩
      · obtain ⟨h1, m', h2, h3⟩ := q x hx
        exact ⟨h1, m', by simp [h2], h3⟩
theorem Ext.drawG {F G : Nat → Prop} {mem' : T Cell} {next' : Nat} {l : List OpLog} (h1 : s.next ≤ next') (h2 : ∀ x, x < s.next → ¬ G x → T.get mem' x = T.get s.mem x) (hw : ∀ m ∈ l, ∀ x ∈ m.wr, x < s.lim → G x) (hr : ∀ m ∈ l, ∀ x ∈ m.rd, x < s.lim → F x) :
    Ext F G s ⟨mem', next', s.lim, rdsL s.lim l s.rd, wrsL s.lim l s.wr, s.cx⟩ := by
  obtain ⟨d, e, q⟩ := Nl s.lim l s.rd
  obtain ⟨d2, e2, q2⟩ := Eu_ s.lim l s.wr
  exact ⟨h1, rfl, rfl, fun x hx hg => h2 x hx hg, ⟨d, e, fun x hx => by obtain ⟨a, m, b, c⟩ := q x hx; exact ⟨a, hr m b x c a⟩⟩, ⟨d2, e2, fun x hx => by obtain ⟨a, m, b, c⟩ := q2 x hx; exact ⟨a, hw m b x c a⟩⟩⟩
end
def Kh (p : List Value → Bool) (m : List Value → M Value) (E : Env) (fuel f : Nat) (args : List Value) : M Value := Bool.rec (motive := fun _ => M Value) (callF E fuel f args) (m args) (p args)
def Hv_ (k : Nat) (args : List Value) : Bool :=
  match args with
  | [.func (.func g) _ _] => Nat.beq g k
  | _ => false
theorem Hw_ {E : Env} (he : EnvOK E) (fuel f : Nat) (hx : E.ext.get f = none) (p : List Value → Bool) {m : List Value → M Value} (k : OrcOK E.P f m) : OrcOK E.P f (Kh p m E fuel f) where
  loc := fun args => by
    unfold Kh
    cases p args with
    | false => exact (Gm he fuel).loc f args
    | true => exact k.loc args
  ok := by
    intro w0 w r args args' s out s' h hr hb hf ha
    unfold Kh at h
    cases hp : p args with
    | false =>
      rw [hp] at h
      rcases (Gm he fuel).ok (show callF E fuel f args s = rOf out s' from h) hr hb hf ha with q | ⟨q, _⟩
      · exact q
      · exact absurd hx q
    | true =>
      rw [hp] at h
      exact k.ok (show m args s = rOf out s' from h) hr hb hf ha
theorem Ff_ {E : Env} (he : EnvOK E) (fuel f : Nat) (hx : E.ext.get f = none) : OrcOK E.P f (callF E fuel f) where
  loc := fun args => (Gm he fuel).loc f args
  ok := by
    intro w0 w r args args' s out s' h hr hb hf ha
    rcases (Gm he fuel).ok h hr hb hf ha with q | ⟨q, _⟩
    · exact q
    · exact absurd hx q
def BN_ (c : Cell) : Bool := match c with
  | .C _ v => (tokN v).isSome
  | _ => false
def Em (args : List Value) : M Bool := match args with
  | .slice (some ⟨b, o, none⟩) (_ + 1) _ :: _ => M.bind (rdC (b + o)) fun c => M.pure (BN_ c)
  | _ => M.pure false
theorem Uo (a : List Value) : Loc (Em a) := by
  unfold Em
  split
  · exact Aa (B1 _) fun _ => Ab _
  · exact Ab _
theorem Vk (a : List Value) : NoPan (Em a) := by
  unfold Em
  split
  · exact Ac (B7 _) fun _ => Ag _
  · exact Ag _
theorem GW_ (a : List Value) : Bb (Em a) := by
  unfold Em
  split
  · exact .bind (.rdC _) fun _ => .pure _
  · exact .pure _
def FS_ (m : List Value → M Value) (E : Env) (fuel f : Nat) : List Value → M Value := altS Em m (callF E fuel f)
theorem HC_ {E : Env} (he : EnvOK E) (fuel f : Nat) (hx : E.ext.get f = none) {m : List Value → M Value} (k : OrcOK E.P f m) : OrcOK E.P f (FS_ m E fuel f) := EH_ Uo Vk GW_ k (Ff_ he fuel f hx)
def IH (l : List Nat) : Option Nat := (List.range 6).find? fun k => l == Bc (40000 + 100 * k) 5
theorem Wo {l : List Nat} {k : Nat} (h : IH l = some k) : k < 6 ∧ l = Bc (40000 + 100 * k) 5 := by
  unfold IH at h
  have h1 := List.find?_some h
  have h2 := List.mem_of_find?_eq_some h
  exact ⟨List.mem_range.1 h2, beq_iff_eq.1 h1⟩
def He (k : Nat) : Array Value := ((Bc (50000 + 100 * k) 16).map fun i => Value.complex .f32 6 i).toArray
def idT (args : List Value) : M Value := match args with
  | [.slice (some ⟨b, o, none⟩) 5 c] => M.chk (Nat.ble 5 (c % capU) && Bj c 1) (M.bind (rowR b o 5) fun l => M.on (tokL l) fun a => M.on (IH a) fun k => M.pure (.agg (He k)))
  | _ => M.fail
theorem Hz_ (a : List Value) : Loc (idT a) := by
  unfold idT
  split
  · exact Ak _ (Aa (D2 _ _ _) fun _ => Ah _ fun _ => Ah _ fun _ => Ab _)
  · exact Ad
theorem HA_ (a : List Value) : NoPan (idT a) := by
  unfold idT
  split
  · exact An _ (Ac (DK _ _ _) fun _ => Ai _ fun _ => Ai _ fun _ => Ag _)
  · exact Aj
theorem Hu_ (a : List Value) : Bb (idT a) := by
  unfold idT
  split
  · exact .chk _ (.bind (Dt _ _ _) fun _ => .on _ fun _ => .on _ fun _ => .pure _)
  · exact .fail
theorem Eg_ {nv : Nat → IntKind × Int} (hs : BU nv) {k : Nat} (hk : k < 6) : ∃ h : List Nat, h.length = 5 ∧ (∀ j, j < 5 → nv (40000 + 100 * k + j) = (.u8, ((h.getD j 0 : Nat) : Int))) ∧ cA nv (.agg (He k)) = .agg (u8l (idB h)).toArray := by
  obtain ⟨bit, g1, g2, g3, g4, g5, g6⟩ := hs.1 k hk
  have hl : ((AO (AT k) bit).take 5).length = 5 := by rw [List.length_take, CQ, DW]; rfl
  refine ⟨(AO (AT k) bit).take 5, hl, fun j hj => ?_, ?_⟩
  · have e : ((AO (AT k) bit).take 5).getD j 0 = (AO (AT k) bit).getD j 0 := by
      rw [List.getD_eq_getElem?_getD, List.getD_eq_getElem?_getD, List.getElem?_take, if_pos hj]
    rw [g4 j (by omega), e]
  · generalize (AO (AT k) bit).take 5 = h at g5
    have h16 : (idB h).length = 16 := Ja h
    have e0 : He k = ((List.range 16).map fun j => Value.complex .f32 6 (50000 + 100 * k + j)).toArray := by
      unfold He Bc
      rw [List.range'_eq_map_range, List.map_map]
      rfl
    have e1 : u8l (idB h) = (List.range 16).map fun j => Value.int .u8 (((idB h).getD j 0 : Nat) : Int) := by
      refine List.ext_getElem (by simp [h16]) fun i h1 h2 => ?_
      have hi : i < 16 := by simpa using h2
      rw [List.getElem_map, List.getElem_map, List.getElem_range, List.getD_eq_getElem?_getD, List.getElem?_eq_getElem (by omega)]
      rfl
    rw [e0, e1]
    show Value.agg (((List.range 16).map fun j => Value.complex .f32 6 (50000 + 100 * k + j)).toArray.map (cV nv)) = _
    rw [List.map_toArray, List.map_map]
    refine congrArg Value.agg (congrArg List.toArray (List.map_congr_left fun i hi => ?_))
    have hi' : i < 16 := List.mem_range.1 hi
    have e6 : cV nv (.complex .f32 6 (50000 + 100 * k + i)) = .int (nv (50000 + 100 * k + i)).1 (nv (50000 + 100 * k + i)).2 := by
      unfold cV
      exact if_pos rfl
    show cV nv (.complex .f32 6 (50000 + 100 * k + i)) = _
    rw [e6, g5 i hi']
def delL (ls : List Nat) (t : T Cell) : T Cell := List.rec (motive := fun _ => T Cell) t (fun l _ ih => T.del ih l) ls
def delR (n : Nat) : Nat → T Cell → T Cell := Nat.rec (motive := fun _ => Nat → T Cell → T Cell) (fun _ t => t) (fun _ ih l t => ih (Nat.succ l) (T.del t l)) n
def maxN (a b : Nat) : Nat := Bool.rec (motive := fun _ => Nat) a b (Nat.ble a b)
def lowL (lim : Nat) (ls : List Nat) : List Nat := List.rec (motive := fun _ => List Nat) [] (fun l _ ih => Bool.rec (motive := fun _ => List Nat) ih (l :: ih) (Nat.blt l lim)) ls
def Jj (a b : Value) : Option Value :=
  match a, b with
  | .bool x, .bool y => some (Bool.rec (motive := fun _ => Value) topB (.bool x) (x == y))
  | .bool _, .complex _ 2 _ => some topB
  | .complex _ 2 _, .bool _ => some topB
  | .complex _ 2 _, .complex _ 2 _ => some topB
  | .int k n, .int k' m => Bool.rec (motive := fun _ => Option Value) none (some (.int k n)) (Nat.beq (kNum k) (kNum k') && eqI n m)
  | _, _ => none
def St.fork (s : St) : St := ⟨s.mem, s.next, s.next, [], [], s.cx⟩
def St.joined (s s1 s2 : St) : St :=
  ⟨delR (Nat.sub (maxN s1.next s2.next) s.next) s.next (delL (lowL s.next (s1.wr ++ s2.wr)) s.mem), maxN s1.next s2.next, s.lim,
    lowL s.lim (s1.rd ++ s2.rd ++ (s1.wr ++ s2.wr)) ++ s.rd, lowL s.lim (s1.wr ++ s2.wr) ++ s.wr, s.cx⟩
def alt (m1 m2 : M (Value × FrameMode)) : M (Value × FrameMode) := fun s =>
  match m1 s.fork, m2 s.fork with
  | .some p s1, .some q s2 => (match Jj p.1 q.1 with | some v => .some (v, .run) (s.joined s1 s2) | none => .none)
  | _, _ => .none
theorem RO : ∀ (ls : List Nat) (t : T Cell) (j : Nat), T.get (delL ls t) j = if j ∈ ls then none else T.get t j
  | [], t, j => by simp [delL]
  | l :: ls, t, j => by
    show T.get (T.del (delL ls t) l) j = _
    rw [T.get_del, RO ls t j]
    by_cases h : j = l
    · simp [h]
    · simp [h]
theorem Qw : ∀ (n l : Nat) (t : T Cell) (j : Nat), T.get (delR n l t) j = if l ≤ j ∧ j < l + n then none else T.get t j
  | 0, l, t, j => by
    rw [if_neg (by omega)]
    rfl
  | n + 1, l, t, j => by
    show T.get (delR n (l + 1) (T.del t l)) j = _
    rw [Qw n (l + 1), T.get_del]
    by_cases h : j = l
    · rw [if_pos h, if_pos (show l ≤ j ∧ j < l + (n + 1) by omega)]
      split <;> rfl
    · rw [if_neg h]
      by_cases h2 : l + 1 ≤ j ∧ j < l + 1 + n
      · rw [if_pos h2, if_pos (by omega)]
      · rw [if_neg h2, if_neg (by omega)]
theorem JN (a b : Nat) : maxN a b = max a b := by
  unfold maxN
  cases h : Nat.ble a b with
  | true => exact (Nat.max_eq_right (Nat.le_of_ble_eq_true h)).symm
  | false =>
    have : ¬ a ≤ b := fun e => by rw [Nat.ble_eq_true_of_le e] at h; cases h
    exact (Nat.max_eq_left (Nat.le_of_lt (Nat.lt_of_not_le this))).symm
theorem JX {lim l : Nat} : ∀ {ls : List Nat}, l ∈ lowL lim ls ↔ l ∈ ls ∧ l < lim
  | [] => by simp [lowL]
  | a :: ls => by
    have ih := JX (lim := lim) (l := l) (ls := ls)
    show l ∈ (Bool.rec (lowL lim ls) (a :: lowL lim ls) (Nat.blt a lim) : List Nat) ↔ _
    cases h : Nat.blt a lim with
    | true =>
      have := A3 h
      simp only [List.mem_cons, ih]
      constructor
      · rintro (rfl | ⟨h1, h2⟩)
        · exact ⟨.inl rfl, this⟩
        · exact ⟨.inr h1, h2⟩
      · rintro ⟨rfl | h1, h2⟩
        · exact .inl rfl
        · exact .inr ⟨h1, h2⟩
    | false =>
      have : ¬ a < lim := fun e => by
        have : Nat.blt a lim = true := by simpa [Nat.blt] using Nat.ble_eq_true_of_le e
        rw [this] at h
        cases h
      simp only [List.mem_cons, ih]
      constructor
      · rintro ⟨h1, h2⟩
        exact ⟨.inr h1, h2⟩
      · rintro ⟨rfl | h1, h2⟩
        · exact absurd h2 this
        · exact ⟨h1, h2⟩
theorem Hv (s s1 s2 : St) (h1 : s.next ≤ s1.next) (j : Nat) : T.get (s.joined s1 s2).mem j =
    if (s.next ≤ j ∧ j < max s1.next s2.next) ∨ (j ∈ s1.wr ++ s2.wr ∧ j < s.next) then none else T.get s.mem j := by
  show T.get (delR (Nat.sub (maxN s1.next s2.next) s.next) s.next _) j = _
  rw [Qw, RO, JN]
  have e : s.next + Nat.sub (max s1.next s2.next) s.next = max s1.next s2.next := by
    show s.next + (max s1.next s2.next - s.next) = _
    omega
  rw [e]
  simp only [JX]
  by_cases h : s.next ≤ j ∧ j < max s1.next s2.next
  · rw [if_pos h, if_pos (.inl h)]
  · rw [if_neg h]
    by_cases h2 : j ∈ s1.wr ++ s2.wr ∧ j < s.next
    · rw [if_pos h2, if_pos (.inr h2)]
    · rw [if_neg h2, if_neg (by rintro (h3 | h3); exact h h3; exact h2 h3)]
theorem Rl {m1 m2 : M (Value × FrameMode)} {s s' : St} {o : Out (Value × FrameMode)} (h : alt m1 m2 s = rOf o s') :
    ∃ p s1 q s2 v, m1 s.fork = .some p s1 ∧ m2 s.fork = .some q s2 ∧ Jj p.1 q.1 = some v ∧ o = .inl (v, .run) ∧ s' = s.joined s1 s2 := by
  unfold alt at h
  split at h
  · rename_i p s1 q s2 e1 e2
    split at h
    · rename_i v e3
      obtain ⟨rfl, rfl⟩ := AU h
      exact ⟨p, s1, q, s2, v, e1, e2, e3, rfl, rfl⟩
    · exact (AH h).elim
  · exact (AH h).elim
theorem So {m1 m2 : M (Value × FrameMode)} (h1 : Loc m1) (h2 : Loc m2) : Loc (alt m1 m2) := ⟨fun s o s' h hb => by
  obtain ⟨p, s1, q, s2, v, e1, e2, e3, rfl, rfl⟩ := Rl h
  obtain ⟨R1, W1, r1, w1, g1, i1, j1⟩ := h1.at' s.fork (.inl p) s1 e1 (Nat.le_refl _)
  obtain ⟨R2, W2, r2, w2, g2, i2, j2⟩ := h2.at' s.fork (.inl q) s2 e2 (Nat.le_refl _)
  have n1 : s.next ≤ s1.next := g1.nxt
  have n2 : s.next ≤ s2.next := g2.nxt
  have x1 : s1.rd = r1 := by rw [g1.rd]; exact List.append_nil _
  have x2 : s2.rd = r2 := by rw [g2.rd]; exact List.append_nil _
  have y1 : s1.wr = w1 := by rw [g1.wr]; exact List.append_nil _
  have y2 : s2.wr = w2 := by rw [g2.wr]; exact List.append_nil _
  have hnx : (s.joined s1 s2).next = max s1.next s2.next := JN _ _
  refine ⟨fun l => (R1 l ∨ W1 l) ∨ (R2 l ∨ W2 l), fun l => (s.next ≤ l ∧ l < max s1.next s2.next) ∨ (l ∈ s1.wr ++ s2.wr ∧ l < s.next),
    lowL s.lim (s1.rd ++ s2.rd ++ (s1.wr ++ s2.wr)), lowL s.lim (s1.wr ++ s2.wr), ⟨rfl, rfl, ?_, rfl, ?_, ?_, ?_, ?_, ?_⟩, ?_, ?_⟩
  · rw [hnx]; omega
  · show s.lim ≤ _
    rw [hnx]
    have : s.lim ≤ s.next := hb
    omega
  · intro l e
    rw [hnx]
    rcases e with (e | e) | (e | e)
    · have := g1.rlt l e; omega
    · have := g1.wlt l e; omega
    · have := g2.rlt l e; omega
    · have := g2.wlt l e; omega
  · intro l e
    rw [hnx]
    rcases e with e | e <;> omega
  · intro l e
    rw [Hv s s1 s2 n1, if_neg e]
  · intro t a1 a2 a3 a4
    obtain ⟨t1, b1, b2, _, _, b5, b6, _⟩ := g1.any t.fork a1 a1 a3 fun l e => a4 l (.inl (.inl e))
    obtain ⟨t2, c1, c2, _, _, c5, c6, _⟩ := g2.any t.fork a1 a1 a3 fun l e => a4 l (.inl (.inr e))
    have b1' : m1 t.fork = .some p t1 := b1
    have c1' : m2 t.fork = .some q t2 := c1
    have z1 : t1.rd = s1.rd := by rw [b5, x1]; exact List.append_nil _
    have z2 : t2.rd = s2.rd := by rw [c5, x2]; exact List.append_nil _
    have u1 : t1.wr = s1.wr := by rw [b6, y1]; exact List.append_nil _
    have u2 : t2.wr = s2.wr := by rw [c6, y2]; exact List.append_nil _
    refine ⟨t.joined t1 t2, ?_, ?_, a2, a3, ?_, ?_, ?_, ?_⟩
    · unfold alt
      rw [b1', c1']
      simp only [e3]
      rfl
    · show maxN t1.next t2.next = maxN s1.next s2.next
      rw [b2, c2]
    · show lowL t.lim (t1.rd ++ t2.rd ++ (t1.wr ++ t2.wr)) ++ t.rd = _
      rw [z1, z2, u1, u2, a2]
    · show lowL t.lim (t1.wr ++ t2.wr) ++ t.wr = _
      rw [u1, u2, a2]
    · intro l e
      rw [Hv s s1 s2 n1, Hv t t1 t2 (by rw [a1, b2]; exact n1), if_pos e, if_pos (by rw [a1, b2, c2, u1, u2]; exact e)]
    · intro l e
      rw [Hv t t1 t2 (by rw [a1, b2]; exact n1), if_neg (by rw [a1, b2, c2, u1, u2]; exact e)]
  · intro l e hl
    have hl2 : l < s.next := Nat.lt_of_lt_of_le hl hb
    rw [JX]
    refine ⟨?_, hl⟩
    rw [x1, x2, y1, y2]
    rcases e with (e | e) | (e | e)
    · simp [i1 l e hl2]
    · simp [j1 l e hl2]
    · simp [i2 l e hl2]
    · simp [j2 l e hl2]
  · intro l e hl
    have hl2 : l < s.next := Nat.lt_of_lt_of_le hl hb
    rw [JX]
    rcases e with e | e
    · omega
    · exact ⟨e.1, hl⟩⟩
theorem Rel.sub {w0 w : World} {r : Inj} {mem mem' : T Cell} (h : Rel w0 r mem w) (hs : ∀ l c, T.get mem' l = some c → T.get mem l = some c) : Rel w0 r mem' w where
  below := h.below
  dom := h.dom
  cell := fun l b v e => h.cell l b v (hs _ _ e)
  sep := fun l1 l2 b1 v1 b2 v2 b' d1 d2 e1 e2 => h.sep l1 l2 b1 v1 b2 v2 b' d1 d2 (hs _ _ e1) (hs _ _ e2)
  obj := fun l o e => h.obj l o (hs _ _ e)
  sepO := fun l1 l2 o1 o2 b' d1 d2 e1 e2 => h.sepO l1 l2 o1 o2 b' d1 d2 (hs _ _ e1) (hs _ _ e2)
  tok := fun t sz e => by
    obtain ⟨k, q1, q2, q3, q4, q5, q6⟩ := h.tok t sz (hs _ _ e)
    exact ⟨k, q1, q2, q3, q4, q5, fun l b v d e => q6 l b v d (hs _ _ e)⟩
  sepT := fun t1 t2 s1 s2 k1 k2 e1 e2 => h.sepT t1 t2 s1 s2 k1 k2 (hs _ _ e1) (hs _ _ e2)
  known := h.known
  szs := fun l n e => h.szs l n (hs _ _ e)
  olds := h.olds.less hs
theorem VR.top_bool {r : Inj} {k : FloatKind} {b : Nat} {x : Value} (h : VR r (.complex k 2 b) x) : VR r topB x := by
  cases h with
  | complex h => exact .complex h
theorem VR.bool_top {r : Inj} {b : Bool} {x : Value} (h : VR r (.bool b) x) : VR r topB x := by
  cases h
  exact .complex ⟨b, rfl⟩
theorem OB {r : Inj} {a b v : Value} (h : Jj a b = some v) : (∀ x, VR r a x → VR r v x) ∧ (∀ x, VR r b x → VR r v x) := by
  unfold Jj at h
  split at h
  · rename_i x y
    cases h
    cases hb : x == y with
    | false => exact ⟨fun _ e => e.bool_top, fun _ e => e.bool_top⟩
    | true =>
      have := eq_of_beq hb
      subst this
      exact ⟨fun _ e => e, fun _ e => e⟩
  · cases h; exact ⟨fun _ e => e.bool_top, fun _ e => e.top_bool⟩
  · cases h; exact ⟨fun _ e => e.top_bool, fun _ e => e.bool_top⟩
  · cases h; exact ⟨fun _ e => e.top_bool, fun _ e => e.top_bool⟩
  · rename_i k n k' m
    cases hb : Nat.beq (kNum k) (kNum k') && eqI n m with
    | false => rw [hb] at h; cases h
    | true =>
      rw [hb] at h
      cases h
      rw [Bool.and_eq_true] at hb
      have e1 := Kk hb.1
      have e2 : n = m := by have := hb.2; rw [Ld] at this; exact of_decide_eq_true this
      subst e1
      subst e2
      exact ⟨fun _ e => e, fun _ e => e⟩
  · cases h
theorem Goes.joined {w0 w' : World} {r r' : Inj} {s s1 s2 si : St} {m : M (Value × FrameMode)} {o : Out (Value × FrameMode)} (hm : Loc m) (e : m s.fork = rOf o si) (hsi : si = s1 ∨ si = s2) (n1 : s.next ≤ s1.next) (h : Goes w0 r s.fork si r' w') :
    Goes w0 r s (s.joined s1 s2) r' w' := by
  obtain ⟨R1, W1, d1, w1, g1, _, j1⟩ := hm.at' s.fork o si e (Nat.le_refl _)
  have hnx : (s.joined s1 s2).next = max s1.next s2.next := JN _ _
  have hle : si.next ≤ max s1.next s2.next := by rcases hsi with rfl | rfl <;> omega
  have hw : si.wr = w1 := by rw [g1.wr]; exact List.append_nil _
  refine ⟨h.le, by rw [hnx]; omega, fun b q => (h.domB b q).imp id fun x => ⟨x.1, ?_⟩, fun b q => (h.domE b q).imp id fun x => ⟨x.1, ?_⟩, h.rel.sub fun l c q => ?_⟩
  · rw [hnx]; have := x.2; omega
  · rw [hnx]; have := x.2; omega
  · rw [Hv s s1 s2 n1] at q
    split at q
    · cases q
    · rename_i hn
      rw [← q]
      refine g1.old l fun hW => hn ?_
      have hl := g1.wlt l hW
      rcases Nat.lt_or_ge l s.next with h1 | h1
      · have := j1 l hW h1
        rw [← hw] at this
        refine .inr ⟨List.mem_append.2 ?_, h1⟩
        rcases hsi with rfl | rfl
        · exact .inl this
        · exact .inr this
      · exact .inl ⟨h1, by omega⟩
def unkB (v : Option Value) : Bool :=
  match v with
  | some (.complex _ 2 _) => true
  | _ => false
def AF.setS (af : AF) (t : Nat) (v : Value) : AF := { af with tmps := T.set af.tmps t v }
def AF.on (af : AF) (k : List Item) : AF := { af with todo := k }
def AF.keep (af : AF) (d : Option Nat) (v : Value) (k : List Item) : AF := { af with tmps := BS d (A7 d af.glob) v af.tmps, todo := k }
def okD (d : Option Nat) (n : Nat) : Bool := match d with | some d => Nat.blt d n | none => true
def opA (E : Env) (call round : Ae) (af : AF) (o : Oper) (k : List Item) : M AF :=
  noP (Cl.rec (motive := fun _ => M AF) (fun f => M.chk (okD o.dst af.n) (M.bind (f call round [] af.tmps) fun v => C3 o.dst (A7 o.dst af.glob) v af.tmps fun tm => M.pure { af with tmps := tm, todo := k })) (B8 E [] o.op))
def FU (af : AF) (o : Oper) (k : List Item) : M AF := M.chk (okD o.dst af.n) (C3 o.dst (A7 o.dst af.glob) undef af.tmps fun tm => M.pure { af with tmps := tm, todo := k })
def guarded (ops : Array Oper) : Bool := ops.toList.any fun o => o.guard.isSome
def both (ih : AF → M (Value × FrameMode)) (af : AF) (t : Nat) : M (Value × FrameMode) := alt (ih (af.setS t (.bool true))) (ih (af.setS t (.bool false)))
def FT (E : Env) (call round : Ae) (ih : AF → M (Value × FrameMode)) (af : AF) (ops : Array Oper) (o : Oper) (k : List Item) : M (Value × FrameMode) :=
  Option.rec (motive := fun _ => M (Value × FrameMode)) (M.bind (opA E call round af o k) ih)
    (fun g => M.on ((ops[g.1]?).bind (·.dst)) fun d => M.on (T.get af.tmps d) fun v => M.if (unkB (some v)) (both ih af d)
        (M.chk (isK v) (M.if (isB v g.2) (M.bind (opA E call round af o k) ih) (M.bind (FU af o k) ih)))) o.guard
def CE (E : Env) (call round : Ae) (dcall : Dh) (ih : AF → M (Value × FrameMode)) (af : AF) : M (Value × FrameMode) :=
  match af.todo with
  | .inRegion _ [] :: k => ih (af.on k)
  | .inRegion ops (i :: l) :: k => M.on ops[i]? fun o => FT E call round ih af ops o (.inRegion ops l :: k)
  | .code (.region _ ops false) :: k => M.if (guarded ops) (ih (af.on (.inRegion ops (List.range ops.size) :: k))) (M.bind (BF E call round dcall af) (BG ih))
  | .code (.cond (.tmp t) _ _) :: _ => M.if (unkB (T.get af.tmps t)) (both ih af t) (M.bind (BF E call round dcall af) (BG ih))
  | _ => M.bind (BF E call round dcall af) (BG ih)
def JK (E : Env) (call round : Ae) (dcall : Dh) (ih : AF → M (Value × FrameMode)) (af : AF) : M (Value × FrameMode) :=
  match af.mode with
  | .run => CE E call round dcall ih (af.on (skim 64 af.todo))
  | _ => M.bind (BF E call round dcall af) (BG ih)
def HQ (E : Env) (fuel : Nat) (n : Nat) : AF → M (Value × FrameMode) :=
  Nat.rec (motive := fun _ => AF → M (Value × FrameMode)) (fun _ => M.fail) (fun _ ih af => JK E (AJ E (runF E fuel)) (BB (runF E fuel)) (D1 E (runF E fuel)) ih af) n
section
variable {E : Env} {call round : Ae} {dcall : Dh} {w0 w : World} {r : Inj} {base : List Deferred × List Frame}
theorem FinE.normal {P : Program} {cx1 cx2 : Ctx} {fr : Frame} {m : Machine} {w' : World} {p : Value × FrameMode} {v : Value} (hk : fr.kind = .normal) (hv : ∀ x, VR r p.1 x → VR r v x) (h : FinE P r base cx1 fr m w' (.inl p)) : FinE P r base cx2 fr m w' (.inl (v, .run)) := by
  obtain ⟨cs', h1, v', q1, q2, q3⟩ := h
  refine ⟨cs', ?_, v', hv _ q1, q2, q3⟩
  rcases h1 with h1 | ⟨_, _, _, _, _, h1, _⟩
  · exact .inl h1
  · rw [hk] at h1
    cases h1
theorem FR.setS {P : Program} {af : AF} {cx : Ctx} {fr : Frame} {cs : List Frame} (h : FR P r af cx base fr cs) {t : Nat} (hu : unkB (T.get af.tmps t) = true) : ∃ b, FR P r (af.setS t (.bool b)) cx base fr cs := by
  unfold unkB at hu
  split at hu
  · rename_i b e
    obtain ⟨q1, v', q2, q3⟩ := h.tm t _ e
    cases q3 with
    | complex q3 =>
      obtain ⟨b, rfl⟩ := q3
      refine ⟨b, h.fn, h.size, fun y v e2 => ?_, h.todo, h.mode, h.round, h.rk, h.known, h.cx⟩
      replace e2 : T.get (T.set af.tmps t (.bool b)) y = some v := e2
      rw [T.get_set] at e2
      split at e2
      · rename_i hy
        cases e2
        subst hy
        exact ⟨q1, _, q2, .bool b⟩
      · exact h.tm y v e2
  · cases hu
structure ForkOK (E : Env) (run : AF → M (Value × FrameMode)) : Prop where
  loc : ∀ af, Loc (run af)
  ok : ∀ {w0 w : World} {r : Inj} {base : List Deferred × List Frame} {af : AF} {fr : Frame} {cs : List Frame} {s : St} {out : Out (Value × FrameMode)} {s' : St}, run af s = rOf out s' → FR E.P r af s.cx base fr cs → fr.kind = .normal → Rel w0 r s.mem w → Bnd s → AL r s.next s'.next →
    ∃ w' r', Goes w0 r s s' r' w' ∧ s'.lim = s.lim ∧ FinE E.P r' base s'.cx fr (lone fr cs w) w' out
theorem PV {ih : AF → M (Value × FrameMode)} (hi : ForkOK E ih) {af : AF} {t : Nat} {fr : Frame} {cs : List Frame} {s s' : St} {out : Out (Value × FrameMode)} (h : both ih af t s = rOf out s') (hu : unkB (T.get af.tmps t) = true)
    (hF : FR E.P r af s.cx base fr cs) (hk : fr.kind = .normal) (hr : Rel w0 r s.mem w) (hf : AL r s.next s'.next) :
    ∃ w' r', Goes w0 r s s' r' w' ∧ s'.lim = s.lim ∧ FinE E.P r' base s'.cx fr (lone fr cs w) w' out := by
  obtain ⟨p, s1, q, s2, v, e1, e2, e3, rfl, rfl⟩ := Rl h
  have n1 : s.next ≤ s1.next := ((hi.loc _).at' s.fork (.inl p) s1 e1 (Nat.le_refl _)).next
  have hnx : (s.joined s1 s2).next = max s1.next s2.next := JN _ _
  obtain ⟨b, hF'⟩ := hF.setS hu
  cases b with
  | true =>
    obtain ⟨w', r', k1, _, k3⟩ := hi.ok (out := .inl p) (s := s.fork) e1 hF' hk hr (Nat.le_refl _) (fun b x y => hf b x (by rw [hnx]; omega))
    exact ⟨w', r', k1.joined (hi.loc _) (o := .inl p) e1 (.inl rfl) n1, rfl, k3.normal hk (fun x => (OB e3).1 x)⟩
  | false =>
    obtain ⟨w', r', k1, _, k3⟩ := hi.ok (out := .inl q) (s := s.fork) e2 hF' hk hr (Nat.le_refl _) (fun b x y => hf b x (by rw [hnx]; omega))
    exact ⟨w', r', k1.joined (hi.loc _) (o := .inl q) e2 (.inr rfl) n1, rfl, k3.normal hk (fun x => (OB e3).2 x)⟩
theorem GR (he : EnvOK E) (c1 : CallOK E call) (c2 : RoundOK E round) (c3 : DeferOK E dcall) {ih : AF → M (Value × FrameMode)} (hi : ForkOK E ih) {af : AF} {fr : Frame} {cs : List Frame} {s s' : St} {out : Out (Value × FrameMode)}
    (h : M.bind (BF E call round dcall af) (BG ih) s = rOf out s') (hF : FR E.P r af s.cx base fr cs) (hk : fr.kind = .normal) (hr : Rel w0 r s.mem w) (hb : Bnd s) (hf : AL r s.next s'.next) :
    ∃ w' r', Goes w0 r s s' r' w' ∧ s'.lim = s.lim ∧ FinE E.P r' base s'.cx fr (lone fr cs w) w' out := by
  have lR : ∀ p, Loc (BG ih p) := fun p => by
    cases p with
    | go af => exact hi.loc af
    | fin v u => exact Ab _
  rcases Ba h with ⟨p, s1, e1, e2⟩ | ⟨c, e1, rfl⟩
  · have L1 := (F8 he c1 c2 c3 af).at' s (.inl p) s1 e1 hb
    have L2 := (lR p).at' s1 out s' e2 L1.bnd
    obtain ⟨w1, r1, k1, k2, k3⟩ := JA (out := .inl p) he c1 c2 c3 e1 hF hr hb (fun b x y => hf b x (Nat.lt_of_lt_of_le y L2.next))
    cases p with
    | go af' =>
      obtain ⟨fr', cs', k4, k5, k6⟩ := k3
      have hk' : fr'.kind = .normal := by
        unfold Kin at k4
        simp only [Prod.mk.injEq] at k4
        rw [k4.1]; exact hk
      obtain ⟨w2, r2, q1, q2, q3⟩ := hi.ok (show ih af' s1 = rOf out s' from e2) k5 hk' k1.rel L1.bnd (k1.fresh hf)
      exact ⟨w2, r2, k1.trans q1, q2.trans k2, q3.head k4 k6⟩
    | fin v u =>
      obtain ⟨rfl, rfl⟩ := AU (show R.some (v, u) s1 = rOf out s' from e2)
      exact ⟨w1, r1, k1, k2, k3⟩
  · obtain ⟨w1, r1, k1, k2, k3⟩ := JA (out := .inr c) he c1 c2 c3 e1 hF hr hb hf
    exact ⟨w1, r1, k1, k2, k3⟩
theorem V4 {d : Option Nat} {n x : Nat} (h : okD d n = true) (e : d = some x) : x < n := by
  subst e
  exact A3 h
theorem FR.keep {P : Program} {af : AF} {cx : Ctx} {fr : Frame} {cs : List Frame} {r' : Inj} {cx' : Ctx} {cs' : List Frame} {dfs' : List Deferred} {d : Option Nat} {v v' : Value} {k : List Item} (h : FR P r af cx base fr cs) (hm : af.mode = .run) (hle : r.le r') (hd : okD d af.n = true) (hv : VR r' v v') (hx : CxR r' base cx' fr dfs' cs') :
    FR P r' { af with tmps := BS d (A7 d af.glob) v af.tmps, todo := k } cx' base (Am.frm fr (putT fr.tmps d v') dfs' k) cs' :=
  ⟨h.fn, by rw [← h.size]; exact Gg _ _ _, (h.tm.mono hle).keep hv (fun x e => by rw [h.size]; exact V4 hd e), fun _ => rfl, by rw [show ({ af with tmps := BS d (A7 d af.glob) v af.tmps, todo := k } : AF).mode = .run from hm]; exact .run, h.round.mono hle, h.rk, h.known, hx⟩
theorem OM (he : EnvOK E) (c1 : CallOK E call) (c2 : RoundOK E round) (af : AF) (o : Oper) (k : List Item) : Loc (opA E call round af o k) := by
  obtain ⟨f, h1, h2, _⟩ := Kz he.ty o []
  unfold opA
  rw [h1]
  exact DX (Ak _ (Aa (h2 call round c1 c2 _ _) fun v => by rw [EB]; exact Ab _))
theorem EM_ (af : AF) (o : Oper) (k : List Item) : Loc (FU af o k) := Ak _ (by rw [EB]; exact Ab _)
theorem BF_ (he : EnvOK E) (c1 : CallOK E call) (c2 : RoundOK E round) {af af1 : AF} {ops : Array Oper} {i : Nat} {l : List Nat} {o : Oper} {k : List Item} {fr : Frame} {cs : List Frame} {s s1 : St} (h : opA E call round af o (.inRegion ops l :: k) s = .some af1 s1)
    (ho : ops[i]? = some o) (hw : Region.wanted o (yielded ops fr.tmps) = true) (ht : af.todo = .inRegion ops (i :: l) :: k) (hm : af.mode = .run) (hF : FR E.P r af s.cx base fr cs) (hr : Rel w0 r s.mem w) (hb : Bnd s) (hf : AL r s.next s1.next) :
    ∃ w1 r1 fr' cs', Goes w0 r s s1 r1 w1 ∧ s1.lim = s.lim ∧ Kin fr fr' ∧ FR E.P r1 af1 s1.cx base fr' cs' ∧ Steps E.P (lone fr cs w) (lone fr' cs' w1) := by
  obtain ⟨f, h1, _, h3⟩ := Kz he.ty o []
  unfold opA at h
  rw [h1] at h
  obtain ⟨p, hp, h⟩ := Fl (o := .inl af1) h
  cases hp
  replace h : M.chk (okD o.dst af.n) (M.bind (f call round [] af.tmps) fun v => C3 o.dst (A7 o.dst af.glob) v af.tmps fun tm => M.pure { af with tmps := tm, todo := .inRegion ops l :: k }) s = .some af1 s1 := h
  obtain ⟨hd, h⟩ := AP h
  obtain ⟨v, s2, e1, e2⟩ := bind_some h
  rw [EB] at e2
  obtain ⟨rfl, rfl⟩ := Af e2
  obtain ⟨w', r', dfs', cs', g1, g2, g3, v', g4, g5⟩ := h3 call round c1 c2 w0 w r (fun _ => True) [] af.tmps fr fr.tmps fr.defers cs base s (.inl v) s2 ⟨fun i d v _ e => by simp at e, fun t v _ e => (hF.tm t v e).2⟩ (fun _ _ => True.intro) hr hF.cx hb hf e1 ops i l k ho hw
  refine ⟨w', r', Am.frm fr (putT fr.tmps o.dst v') dfs' (.inRegion ops l :: k), cs', g1, g3, rfl, hF.keep hm g1.le hd g4 g2, ?_⟩
  have e := hF.frm hm
  rw [ht] at e
  rw [e]
  exact g5
theorem U7 {af af1 : AF} {ops : Array Oper} {i : Nat} {l : List Nat} {o : Oper} {k : List Item} {fr : Frame} {cs : List Frame} {s s1 : St} (h : FU af o (.inRegion ops l :: k) s = .some af1 s1)
    (ho : ops[i]? = some o) (hw : Region.wanted o (yielded ops fr.tmps) = false) (ht : af.todo = .inRegion ops (i :: l) :: k) (hm : af.mode = .run) (hF : FR E.P r af s.cx base fr cs) :
    s1 = s ∧ ∃ fr', Kin fr fr' ∧ FR E.P r af1 s.cx base fr' cs ∧ Steps E.P (lone fr cs w) (lone fr' cs w) := by
  unfold FU at h
  obtain ⟨hd, h⟩ := AP h
  rw [EB] at h
  obtain ⟨rfl, rfl⟩ := Af h
  refine ⟨rfl, Am.frm fr (putT fr.tmps o.dst undef) fr.defers (.inRegion ops l :: k), rfl, hF.keep hm (Inj.le_refl r) hd .undef hF.cx, ?_⟩
  have e := hF.frm hm
  rw [ht] at e
  rw [e]
  exact .one (Qn ho hw)
theorem J4 {ih : AF → M (Value × FrameMode)} (hi : ForkOK E ih) {af1 : AF} {fr fr' : Frame} {cs cs' : List Frame} {s s1 s' : St} {w1 : World} {r1 : Inj} {out : Out (Value × FrameMode)} (h : ih af1 s1 = rOf out s') (hk : fr.kind = .normal) (hb1 : Bnd s1) (hf : AL r s.next s'.next)
    (g1 : Goes w0 r s s1 r1 w1) (g2 : s1.lim = s.lim) (g3 : Kin fr fr') (g4 : FR E.P r1 af1 s1.cx base fr' cs') (g5 : Steps E.P (lone fr cs w) (lone fr' cs' w1)) :
    ∃ w' r', Goes w0 r s s' r' w' ∧ s'.lim = s.lim ∧ FinE E.P r' base s'.cx fr (lone fr cs w) w' out := by
  have hk' : fr'.kind = .normal := by
    have := g3
    unfold Kin at this
    simp only [Prod.mk.injEq] at this
    rw [this.1]; exact hk
  obtain ⟨w2, r2, q1, q2, q3⟩ := hi.ok h g4 hk' g1.rel hb1 (g1.fresh hf)
  exact ⟨w2, r2, g1.trans q1, q2.trans g2, q3.head g3 g5⟩
theorem V8 (he : EnvOK E) (c1 : CallOK E call) (c2 : RoundOK E round) {ih : AF → M (Value × FrameMode)} (hl : ∀ af, Loc (ih af)) (af : AF) (ops : Array Oper) (o : Oper) (k : List Item) : Loc (FT E call round ih af ops o k) := by
  unfold FT
  have h1 := Aa (OM he c1 c2 af o k) hl
  cases o.guard with
  | none => exact h1
  | some g => exact Ah _ fun d => Ah _ fun v => Aq _ (So (hl _) (hl _)) (Ak _ (Aq _ h1 (Aa (EM_ af o k) hl)))
theorem X4 (he : EnvOK E) (c1 : CallOK E call) (c2 : RoundOK E round) {ih : AF → M (Value × FrameMode)} (hi : ForkOK E ih) {af : AF} {ops : Array Oper} {i : Nat} {l : List Nat} {o : Oper} {k : List Item} {fr : Frame} {cs : List Frame} {s s' : St} {out : Out (Value × FrameMode)} (h : FT E call round ih af ops o (.inRegion ops l :: k) s = rOf out s')
    (ho : ops[i]? = some o) (ht : af.todo = .inRegion ops (i :: l) :: k) (hm : af.mode = .run) (hF : FR E.P r af s.cx base fr cs) (hk : fr.kind = .normal) (hr : Rel w0 r s.mem w) (hb : Bnd s) (hf : AL r s.next s'.next) :
    ∃ w' r', Goes w0 r s s' r' w' ∧ s'.lim = s.lim ∧ FinE E.P r' base s'.cx fr (lone fr cs w) w' out := by
  have run : Region.wanted o (yielded ops fr.tmps) = true → M.bind (opA E call round af o (.inRegion ops l :: k)) ih s = rOf out s' → ∃ w' r', Goes w0 r s s' r' w' ∧ s'.lim = s.lim ∧ FinE E.P r' base s'.cx fr (lone fr cs w) w' out := by
    intro hw e
    rcases Ba e with ⟨af1, s1, e1, e2⟩ | ⟨c, e1, _⟩
    · have L1 := (OM he c1 c2 af o (.inRegion ops l :: k)).at' s (.inl af1) s1 e1 hb
      have L2 := (hi.loc af1).at' s1 out s' e2 L1.bnd
      obtain ⟨w1, r1, fr', cs', g1, g2, g3, g4, g5⟩ := BF_ he c1 c2 e1 ho hw ht hm hF hr hb (fun b x y => hf b x (Nat.lt_of_lt_of_le y L2.next))
      exact J4 hi e2 hk L1.bnd hf g1 g2 g3 g4 g5
    · unfold opA at e1
      obtain ⟨p, hp, _⟩ := Fl (o := .inr c) e1
      cases hp
  unfold FT at h
  cases hg : o.guard with
  | none =>
    rw [hg] at h
    exact run (by unfold Region.wanted; rw [hg]) h
  | some g =>
    obtain ⟨j, want⟩ := g
    rw [hg] at h
    replace h : M.on ((ops[j]?).bind (·.dst)) (fun d => M.on (T.get af.tmps d) fun v => M.if (unkB (some v)) (both ih af d)
        (M.chk (isK v) (M.if (isB v want) (M.bind (opA E call round af o (.inRegion ops l :: k)) ih) (M.bind (FU af o (.inRegion ops l :: k)) ih)))) s = rOf out s' := h
    obtain ⟨d, e1, h⟩ := Dw h
    obtain ⟨v, e2, h⟩ := Dw h
    rw [BQ] at h
    cases hu : unkB (some v) with
    | true =>
      rw [hu, if_pos rfl] at h
      exact PV hi h (by rw [e2]; exact hu) hF hk hr hf
    | false =>
      rw [hu, if_neg (by simp)] at h
      obtain ⟨hK, h⟩ := MQ h
      obtain ⟨q, hq, hqd⟩ := Option.bind_eq_some_iff.1 e1
      obtain ⟨_, v', e3, e4⟩ := hF.tm d v e2
      have hy : Region.wanted o (yielded ops fr.tmps) = isB v want := by
        rw [← Rp e4 hK]
        unfold Region.wanted yielded
        simp only [hg, hq, hqd, Option.bind_some, e3]
        cases v' <;> rfl
      rw [BQ] at h
      cases hB : isB v want with
      | true =>
        rw [hB, if_pos rfl] at h
        exact run (by rw [hy, hB]) h
      | false =>
        rw [hB, if_neg (by simp)] at h
        rcases Ba h with ⟨af1, s1, e5, e6⟩ | ⟨c, e5, _⟩
        · obtain ⟨rfl, fr', g3, g4, g5⟩ := U7 (w := w) e5 ho (by rw [hy, hB]) ht hm hF
          exact J4 hi e6 hk hb hf (.of_rel rfl hr) rfl g3 g4 g5
        · unfold FU at e5
          obtain ⟨_, e5⟩ := MQ (o := .inr c) e5
          rw [EB] at e5
          cases e5
theorem UY (he : EnvOK E) (c1 : CallOK E call) (c2 : RoundOK E round) (c3 : DeferOK E dcall) {ih : AF → M (Value × FrameMode)} (hl : ∀ af, Loc (ih af)) (af : AF) : Loc (CE E call round dcall ih af) := by
  have h1 : Loc (M.bind (BF E call round dcall af) (BG ih)) := Aa (F8 he c1 c2 c3 af) fun p => by
    cases p with
    | go af => exact hl af
    | fin v u => exact Ab _
  unfold CE
  split
  · exact hl _
  · exact Ah _ fun o => V8 he c1 c2 hl _ _ _ _
  · exact Aq _ (hl _) h1
  · exact Aq _ (So (hl _) (hl _)) h1
  · exact h1
theorem YD (ih : AF → M (Value × FrameMode)) (af : AF) :
    (∃ o k, af.todo = .inRegion o [] :: k ∧ CE E call round dcall ih af = ih (af.on k)) ∨
    (∃ ops i l k, af.todo = .inRegion ops (i :: l) :: k ∧ CE E call round dcall ih af = M.on ops[i]? fun o => FT E call round ih af ops o (.inRegion ops l :: k)) ∨
    (∃ id ops k, af.todo = .code (.region id ops false) :: k ∧ CE E call round dcall ih af = M.if (guarded ops) (ih (af.on (.inRegion ops (List.range ops.size) :: k))) (M.bind (BF E call round dcall af) (BG ih))) ∨
    (∃ t a b k, af.todo = .code (.cond (.tmp t) a b) :: k ∧ CE E call round dcall ih af = M.if (unkB (T.get af.tmps t)) (both ih af t) (M.bind (BF E call round dcall af) (BG ih))) ∨
    CE E call round dcall ih af = M.bind (BF E call round dcall af) (BG ih) := by
  unfold CE
  split
  · exact .inl ⟨_, _, by assumption, rfl⟩
  · exact .inr (.inl ⟨_, _, _, _, by assumption, rfl⟩)
  · exact .inr (.inr (.inl ⟨_, _, _, by assumption, rfl⟩))
  · exact .inr (.inr (.inr (.inl ⟨_, _, _, _, by assumption, rfl⟩)))
  · exact .inr (.inr (.inr (.inr rfl)))
theorem FX_ (he : EnvOK E) (c1 : CallOK E call) (c2 : RoundOK E round) (c3 : DeferOK E dcall) {ih : AF → M (Value × FrameMode)} (hi : ForkOK E ih) {af : AF} {fr : Frame} {cs : List Frame} {s s' : St} {out : Out (Value × FrameMode)} (h : CE E call round dcall ih af s = rOf out s')
    (hm : af.mode = .run) (hF : FR E.P r af s.cx base fr cs) (hk : fr.kind = .normal) (hr : Rel w0 r s.mem w) (hb : Bnd s) (hf : AL r s.next s'.next) :
    ∃ w' r', Goes w0 r s s' r' w' ∧ s'.lim = s.lim ∧ FinE E.P r' base s'.cx fr (lone fr cs w) w' out := by
  have to : ∀ (k : List Item), FR E.P r (af.on k) s.cx base (frm fr fr.tmps fr.defers k) cs := fun k => by
    have := hF.to k
    rw [← hm] at this
    exact this
  rcases YD (E := E) (call := call) (round := round) (dcall := dcall) ih af with ⟨o, k, ht, e0⟩ | ⟨ops, i, l, k, ht, e0⟩ | ⟨id, ops, k, ht, e0⟩ | ⟨t, a, b, k, ht, e0⟩ | e0 <;> rw [e0] at h
  · have e := hF.frm hm
    rw [ht] at e
    have hst : Steps E.P (lone (frm fr fr.tmps fr.defers (.inRegion o [] :: k)) cs w) (lone (frm fr fr.tmps fr.defers k) cs w) := .one PL
    rw [← e] at hst
    exact J4 (s := s) hi h hk hb hf (.of_rel rfl hr) rfl (fr' := frm fr fr.tmps fr.defers k) rfl (to k) hst
  · obtain ⟨o, ho, h⟩ := Dw h
    exact X4 he c1 c2 hi h ho ht hm hF hk hr hb hf
  · rw [BQ] at h
    split at h
    · have e := hF.frm hm
      rw [ht] at e
      have hst : Steps E.P (lone (frm fr fr.tmps fr.defers (.code (.region id ops false) :: k)) cs w) (lone (frm fr fr.tmps fr.defers (.inRegion ops (List.range ops.size) :: k)) cs w) := .one NA
      rw [← e] at hst
      exact J4 (s := s) hi h hk hb hf (.of_rel rfl hr) rfl (fr' := frm fr fr.tmps fr.defers (.inRegion ops (List.range ops.size) :: k)) rfl (to _) hst
    · exact GR he c1 c2 c3 hi h hF hk hr hb hf
  · rw [BQ] at h
    split at h
    · rename_i hu
      exact PV hi h hu hF hk hr hf
    · exact GR he c1 c2 c3 hi h hF hk hr hb hf
  · exact GR he c1 c2 c3 hi h hF hk hr hb hf
theorem Wc (he : EnvOK E) (c1 : CallOK E call) (c2 : RoundOK E round) (c3 : DeferOK E dcall) {ih : AF → M (Value × FrameMode)} (hi : ForkOK E ih) : ForkOK E (JK E call round dcall ih) where
  loc := fun af => by
    unfold JK
    split
    · exact UY he c1 c2 c3 hi.loc _
    · exact Aa (F8 he c1 c2 c3 af) fun p => by
        cases p with
        | go af => exact hi.loc af
        | fin v u => exact Ab _
  ok := by
    intro w0 w r base af fr cs s out s' h hF hk hr hb hf
    have e0 : JK E call round dcall ih af = match af.mode with
      | .run => CE E call round dcall ih (af.on (skim 64 af.todo))
      | _ => M.bind (BF E call round dcall af) (BG ih) := rfl
    rw [e0] at h
    cases hm : af.mode with
    | run =>
      rw [hm] at h
      have hsk := Ct (P := E.P) (b := fr) (t := fr.tmps) (d := fr.defers) (cs := cs) (w := w) 64 af.todo
      rw [← hF.frm hm] at hsk
      have hF' := hF.to (skim 64 af.todo)
      rw [← hm] at hF'
      obtain ⟨w', r', k1, k2, k3⟩ := FX_ (af := af.on (skim 64 af.todo)) he c1 c2 c3 hi h hm hF' hk hr hb hf
      exact ⟨w', r', k1, k2, k3.head rfl hsk⟩
    | returning => rw [hm] at h; exact GR he c1 c2 c3 hi h hF hk hr hb hf
    | panicking c => rw [hm] at h; exact GR he c1 c2 c3 hi h hF hk hr hb hf
theorem IG (he : EnvOK E) (fuel : Nat) : ∀ n, ForkOK E (HQ E fuel n)
  | 0 => ⟨fun _ => Ad, fun h => (AH h).elim⟩
  | n + 1 => Wc he (LZ he (El he fuel)) (Sr (El he fuel)) (PJ he (El he fuel)) (IG he fuel n)
end
def Ec (E : Env) (f : Nat) (args : List Value) : M AF :=
  M.on (E.fn.get f) fun fn => M.on fn.body fun c => M.chk (Nat.ble args.length fn.ntmps)
    (fN fn.ntmps fun n => fN (Nat.sub (Nat.pow 2 n) 1) fun g => M.pure { fn := f, n, glob := g, tmps := C1 g args 0 .E, todo := [.code c], mode := .run, kind := .normal, roundOf := none })
def JP (E : Env) (fuel n f : Nat) (args : List Value) : M Value := within cxN (M.bind (M.bind (Ec E f args) (HQ E fuel n)) fstV)
section
variable {E : Env} {w0 w : World} {r : Inj} {base : List Deferred × List Frame}
theorem Zx {f : Nat} {args : List Value} {s s' : St} {af : AF} (h : Ec E f args s = .some af s') : s = s' ∧ ∃ fn c g, E.fn.get f = some fn ∧ fn.body = some c ∧ args.length ≤ fn.ntmps ∧
    af = { fn := f, n := fn.ntmps, glob := g, tmps := C1 g args 0 .E, todo := [.code c], mode := .run, kind := .normal, roundOf := none } := by
  unfold Ec at h
  obtain ⟨fn, h1, h⟩ := AS h
  obtain ⟨c, h2, h⟩ := AS h
  obtain ⟨h3, h⟩ := AP h
  rw [AG, AG] at h
  obtain ⟨rfl, rfl⟩ := Af h
  exact ⟨rfl, fn, c, _, h1, h2, Nat.le_of_ble_eq_true h3, rfl⟩
theorem Yc (f : Nat) (args : List Value) : Loc (Ec E f args) := Ah _ fun _fn => Ah _ fun _c => Ak _ (Ao _ fun _n => Ao _ fun _g => Ab _)
theorem O1 (f : Nat) (args : List Value) : NoPan (Ec E f args) := Ai _ fun _fn => Ai _ fun _c => An _ (As _ fun _n => As _ fun _g => Ag _)
theorem PK (he : EnvOK E) {f : Nat} {args args' : List Value} {s s' : St} {af : AF} (h : Ec E f args s = .some af s') (ha : VRs r args args') {cx : Ctx} {cs : List Frame} (hcx : CxR r base cx (Frame.enter E.P f args'.toArray .normal) [] cs) :
    (∀ w, (callFunc f args'.toArray).run E.P w = .ok (.enter f args'.toArray) w) ∧ FR E.P r af cx base (Frame.enter E.P f args'.toArray .normal) cs ∧ s = s' := by
  obtain ⟨rfl, fn, c, g, h1, h2, h3, rfl⟩ := Zx h
  obtain ⟨k1, k2⟩ := he.fn f fn h1
  refine ⟨fun w => ?_, ⟨rfl, ?_, ?_, fun _ => ?_, .run, True.intro, fun e => absurd rfl e, fun _ => ⟨fn, k1⟩, hcx⟩, rfl⟩
  · unfold callFunc
    simp [Sem.run, program, k1, k2, h2]
  · simp only [Frame.enter, k1, Option.map_some, Option.getD_some, Array.size_append, List.size_toArray, Array.size_replicate]
    have := ha.1
    omega
  · intro y v e
    rcases MX e with ⟨j, e1, e2, e3⟩ | e
    · obtain ⟨v', q1, q2⟩ := ha.get e2
      refine ⟨e3, v', ?_, q2⟩
      rw [Nat.zero_add] at e1
      subst e1
      simp only [Frame.enter]
      rw [Array.getElem?_append_left (by simpa using (List.getElem?_eq_some_iff.1 q1).1)]
      simpa using q1
    · cases e
  · simp [Frame.enter, k1, h2]
theorem Hy_ (he : EnvOK E) (fuel n f : Nat) : OrcOK E.P f (JP E fuel n f) where
  loc := fun args => JZ _ (Aa (Aa (Yc _ _) (IG he fuel n).loc) fun p => Ab _)
  ok := by
    intro w0 w r args args' s out s' h hr hb hf ha
    obtain ⟨s2, e1, rfl⟩ := Dq (show within cxN (M.bind (M.bind (Ec E f args) (HQ E fuel n)) fstV) s = rOf out s' from h)
    obtain ⟨af, s1, o, e2, e3, rfl⟩ := Ex (O1 _ _) e1
    have hen := fun (c : Frame) (cs : List Frame) => PK (base := ([], c :: cs)) (cx := cxN) he e2 ha (cs := c :: cs) ⟨⟨rfl, rfl⟩, rfl, .nil⟩
    refine ⟨(hen default []).1, fun c cs => ?_⟩
    obtain ⟨_, hF, rfl⟩ := hen c cs
    obtain ⟨w', r', k1, k2, cs', k3, k4⟩ := (IG he fuel n).ok e3 hF rfl hr hb hf
    have hcs : cs' = c :: cs := by
      rcases k3 with k3 | ⟨_, _, _, _, _, k, _⟩
      · exact k3.2
      · cases k
    refine ⟨w', r', ⟨k1.le, k1.nxt, k1.domB, k1.domE, k1.rel⟩, k2, rfl, ?_⟩
    cases o with
    | inl p =>
      obtain ⟨v', q1, q2, q3⟩ := k4
      exact ⟨v', q1, q2 c cs hcs⟩
    | inr ch =>
      obtain ⟨ch', q1, q2⟩ := k4
      exact ⟨ch', q1, q2 c cs hcs⟩
theorem X0 (he : EnvOK E) {fuel n f : Nat} {args : List Value} {v : Value} (h : valR (JP E fuel n f args st0) = some v) (hp : plain v = true) {args' : Array Value} {K : Know} (ha : VRs (.nil K) args args'.toList) (w : World) (hK : K.sure w) :
    Calls E.P f args' w fun e w' => e = .returned v ∧ Below w.heap.size w w' := by
  intro cs
  obtain ⟨s', h⟩ := IW h
  obtain ⟨s2, e1, rfl⟩ := Dq (o := .inl v) (show within cxN (M.bind (M.bind (Ec E f args) (HQ E fuel n)) fstV) st0 = rOf (.inl v) s' from h)
  obtain ⟨af, s1, o, e2, e3, e4⟩ := Ex (O1 _ _) e1
  obtain ⟨_, hF, rfl⟩ := PK (r := .nil K) (base := ([], cs)) (cx := cxN) he e2 ha (cs := cs) ⟨⟨rfl, rfl⟩, rfl, .nil⟩
  obtain ⟨w', r', k1, k2, cs', k3, k4⟩ := (IG he fuel n).ok e3 hF rfl (Rel.empty w hK) (Nat.le_refl _) (fun _ _ _ => ⟨rfl, rfl⟩)
  cases o with
  | inr c => cases e4
  | inl p =>
    cases e4
    obtain ⟨v', q1, q2, q3⟩ := k4
    obtain ⟨fr', x1, x2, x3⟩ := q3 rfl rfl
    have hcs : cs' = cs := by
      rcases k3 with k3 | ⟨_, _, _, _, _, k, _⟩
      · exact k3.2
      · cases k
    subst hcs
    exact ⟨.returned v', w', fr', ⟨by rw [q1.eq_of_plain hp], k1.rel.below⟩, x3, x1, x2⟩
end
open Go.RowKit Go.ChangeShapes
def zeroT (P : Program) (t : Nat) : Value := ((P.info? t).bind (·.zero)).getD .nilFunc
section
variable {H : Type} {enc : TypeId × Value → H} {P : Program} {W W' : World}
theorem below_all (hl : laidOutB P = true) (hb : Below W.heap.size W W') {sp : Nat → Bool} : ∀ {ts : List TypeId} {vs : List Value} {ds : List (DataW H)} {ps : List MemPlace}, (ts.all fun t => P.readableRec t && decide (t < P.types.size)) = true → DataW.TrodAll enc P W 0 (fun _ => true) true ts vs ds ps → (∀ x ∈ ps, x.block < W.heap.size) → (∀ x ∈ ps, sp x.block = true) →
    DataW.TrodAll enc P W' 0 sp true ts vs ds ps
  | [], _, _, _, _, h, _, _ => by
    obtain ⟨rfl, rfl, rfl⟩ := trodAll_nil h
    exact trodAll_mk0
  | t :: ts, _, _, _, hr, h, hlt, hsp => by
    obtain ⟨v, vs, d, ds, p, q, rfl, rfl, rfl, h1, h2⟩ := trodAll_cons h
    rw [List.all_cons, Bool.and_eq_true, Bool.and_eq_true] at hr
    refine ⟨p, q, WideElems.Trod_stays hl hr.1.1 (of_decide_eq_true hr.1.2) h1 (fun x hx => hb.same (hlt x (List.mem_append_left _ hx))) (fun x hx => hsp x (List.mem_append_left _ hx)), ?_, rfl⟩
    exact below_all hl hb hr.2 h2 (fun x hx => hlt x (List.mem_append_right _ hx)) (fun x hx => hsp x (List.mem_append_right _ hx))
end
end Go.Proofs.YtchnfdaebboaeaaGreatDoor.Am
end
