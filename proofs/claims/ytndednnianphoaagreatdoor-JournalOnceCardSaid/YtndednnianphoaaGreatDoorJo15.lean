import Derived.Test.YtndednnianphoaaGreatDoorJo14
import Derived.WalkSpells
import Derived.WalkLawsBesides
import Derived.BigQuiet
import Derived.Deep.QuietTactic
import Derived.Laws.CopyOwn
import Derived.Outline
import Derived.IntWalk
import Derived.Lib.Hide
import Derived.Deep.Heap
import Derived.Deep.Cut
import Derived.RegionTactic
import Derived.ChangeAlike
noncomputable section
namespace Go.Proofs.YtndednnianphoaaGreatDoor.Am
open Go.RowKit
section
variable {P : Program} {t : Nat}
theorem Sa (a : ByteArray) : ∀ (es : List MapEntry) (ns : List ByteArray) (i : Nat), es.map (·.key) = ns.map Value.string → ∃ r, Instr.findNow .string (.string a) (CT es) i = some r ∧ r.map (·.1) = (ns.findIdx? fun b => a == b).map (i + ·)
  | [], [], i, _ => ⟨none, rfl, rfl⟩
  | [], _ :: _, i, h => by cases h
  | _ :: _, [], i, h => by cases h
  | e :: es, n :: ns, i, h => by
    simp only [List.map_cons, List.cons.injEq] at h
    obtain ⟨h1, h2⟩ := h
    obtain ⟨r, h3, h4⟩ := Sa a es ns (i + 1) h2
    have hs : Instr.sameNow .string (.string a) e.key = some (a == n) := by rw [h1]; rfl
    have hu : Instr.findNow .string (.string a) (CT (e :: es)) i = (match Instr.sameNow .string (.string a) e.key with
      | some true => some (some (i, undef))
      | some false => Instr.findNow .string (.string a) (CT es) (i + 1)
      | none => none) := rfl
    rw [hu, hs]
    cases hq : a == n with
    | true => exact ⟨some (i, undef), rfl, by rw [List.findIdx?_cons, hq]; rfl⟩
    | false =>
      refine ⟨r, h3, ?_⟩
      rw [h4, List.findIdx?_cons, hq]
      simp only [Bool.false_eq_true, if_false, Option.map_map]
      congr 1
      funext x
      simp only [Function.comp]
      omega
theorem Um_ {d : Nat} {b : Bool} {a : Value} (hu : P.underlying t = some .string) : semP P (Instr.checkKey b (d + 1) t a) = some () := by
  unfold Instr.checkKey
  simp only [Fu, Gp_ hu, Option.bind_some]
  rfl
end
section
variable {E : Env} {s : St} {t kt et l m : Nat} {a : ByteArray} {es : List MapEntry} {ns : List ByteArray}
theorem J4 (hk : E.P.underlying kt = some .string) (he : es.map (·.key) = ns.map Value.string) (b : Bool) : Ca E b kt (.string a) es s = .some (ns.findIdx? fun x => a == x) s := by
  obtain ⟨r, h1, h2⟩ := Sa a es ns 0 he
  have hf : semP E.P (Instr.findKey kt (.string a) (CT es)) = some r := by
    unfold Instr.findKey
    rw [Fu, Gp_ hk]
    simp only [Option.bind_some, h1]
    rfl
  have h3 : r.map (·.1) = ns.findIdx? fun x => a == x := by
    rw [h2]
    cases ns.findIdx? fun x => a == x <;> simp
  unfold Ca
  show M.on (semP E.P (do Instr.checkKey b (9999 + 1) kt (.string a); Instr.findKey kt (.string a) (CT es))) (fun r => M.pure (r.map (·.1))) s = _
  rw [Fu, Um_ hk]
  simp only [Option.bind_some]
  rw [hf]
  show M.pure (r.map (·.1)) s = _
  rw [h3]
  rfl
theorem W.lookS1 {j : Nat} {e : MapEntry} {Q : Value → St → Prop} (hT : ∀ s, mapT E t s = .some (kt, et) s) (hk : E.P.underlying kt = some .string) (he : es.map (·.key) = ns.map Value.string) (hj : (ns.findIdx? fun x => a == x) = some j) (hej : es[j]? = some e) (ho : Obj s l (.map es m)) (q : Q e.val (s.rdN l)) : W (Cs E t false (.map (some l)) (.string a)) s Q := by
  refine W.bind ⟨_, _, hT s, ?_⟩
  show W (M.bind (mapAt l) fun p => Du E kt et (.string a) false p.1) s Q
  refine W.bind (W.bind (W.rdC ho.2 ho.1 (W.pure ?_)))
  show W (Du E kt et (.string a) false es) (s.rdN l) Q
  unfold Du
  refine W.bind ⟨_, _, J4 hk he _, ?_⟩
  rw [hj]
  show W (M.on es[j]? fun e => Dv false e.val true) (s.rdN l) Q
  rw [hej]
  exact W.pure q
theorem W.lookS0 {z : Value} {Q : Value → St → Prop} (hT : ∀ s, mapT E t s = .some (kt, et) s) (hZ : ∀ s, zeroOf E et s = .some z s) (hk : E.P.underlying kt = some .string) (he : es.map (·.key) = ns.map Value.string) (hj : (ns.findIdx? fun x => a == x) = none) (ho : Obj s l (.map es m)) (q : Q z (s.rdN l)) : W (Cs E t false (.map (some l)) (.string a)) s Q := by
  refine W.bind ⟨_, _, hT s, ?_⟩
  show W (M.bind (mapAt l) fun p => Du E kt et (.string a) false p.1) s Q
  refine W.bind (W.bind (W.rdC ho.2 ho.1 (W.pure ?_)))
  show W (Du E kt et (.string a) false es) (s.rdN l) Q
  unfold Du
  refine W.bind ⟨_, _, J4 hk he _, ?_⟩
  rw [hj]
  exact W.bind ⟨_, _, hZ _, W.pure q⟩
theorem Ext.wrO {s : St} (l : Nat) (c : Cell) : Ext Any (fun x => x = l) s ((s.rdN l).wrN l c) := by
  obtain ⟨d1, p1, p2⟩ := (Ext.rdN (F := Any) (G := Non) s l fun _ => trivial).rd
  obtain ⟨d2, p3, p4⟩ := (Ext.wrN (F := Any) (G := fun x => x = l) (s.rdN l) l c rfl).wr
  exact ⟨Nat.le_refl _, rfl, rfl, fun x h1 h2 => (Ext.wrN (F := Any) (G := fun x => x = l) (s.rdN l) l c rfl).mem x h1 h2, ⟨d1, p1, p2⟩, ⟨d2, p3, p4⟩⟩
theorem Obj.wrO {s : St} {l : Nat} {o o' : AObj} (h : Obj s l o) : Obj ((s.rdN l).wrN l (.O o')) l o' := ⟨h.1, by
  show T.get (T.set s.mem l _) l = _
  rw [T.get_set, if_pos rfl]⟩
theorem W.mapUpS0 {x : Value} {Q : Value → St → Prop} (hT : ∀ s, mapT E t s = .some (kt, et) s) (hk : E.P.underlying kt = some .string) (he : es.map (·.key) = ns.map Value.string) (hj : (ns.findIdx? fun x => a == x) = none) (ho : Obj s l (.map es m))
    (q : ∀ s1, s1.next = s.next → Ext Any (fun y => y = l) s s1 → Obj s1 l (.map (es ++ [⟨.string a, x, m⟩]) (m + 1)) → Q undef s1) : W (DC E t (.map (some l)) (.string a) x) s Q := by
  refine W.bind ⟨_, _, hT s, ?_⟩
  show W (M.bind (mapAt l) fun p => M.bind (putE E kt (.string a) x l p) fun _ => M.pure undef) s Q
  refine W.bind (W.bind (W.rdC ho.2 ho.1 (W.pure ?_)))
  refine W.bind ?_
  show W (putE E kt (.string a) x l (es, m)) (s.rdN l) _
  unfold putE
  refine W.bind ⟨_, _, J4 hk he _, ?_⟩
  rw [hj]
  have hl : l < (s.rdN l).next := ho.1
  exact W.wrC hl (W.pure (q _ rfl (Ext.wrO l _) (Obj.wrO ho)))
theorem W.delS {j : Nat} {Q : Value → St → Prop} (hT : ∀ s, mapT E t s = .some (kt, et) s) (hk : E.P.underlying kt = some .string) (he : es.map (·.key) = ns.map Value.string) (hj : (ns.findIdx? fun x => a == x) = some j) (ho : Obj s l (.map es m))
    (q : ∀ s1, s1.next = s.next → Ext Any (fun y => y = l) s s1 → Obj s1 l (.map (es.eraseIdx j) m) → Q undef s1) : W (kDel E t (.map (some l)) (.string a)) s Q := by
  refine W.bind ⟨_, _, hT s, ?_⟩
  show W (M.bind (mapAt l) fun p => M.bind (Ca E p.1.isEmpty kt (.string a) p.1) fun r => (match r with
    | some j => M.bind (Am.wrC l (.O (.map (p.1.eraseIdx j) p.2))) fun _ => M.pure undef
    | none => M.bind (Am.wrC l (.O (.map p.1 p.2))) fun _ => M.pure undef)) s Q
  refine W.bind (W.bind (W.rdC ho.2 ho.1 (W.pure ?_)))
  refine W.bind ⟨_, _, J4 hk he _, ?_⟩
  rw [hj]
  have hl : l < (s.rdN l).next := ho.1
  exact W.bind (W.wrC hl (W.pure (q _ rfl (Ext.wrO l _) (Obj.wrO ho))))
def mapU (E : Env) (t : Nat) : Bool := match T.get E.ty t with | some i => (match i.u with | .map _ _ => true | _ => false) | none => false
theorem W.lenM {Q : Value → St → Prop} (h : mapU E t = true) (ho : Obj s l (.map es m)) (q : Q (.int .i64 (es.length : Nat)) (s.rdN l)) : W (A8 E .len [t] [.map (some l)]) s Q := by
  unfold mapU at h
  split at h
  · rename_i i hi
    split at h
    · rename_i k e hu
      show W (aLen E t (.map (some l))) s Q
      unfold aLen
      refine W.bind (aR hi ?_)
      rw [hu]
      show W (D5 (.map (some l))) s Q
      unfold D5
      refine W.bind (W.bind (W.rdC ho.2 ho.1 (W.pure ?_)))
      show W (pN es.length) (s.rdN l) Q
      exact W.fN (W.pure q)
    · cases h
  · cases h
end
section
variable {E : Env} {s : St}
def FL (s : St) (e : MapEntry) (n : Nat) : Prop := ∃ b p1 n1 c1 p2 n2 c2, e.val = .pointer (some ⟨b, 0, none⟩) ∧ At s b 0 (.slice p1 n1 c1) ∧ At s b 1 (.slice p2 n2 c2) ∧ n = n1 + n2
theorem FL.same {s s' : St} {e : MapEntry} {n : Nat} (h : FL s e n) (hm : s'.mem = s.mem) (hn : s'.next = s.next) : FL s' e n := by
  obtain ⟨b, p1, n1, c1, p2, n2, c2, e1, a1, a2, e2⟩ := h
  exact ⟨b, p1, n1, c1, p2, n2, c2, e1, a1.same hm hn, a2.same hm hn, e2⟩
theorem W.filesLen : ∀ {es : List MapEntry} {ns : List Nat} {s : St} {Q : Int → St → Prop}, es.length = ns.length → (∀ (i : Nat) (e : MapEntry) (n : Nat), es[i]? = some e → ns[i]? = some n → FL s e n) → s.lim ≤ s.next →
    (∀ s1, s1.mem = s.mem → s1.next = s.next → Ext Any Non s s1 → Q (Int.ofNat ns.sum) s1) → W (Am.filesLen es) s Q
  | [], [], s, Q, _, _, _, q => W.pure (q s rfl rfl (Ext.refl s))
  | [], _ :: _, _, _, h, _, _, _ => by cases h
  | _ :: _, [], _, _, h, _, _, _ => by cases h
  | e :: es, n :: ns, s, Q, hl, h, hb, q => by
    obtain ⟨b, p1, n1, c1, p2, n2, c2, e1, a1, a2, e2⟩ := h 0 e n rfl rfl
    show W (M.bind (Am.fileLen e.val) fun n => M.bind (Am.filesLen es) fun k => fI (n + k) fun i => M.pure i) s Q
    refine W.bind ?_
    rw [e1]
    show W (M.bind (Am.rdV ⟨b, 0, none⟩) fun x => M.bind (Am.rdV ⟨b, 0 + 1, none⟩) fun y => match x, y with
      | .slice _ n _, .slice _ k _ => fI (Int.ofNat n + Int.ofNat k) fun i => M.pure i
      | _, _ => aA) s _
    refine W.bind (W.rdV a1 (W.bind (W.rdV (a2.same rfl rfl) ?_)))
    show W (fI (Int.ofNat n1 + Int.ofNat n2) fun i => M.pure i) _ _
    rw [BO]
    refine W.pure ?_
    have x1 : Ext Any Non s ((s.rdN (b + 0)).rdN (b + (0 + 1))) := (Ext.rdN (F := Any) (G := Non) s _ fun _ => trivial).trans (Ext.rdN (F := Any) (G := Non) _ _ fun _ => trivial) hb (fun _ _ _ => trivial) fun _ _ h => h
    refine W.bind (W.filesLen (by simpa using hl) (fun i e n h1 h2 => (h (i + 1) e n (by simpa using h1) (by simpa using h2)).same rfl rfl) (x1.bnd hb) fun s1 m1 n1' y1 => ?_)
    rw [BO]
    refine W.pure ?_
    have := q s1 m1 n1' (x1.trans y1 hb (fun _ _ _ => trivial) fun _ _ h => h)
    rw [List.sum_cons, e2] at this
    exact this
theorem W.used {D l m : Nat} {es : List MapEntry} {ns : List Nat} {Q : Value → St → Prop} (hb : s.lim ≤ s.next) (h0 : At s D 0 (.bool true)) (h1 : At s D 1 (.map (some l))) (ho : Obj s l (.map es m)) (hbo : Bi es 0 m = true) (hl : es.length = ns.length) (h : ∀ (i : Nat) (e : MapEntry) (n : Nat), es[i]? = some e → ns[i]? = some n → FL s e n)
    (q : ∀ s1, s1.mem = s.mem → s1.next = s.next → Ext Any Non s s1 → Q (.int .i64 (wrap64 (ns.sum : Nat))) s1) : W (usedM [.pointer (some ⟨D, 0, none⟩)]) s Q := by
  show W (M.bind (Am.rdV ⟨D, 0, none⟩) fun x => match x with
    | .bool true => M.bind (Am.rdV ⟨D, 0 + 1, none⟩) fun y => match y with
      | .map (some l) => M.bind (Am.mapAt l) fun p => M.chk (Bi p.1 0 p.2) (M.bind (Am.filesLen p.1) fun n => fI (wrap64 n) fun n => M.pure (.int .i64 n))
      | _ => aA
    | _ => aA) s Q
  refine W.bind (W.rdV h0 (W.bind (W.rdV (h1.same rfl rfl) ?_)))
  have ho' : Obj ((s.rdN (D + 0)).rdN (D + (0 + 1))) l (.map es m) := ho.same rfl rfl
  refine W.bind (W.bind (W.rdC ho'.2 ho'.1 (W.pure (W.chk hbo ?_))))
  have x1 : Ext Any Non s (((s.rdN (D + 0)).rdN (D + (0 + 1))).rdN l) := ((Ext.rdN (F := Any) (G := Non) s _ fun _ => trivial).trans (Ext.rdN (F := Any) (G := Non) _ _ fun _ => trivial) hb (fun _ _ _ => trivial) fun _ _ h => h).trans (Ext.rdN (F := Any) (G := Non) _ _ fun _ => trivial) hb (fun _ _ _ => trivial) fun _ _ h => h
  refine W.bind (W.filesLen hl (fun i e n h1 h2 => (h i e n h1 h2).same rfl rfl) (x1.bnd hb) fun s1 m1 n1 y1 => ?_)
  rw [BO]
  exact W.pure (q s1 m1 n1 (x1.trans y1 hb (fun _ _ _ => trivial) fun _ _ h => h))
end
structure FileS where
  name : ByteArray
  born : Nat
  blk : Nat
  sv : Value
  sbk : Nat
  sb : List Nat
  lv : Value
  lbk : Nat
  lb : List Nat
def FileS.ent (f : FileS) : MapEntry := ⟨.string f.name, .pointer (some ⟨f.blk, 0, none⟩), f.born⟩
def FileS.all (f : FileS) : List Nat := f.sb ++ f.lb
structure FileI (s : St) (col : Nat → Nat) (c : Nat) (f : FileS) : Prop where
  o0 : Own s f.blk 0 f.sv
  o1 : Own s f.blk 1 f.lv
  k : ∀ x, f.blk ≤ x → x < f.blk + 2 → col x = c
  ms : MkS s 1 f.sb.length (u8l f.sb) f.sv f.sbk
  ks : ∀ x, MkF 1 f.sb.length f.sbk x → col x = c + 1
  ml : MkS s 1 f.lb.length (u8l f.lb) f.lv f.lbk
  kl : ∀ x, MkF 1 f.lb.length f.lbk x → col x = c + 2
theorem FileI.ext {F G : Nat → Prop} {s s' : St} {col : Nat → Nat} {c : Nat} {f : FileS} (h : FileI s col c f) (x : Ext F G s s') (hG : ∀ y, y < s.next → G y → col y ≠ c ∧ col y ≠ c + 1 ∧ col y ≠ c + 2) : FileI s' col c f := by
  have b0 := h.o0.1
  have b1 := h.o1.1
  exact ⟨h.o0.ext x fun g => (hG _ b0 g).1 (h.k _ (by omega) (by omega)), h.o1.ext x fun g => (hG _ b1 g).1 (h.k _ (by omega) (by omega)), h.k, h.ms.ext x fun y hy g => (hG y (h.ms.lt y hy) g).2.1 (h.ks y hy), h.ks, h.ml.ext x fun y hy g => (hG y (h.ml.lt y hy) g).2.2 (h.kl y hy), h.kl⟩
theorem FileI.col {s : St} {col col' : Nat → Nat} {c : Nat} {f : FileS} (h : FileI s col c f) (e : ∀ x, x < s.next → col' x = col x) : FileI s col' c f := by
  have b0 := h.o0.1
  have b1 := h.o1.1
  exact ⟨h.o0, h.o1, fun x h1 h2 => (e x (by omega)).trans (h.k x h1 h2), h.ms, fun x hx => (e x (h.ms.lt x hx)).trans (h.ks x hx), h.ml, fun x hx => (e x (h.ml.lt x hx)).trans (h.kl x hx)⟩
theorem FileI.same {s s' : St} {col : Nat → Nat} {c : Nat} {f : FileS} (h : FileI s col c f) (hm : s'.mem = s.mem) (hn : s'.next = s.next) : FileI s' col c f :=
  ⟨h.o0.same hm hn, h.o1.same hm hn, h.k, h.ms.same hm hn, h.ks, h.ml.same hm hn, h.kl⟩
structure DkS where
  fs : List FileS
  mx : Nat
  room : Int
  steps : Int
  fused : Bool
  left : Int
  out : Bool
structure DkI (s : St) (col : Nat → Nat) (D M : Nat) (k : DkS) : Prop where
  d0 : Own s D 0 (.bool true)
  d1 : Own s D 1 (.map (some M))
  d2 : Own s D 2 (.int .i64 k.room)
  d3 : Own s D 3 (.int .i64 k.steps)
  d4 : Own s D 4 (.bool k.fused)
  d5 : Own s D 5 (.int .i64 k.left)
  d6 : Own s D 6 (.bool k.out)
  kd : ∀ x, D ≤ x → x < D + 7 → col x = 0
  om : Obj s M (.map (k.fs.map FileS.ent) k.mx)
  km : col M = 1
  bo : Bi (k.fs.map FileS.ent) 0 k.mx = true
  fl : ∀ i (h : i < k.fs.length), FileI s col (2 + 3 * i) k.fs[i]
theorem DkI.ext {F G : Nat → Prop} {s s' : St} {col : Nat → Nat} {D M : Nat} {k : DkS} (h : DkI s col D M k) (x : Ext F G s s') (hl : k.fs.length ≤ 300) (hG : ∀ y, y < s.next → G y → 1000 ≤ col y) : DkI s' col D M k := by
  have c : ∀ o, o < 7 → D + o < s.next → ¬ G (D + o) := fun o ho hn g => by
    have h1 := hG _ hn g
    have h2 := h.kd (D + o) (by omega) (by omega)
    omega
  exact ⟨h.d0.ext x (c 0 (by decide) h.d0.1), h.d1.ext x (c 1 (by decide) h.d1.1), h.d2.ext x (c 2 (by decide) h.d2.1), h.d3.ext x (c 3 (by decide) h.d3.1), h.d4.ext x (c 4 (by decide) h.d4.1), h.d5.ext x (c 5 (by decide) h.d5.1), h.d6.ext x (c 6 (by decide) h.d6.1), h.kd, h.om.ext x fun g => by
    have h1 := hG _ h.om.1 g
    have h2 := h.km
    omega, h.km, h.bo, fun i hi => (h.fl i hi).ext x fun y hy g => by
    have h1 := hG y hy g
    omega⟩
theorem DkI.col {s : St} {col col' : Nat → Nat} {D M : Nat} {k : DkS} (h : DkI s col D M k) (e : ∀ x, x < s.next → col' x = col x) : DkI s col' D M k := by
  have b6 := h.d6.1
  exact ⟨h.d0, h.d1, h.d2, h.d3, h.d4, h.d5, h.d6, fun x h1 h2 => (e x (by omega)).trans (h.kd x h1 h2), h.om, (e M h.om.1).trans h.km, h.bo, fun i hi => (h.fl i hi).col e⟩
theorem DkI.same {s s' : St} {col : Nat → Nat} {D M : Nat} {k : DkS} (h : DkI s col D M k) (hm : s'.mem = s.mem) (hn : s'.next = s.next) : DkI s' col D M k :=
  ⟨h.d0.same hm hn, h.d1.same hm hn, h.d2.same hm hn, h.d3.same hm hn, h.d4.same hm hn, h.d5.same hm hn, h.d6.same hm hn, h.kd, h.om.same hm hn, h.km, h.bo, fun i hi => (h.fl i hi).same hm hn⟩
theorem DkI.ext0 {F : Nat → Prop} {s s' : St} {col : Nat → Nat} {D M : Nat} {k : DkS} (h : DkI s col D M k) (x : Ext F Non s s') (hl : k.fs.length ≤ 300) : DkI s' col D M k := h.ext x hl fun _ _ g => g.elim
def Av (col : Nat → Nat) (n c : Nat) : Nat → Nat := fun x => if x < n then col x else c
theorem AG {col : Nat → Nat} {n c x : Nat} (h : x < n) : Av col n c x = col x := by unfold Av; rw [if_pos h]
theorem Ch {col : Nat → Nat} {n c x : Nat} (h : n ≤ x) : Av col n c x = c := by unfold Av; rw [if_neg (by omega)]
def DG (col : Nat → Nat) (n : Nat) : Nat → Prop := fun x => n ≤ x ∨ col x < 1000
end Go.Proofs.YtndednnianphoaaGreatDoor.Am
namespace Go.Proofs.YtndednnianphoaaGreatDoor
def rot (x n : Nat) : Nat := x / 2 ^ n ||| x * 2 ^ (32 - n) % 4294967296
theorem I6 (x n : Nat) (h : x < 4294967296) : rot x n < 4294967296 := by
  unfold rot
  exact Nat.or_lt_two_pow (n := 32) (Nat.lt_of_le_of_lt (Nat.div_le_self _ _) h) (Nat.mod_lt _ (by decide))
namespace Sha
def s0 (x : Nat) : Nat := rot x 7 ^^^ rot x 18 ^^^ x / 2 ^ 3
def s1 (x : Nat) : Nat := rot x 17 ^^^ rot x 19 ^^^ x / 2 ^ 10
theorem xor_lt {a b : Nat} (ha : a < 4294967296) (hb : b < 4294967296) : a ^^^ b < 4294967296 := Nat.xor_lt_two_pow (n := 32) ha hb
theorem Om {a b : Nat} (ha : a < 4294967296) (hb : b < 4294967296) : a ||| b < 4294967296 := Nat.or_lt_two_pow (n := 32) ha hb
theorem Ads_ {x : Nat} (h : x < 4294967296) : s0 x < 4294967296 := xor_lt (xor_lt (I6 _ _ h) (I6 _ _ h)) (Nat.lt_of_le_of_lt (Nat.div_le_self _ _) h)
theorem Ady_ {x : Nat} (h : x < 4294967296) : s1 x < 4294967296 := xor_lt (xor_lt (I6 _ _ h) (I6 _ _ h)) (Nat.lt_of_le_of_lt (Nat.div_le_self _ _) h)
def be (a b c d : Nat) : Nat := a * 2 ^ 24 ||| b * 2 ^ 16 ||| c * 2 ^ 8 ||| d
def sch (B : Nat → Nat) (i : Nat) : Nat :=
  if i < 16 then be (B (4 * i)) (B (4 * i + 1)) (B (4 * i + 2)) (B (4 * i + 3))
  else (((sch B (i - 16) + s0 (sch B (i - 15))) % 4294967296 + sch B (i - 7)) % 4294967296 + s1 (sch B (i - 2))) % 4294967296
termination_by i
decreasing_by all_goals omega
theorem Sx_ {a b c d : Nat} (ha : a < 256) (hb : b < 256) (hc : c < 256) (hd : d < 256) : be a b c d < 4294967296 :=
  Om (Om (Om (by omega) (by omega)) (by omega)) (by omega)
theorem Adm_ {B : Nat → Nat} (hB : ∀ j, B j < 256) (i : Nat) : sch B i < 4294967296 := by
  unfold sch
  split
  · exact Sx_ (hB _) (hB _) (hB _) (hB _)
  · exact Nat.mod_lt _ (by decide)
theorem Adx_ {B : Nat → Nat} {i : Nat} (h : i < 16) : sch B i = be (B (4 * i)) (B (4 * i + 1)) (B (4 * i + 2)) (B (4 * i + 3)) := by
  rw [sch, if_pos h]
theorem Adw_ {B : Nat → Nat} {i : Nat} (h : 16 ≤ i) : sch B i = (((sch B (i - 16) + s0 (sch B (i - 15))) % 4294967296 + sch B (i - 7)) % 4294967296 + s1 (sch B (i - 2))) % 4294967296 := by
  rw [sch, if_neg (by omega)]
structure St8 where
  a : Nat
  b : Nat
  c : Nat
  d : Nat
  e : Nat
  f : Nat
  g : Nat
  h : Nat
structure St8.Ok (s : St8) : Prop where
  a : s.a < 4294967296
  b : s.b < 4294967296
  c : s.c < 4294967296
  d : s.d < 4294967296
  e : s.e < 4294967296
  f : s.f < 4294967296
  g : s.g < 4294967296
  h : s.h < 4294967296
def t1 (s : St8) (k w : Nat) : Nat :=
  ((((s.h + (rot s.e 6 ^^^ rot s.e 11 ^^^ rot s.e 25)) % 4294967296 + (s.e &&& s.f ^^^ (4294967295 ^^^ s.e) &&& s.g)) % 4294967296 + k) % 4294967296 + w) % 4294967296
def t2 (s : St8) : Nat :=
  ((rot s.a 2 ^^^ rot s.a 13 ^^^ rot s.a 22) + (s.a &&& s.b ^^^ s.a &&& s.c ^^^ s.b &&& s.c)) % 4294967296
def rnd (s : St8) (k w : Nat) : St8 := ⟨(t1 s k w + t2 s) % 4294967296, s.a, s.b, s.c, (s.d + t1 s k w) % 4294967296, s.e, s.f, s.g⟩
theorem KW_ {s : St8} (h : s.Ok) (k w : Nat) : (rnd s k w).Ok := ⟨Nat.mod_lt _ (by decide), h.a, h.b, h.c, Nat.mod_lt _ (by decide), h.e, h.f, h.g⟩
def rnds (K W : Nat → Nat) (s : St8) : Nat → St8
  | 0 => s
  | n + 1 => rnd (rnds K W s n) (K n) (W n)
theorem Tj_ {K W : Nat → Nat} {s : St8} (h : s.Ok) : ∀ n, (rnds K W s n).Ok
  | 0 => h
  | n + 1 => KW_ (Tj_ h n) _ _
def plus (s r : St8) : St8 := ⟨(r.a + s.a) % 4294967296, (r.b + s.b) % 4294967296, (r.c + s.c) % 4294967296, (r.d + s.d) % 4294967296, (r.e + s.e) % 4294967296, (r.f + s.f) % 4294967296, (r.g + s.g) % 4294967296, (r.h + s.h) % 4294967296⟩
def ks : List Nat := [0x428a2f98, 0x71374491, 0xb5c0fbcf, 0xe9b5dba5, 0x3956c25b, 0x59f111f1, 0x923f82a4, 0xab1c5ed5, 0xd807aa98, 0x12835b01, 0x243185be, 0x550c7dc3, 0x72be5d74, 0x80deb1fe, 0x9bdc06a7, 0xc19bf174, 0xe49b69c1, 0xefbe4786, 0x0fc19dc6, 0x240ca1cc, 0x2de92c6f, 0x4a7484aa, 0x5cb0a9dc, 0x76f988da, 0x983e5152, 0xa831c66d, 0xb00327c8, 0xbf597fc7, 0xc6e00bf3, 0xd5a79147, 0x06ca6351, 0x14292967, 0x27b70a85, 0x2e1b2138, 0x4d2c6dfc, 0x53380d13, 0x650a7354, 0x766a0abb, 0x81c2c92e, 0x92722c85, 0xa2bfe8a1, 0xa81a664b, 0xc24b8b70, 0xc76c51a3, 0xd192e819, 0xd6990624, 0xf40e3585, 0x106aa070, 0x19a4c116, 0x1e376c08, 0x2748774c, 0x34b0bcb5, 0x391c0cb3, 0x4ed8aa4a, 0x5b9cca4f, 0x682e6ff3, 0x748f82ee, 0x78a5636f, 0x84c87814, 0x8cc70208, 0x90befffa, 0xa4506ceb, 0xbef9a3f7, 0xc67178f2]
def K (i : Nat) : Nat := ks.getD i 0
theorem Ado_ : ks.length = 64 := by rfl
def next (s : St8) (B : Nat → Nat) : St8 := plus s (rnds K (sch B) s 64)
theorem Adu_ (s r : St8) : (plus s r).Ok := ⟨Nat.mod_lt _ (by decide), Nat.mod_lt _ (by decide), Nat.mod_lt _ (by decide), Nat.mod_lt _ (by decide), Nat.mod_lt _ (by decide), Nat.mod_lt _ (by decide), Nat.mod_lt _ (by decide), Nat.mod_lt _ (by decide)⟩
end Sha
open Go.RowKit
theorem To {a b : Int} (h : a = b) : Ending.returned (.int .u32 a) = .returned (.int .u32 b) := by rw [h]
theorem TP_ {wr : World} {R : Nat} {cs : Array Value} {t : TypeId} (h : wr.heap[R]? = some (.cells cs t (0, 0))) (j : Nat) : wr.cell? ⟨R, j, none⟩ = cs[j]? := by simp [World.cell?, h]
theorem Adt_ {wr : World} {R : Nat} {cs : Array Value} {t : TypeId} (h : wr.heap[R]? = some (.cells cs t (0, 0))) (j : Nat) : wr.frozen? ⟨R, j, none⟩ = false := by simp [World.frozen?, h]
theorem Adn_ {wr : World} {R j : Nat} {cs : Array Value} {t : TypeId} {v : Value} (h : wr.heap[R]? = some (.cells cs t (0, 0))) : (wr.setCell ⟨R, j, none⟩ v).heap[R]? = some (.cells (cs.setIfInBounds j v) t (0, 0)) := by
  simp [World.setCell, Array.getElem?_modify, h]
def env0 : Am.Env := Am.envOf Tryz.prog .E .E
theorem Wd_ : Am.EnvOK env0 := Am.envOf_ok Tryz.prog (by kernel_rfl)
theorem Adr_ {a b : Nat} (ha : a < 4294967296) : a &&& b < 4294967296 := Nat.lt_of_le_of_lt Nat.and_le_left ha
structure Put (w w' : World) (g : Nat) (cs : Array Value) (t : TypeId) : Prop where
  at' : w'.heap[g]? = some (.cells cs t (0, 0))
  oth : ∀ k, k ≠ g → w'.heap[k]? = w.heap[k]?
  size : w'.heap.size = w.heap.size
  bel : ∀ B, B ≤ g → Below B w w'
theorem YU {P : Program} {ops : Array Oper} {rest : List Oper} {o : Oper} {a : Act} {w : World} {Q : Exit → Act → World → Prop} (hgd : o.guard = none) (ty : TypeId) (x y : Operand) (ho : o.op = .store ty x y)
    (g : Nat) (cells : Array Value) (hx : a.eval x = .pointer (some ⟨g, 0, none⟩)) (hy : a.eval y = .agg cells)
    (t : TypeId) (old : Array Value) (hg : w.heap[g]? = some (.cells old t (0, 0))) (hi : (P.info? ty).map (·.size) = some cells.size)
    (hold : old.size = cells.size) (h1 : cells.all (·.oneCell') = true)
    (h : ∀ w', Put w w' g cells t → wpList P ops Q rest (a.put o.dst undef) w') : wpList P ops Q (o :: rest) a w :=
  wpList_store_row hgd ty x y ho g cells hx hy t old hg hi hold h1 (h _ ⟨setRow_heap _ _ _ _ _ _ hg, fun _k hk => setRow_other _ _ _ _ hk, size_setRow _ _ _, fun _B hB => below_setRow (Below.refl _ _) hB _⟩)
theorem Adp_ {B : Nat} {w w' : World} (h : Below B w w') {k : Nat} (hk : k < B) : w'.heap[k]? = w.heap[k]? := h.block k hk
def crc8 (n : Nat) : Nat → Nat
  | 0 => n
  | k + 1 => if n % 2 = 1 then crc8 (n / 2 ^^^ 3988292384) k else crc8 (n / 2) k
def crcT (i : Nat) : Nat := crc8 i 8
def Kw (n c : Nat) : Nat := crcT (n % 256 ^^^ c) ^^^ n / 256
def crcs (n : Nat) (l : List Nat) : Nat := l.foldl Kw n
def CX (n : Nat) (l : List Nat) : Nat := 4294967295 ^^^ crcs (4294967295 ^^^ n) l
def arrT : Array Value := ((List.range 256).map fun i : Nat => Value.int .u32 (crcT i : Nat)).toArray
theorem NU_ : Am.valR (Am.callF env0 1000000 114 [] Am.st0) = some (.agg arrT) := by kernel_rfl
theorem Qs_ : Am.plain (.agg arrT) = true := by kernel_rfl
theorem BI_ (w : World) : Calls Tryz.prog 114 #[] w fun e w' => e = .returned (.agg arrT) ∧ Below w.heap.size w w' :=
  Am.calls_of Wd_ (by kernel_rfl) (by kernel_rfl) NU_ Qs_ w
theorem MM : ∀ (k n : Nat), n < 4294967296 → crc8 n k < 4294967296
  | 0, n, h => h
  | k + 1, n, h => by
    unfold crc8
    split
    · exact MM k _ (Sha.xor_lt (by omega) (by decide))
    · exact MM k _ (by omega)
theorem DV_ {i : Nat} (h : i < 256) : crcT i < 4294967296 := MM 8 i (by omega)
theorem Q9 {n c : Nat} (hc : c < 256) : n % 256 ^^^ c < 256 := Nat.xor_lt_two_pow (n := 8) (by omega) hc
theorem Ss_ {n c : Nat} (hn : n < 4294967296) (hc : c < 256) : Kw n c < 4294967296 := Sha.xor_lt (DV_ (Q9 hc)) (by omega)
theorem Xq : ∀ (l : List Nat) (n : Nat), n < 4294967296 → (∀ c ∈ l, c < 256) → crcs n l < 4294967296
  | [], n, h, _ => h
  | c :: l, n, h, hl => Xq l _ (Ss_ h (hl c (by simp))) fun d hd => hl d (by simp [hd])
theorem JG_ (n : Nat) (l : List Nat) (k : Nat) (h : k < l.length) : crcs n (l.take (k + 1)) = Kw (crcs n (l.take k)) l[k] := by
  unfold crcs
  rw [List.take_succ_eq_append_getElem h, List.foldl_append]
  rfl
theorem Qr : arrT.size = 256 := by simp [arrT]
theorem Pc_ (j : Nat) (h : j < 256) : arrT[j]? = some (.int .u32 (crcT j : Nat)) := by simp [arrT, h]
theorem CB_ : (Tryz.prog.info? 159).map (·.size) = some arrT.size := by
  rw [Qr]
  kernel_rfl
theorem Rs : arrT.all (·.oneCell') = true := by
  rw [Array.all_eq_true]
  intro i hi
  simp [arrT, Value.oneCell']
theorem Adq_ (z : Array Value) (hz : z = Array.replicate 256 (.int .u32 0)) : z.size = arrT.size := by rw [hz, Qr]; simp
theorem Ji {n : Nat} (h : n < 4294967296) : bits .xor .u32 IntKind.u32.max (n : Int) = ((4294967295 ^^^ n : Nat) : Int) := by
  have hm : IntKind.u32.max = ((4294967295 : Nat) : Int) := by decide
  rw [hm, u32_xor_nat _ _ (by decide) h]
theorem Xh_ {n c : Nat} (h : c < 256) : bits .xor .u8 ((n : Int) % 256) (c : Int) = ((n % 256 ^^^ c : Nat) : Int) := by
  have e : (n : Int) % 256 = ((n % 256 : Nat) : Int) := by omega
  rw [e, u8_xor_nat _ _ (by omega) h]
set_option maxRecDepth 1000000 in
set_option maxHeartbeats 1600000 in
theorem UK_ (sum : Nat) (hs : sum < 4294967296) (bb bo cap : Nat) (l : List Nat) (hl : ∀ c ∈ l, c < 256) (hlen : l.length ≤ 4611686018427387904) (w : World) (hc : ∀ j, (h : j < l.length) → w.cell? ⟨bb, bo + j, none⟩ = some (.int .u8 (l[j] : Nat))) :
    Calls Tryz.prog 83 #[.int .u32 sum, .slice (some ⟨bb, bo, none⟩) l.length cap] w fun e w' => e = .returned (.int .u32 (CX sum l : Nat)) ∧ Below w.heap.size w w' := by
  have HC := Lib.hid hc
  have HL := Lib.hid hl
  clear hc hl
  go_enter Tryz.func83, Tryz.ntmps83
  go_wp2_with fail
  refine (BI_ _).mono ?_
  rintro e w1 ⟨rfl, hb1⟩
  have HB := Lib.hid hb1
  clear hb1
  go_wp2_with (with_reducible refine YU (o := ⟨none, .store _ (.tmp 5) (.tmp 9), _, _, _, _⟩) rfl 159 (.tmp 5) (.tmp 9) rfl w1.heap.size arrT rfl rfl _ _ (heap_alloc_new _ _) CB_ (by kernel_rfl) Rs ?_; intro w2 P2)
  have hT : ∀ j, j < 256 → w2.cell? ⟨w1.heap.size, j, none⟩ = some (.int .u32 (crcT j : Nat)) := fun j hj => by rw [TP_ P2.at', Pc_ j hj]
  have hb2 : Below w.heap.size w w2 := (HB.out.alloc (by have := HB.out.size; omega) _).trans (P2.bel _ HB.out.size)
  have hcc : ∀ j, (h : j < l.length) → w2.cell? ⟨bb, bo + j, none⟩ = some (.int .u8 (l[j] : Nat)) := fun j h => (hb2.cell (p := ⟨bb, bo + j, none⟩) (World.block_lt_of_cell? w _ (HC.out j h))).trans (HC.out j h)
  have HT := Lib.hid hT
  have HB2 := Lib.hid hb2
  have HCC := Lib.hid hcc
  clear hT hb2 hcc HC HB P2
  rw [Ji hs]
  have hn0 : 4294967295 ^^^ sum < 4294967296 := Sha.xor_lt (by decide) hs
  have HN := Lib.hid (show CX sum l = 4294967295 ^^^ crcs (4294967295 ^^^ sum) l from rfl)
  generalize (4294967295 ^^^ sum) = n0 at *
  generalize w1.heap.size = H at *
  clear w1
  have HX := Lib.hid (fun k => Xq (l.take k) n0 hn0 fun c hc => HL.out c (List.mem_of_mem_take hc))
  clear hn0
  go_loop [6, 14] (fun a i => ∃ k : Nat, k ≤ l.length ∧ i = .int .i64 k ∧ a = .int .u32 (crcs n0 (l.take k) : Nat)) (fun _ i => l.length - (intOf i).toNat)
  case atStart => exact ⟨0, Nat.zero_le _, rfl, rfl⟩
  case round =>
    obtain ⟨k, hk, rfl, rfl⟩ := hrel
    have hx := HX.out k
    by_cases hlt : k < l.length
    · have hcell := HCC.out k hlt
      have hc := HL.out l[k] (List.getElem_mem _)
      have HS := Lib.hid (JG_ n0 l k hlt)
      have k0 : (0 : Int) ≤ (k : Int) := Int.natCast_nonneg _
      have k1 : (k : Int) < (l.length : Int) := by omega
      generalize l[k] = c at *
      generalize crcs n0 (l.take k) = n at *
      have hb := Xh_ (n := n) hc
      have hi := Q9 (n := n) hc
      have HS2 := Lib.hid (HS.out.trans (show Kw n c = crcT (n % 256 ^^^ c) ^^^ n / 256 from rfl))
      generalize (n % 256 ^^^ c) = x at *
      have hcx := HT.out x hi
      have x0 : (0 : Int) ≤ (x : Int) := Int.natCast_nonneg _
      have x1 : (x : Int) < 256 := by omega
      have hv := DV_ hi
      generalize crcT x = y at *
      have HV := Lib.hid (show bits .xor .u32 (y : Int) ((n : Int) / 256) = ((y ^^^ n / 256 : Nat) : Int) by
        have e : (n : Int) / 256 = ((n / 256 : Nat) : Int) := by simp
        rw [e, u32_xor_nat _ _ hv (by omega)])
      go_wp2
      go_round
      case rel => exact ⟨k + 1, by omega, by go_num, by rw [HV.out, ← HS2.out]⟩
      case measure => simp [intOf]; omega
    · have hkl : k = l.length := by omega
      have hfin : crcs n0 l < 4294967296 := by
        have := HX.out l.length
        rwa [List.take_length] at this
      have HE := Lib.hid (show l.take k = l by rw [hkl, List.take_length])
      rw [HE.out] at *
      go_wp2
      go_ret
      exact ⟨To (by rw [Ji hfin, HN.out]), HB2.out⟩
set_option maxRecDepth 1000000 in
set_option maxHeartbeats 1600000 in
theorem UI_ (sum : Nat) (hs : sum < 4294967296) (p : Option Addr) (cap : Nat) (w : World) :
    Calls Tryz.prog 83 #[.int .u32 sum, .slice p 0 cap] w fun e w' => e = .returned (.int .u32 (CX sum [] : Nat)) ∧ Below w.heap.size w w' := by
  go_enter Tryz.func83, Tryz.ntmps83
  go_wp2_with fail
  refine (BI_ _).mono ?_
  rintro e w1 ⟨rfl, hb1⟩
  have HB := Lib.hid hb1
  clear hb1
  go_wp2_with (with_reducible refine YU (o := ⟨none, .store _ (.tmp 5) (.tmp 9), _, _, _, _⟩) rfl 159 (.tmp 5) (.tmp 9) rfl w1.heap.size arrT rfl rfl _ _ (heap_alloc_new _ _) CB_ (by kernel_rfl) Rs ?_; intro w2 P2)
  have HB2 := Lib.hid (show Below w.heap.size w w2 from (HB.out.alloc (by have := HB.out.size; omega) _).trans (P2.bel _ HB.out.size))
  clear P2
  rw [Ji hs]
  have hn0 : 4294967295 ^^^ sum < 4294967296 := Sha.xor_lt (by decide) hs
  have HN := Lib.hid (show CX sum [] = 4294967295 ^^^ (4294967295 ^^^ sum) from rfl)
  generalize (4294967295 ^^^ sum) = n0 at *
  go_loop [6, 14] (fun a i => i = .int .i64 0 ∧ a = .int .u32 (n0 : Nat)) (fun _ _ => 0)
  case atStart => exact ⟨rfl, rfl⟩
  case round =>
    obtain ⟨rfl, rfl⟩ := hrel
    go_wp2
    go_ret
    exact ⟨To (by rw [Ji hn0, HN.out]), HB2.out⟩
end Go.Proofs.YtndednnianphoaaGreatDoor
namespace Go.Proofs.YtndednnianphoaaGreatDoor.Am
open Go.RowKit
def u8s : List Value → Option (List Nat)
  | [] => some []
  | v :: l => match v, u8s l with
    | .int .u8 (.ofNat n), some ns => bif Nat.blt n 256 then some (n :: ns) else none
    | _, _ => none
theorem YR : ∀ {l : List Value} {ns : List Nat}, u8s l = some ns → l = ns.map (fun n : Nat => Value.int .u8 n) ∧ ∀ n ∈ ns, n < 256
  | [], ns, h => by cases h; exact ⟨rfl, fun n h => by cases h⟩
  | v :: l, ns, h => by
    unfold u8s at h
    split at h
    · rename_i n ns' h1
      cases hb : Nat.blt n 256 with
      | false => rw [hb] at h; cases h
      | true =>
        rw [hb] at h
        cases h
        obtain ⟨h2, h3⟩ := YR h1
        refine ⟨by rw [h2]; rfl, fun m hm => ?_⟩
        rcases List.mem_cons.1 hm with rfl | hm
        · exact A5 hb
        · exact h3 m hm
    · cases h
section
variable {β : Type}
def Kz (K : Nat → β) (l : List Nat) : Nat → β := List.rec (motive := fun _ => Nat → β) (fun n => K n) (fun c _ ih n => fN (Nat.xor (Nat.mod n 256) c) fun x => fN (crcT x) fun t => fN (Nat.xor t (Nat.div n 256)) fun m => ih m) l
theorem Fx_ (K : Nat → β) : ∀ (l : List Nat) (n : Nat), Kz K l n = K (crcs n l)
  | [], n => rfl
  | c :: l, n => by
    have h0 : Kz K (c :: l) n = fN (Nat.xor (Nat.mod n 256) c) fun x => fN (crcT x) fun t => fN (Nat.xor t (Nat.div n 256)) fun m => Kz K l m := rfl
    rw [h0, Ao, Ao, Ao, Fx_ K l]
    rfl
end
def Ik (sum : Nat) (bs : List Nat) : M Value := fN (Nat.xor 4294967295 sum) fun n => Kz (fun m => fN (Nat.xor 4294967295 m) fun m => M.pure (.int .u32 (.ofNat m))) bs n
def Ds (args : List Value) : M Value :=
  match args with
  | [.int .u32 (.ofNat sum), .slice (some a) n _] => M.chk (Nat.blt sum 4294967296 && Nat.ble n 4611686018427387904) (M.bind (rdL n a) fun l => M.on (u8s l) fun bs => Ik sum bs)
  | _ => aA
theorem Ju (sum : Nat) (bs : List Nat) : Ik sum bs = M.pure (.int .u32 (CX sum bs : Nat)) := by
  unfold Ik
  rw [Ao, Fx_, Ao]
  rfl
theorem Aaj_ (sum : Nat) (bs : List Nat) : Loc (Ik sum bs) := by rw [Ju]; exact Ae _
theorem Sw_ (sum : Nat) (bs : List Nat) : NoPan (Ik sum bs) := by rw [Ju]; exact Aj _
theorem Ze_ (args : List Value) : Loc (Ds args) := by
  unfold Ds
  split
  · exact AI _ (Aa (Fk _ _) fun l => AK _ fun bs => Aaj_ _ _)
  · exact Ag
theorem Tz_ (args : List Value) : NoPan (Ds args) := by
  unfold Ds
  split
  · exact AW _ (Ad (E4 _ _) fun l => A3 _ fun bs => Sw_ _ _)
  · exact Ap
theorem Ou_ : OrcOK Tryz.prog 83 Ds :=
  Qc Tryz.func83 (by kernel_rfl) (by kernel_rfl) Ze_ Tz_ (by
    intro w0 w r args args' s s' v e hr hfr ha
    unfold Ds at e
    split at e
    case h_2 => cases e
    rename_i sum a n c
    obtain ⟨v1, l1, rfl, q1, q2⟩ := ha.inv
    obtain ⟨v2, l2, rfl, q3, q4⟩ := q2.inv
    have := q4.inv_nil
    subst this
    have := q1.int_inv
    subst this
    obtain ⟨hck, e3⟩ := AN e
    rw [Bool.and_eq_true] at hck
    have hn1 := A5 hck.1
    have hn2 := Nat.le_of_ble_eq_true hck.2
    obtain ⟨l, s1, e1, e4⟩ := bind_some e3
    obtain ⟨bs, hbs, e5⟩ := A4 e4
    clear e e3 e4
    obtain ⟨hb1, hb2⟩ := YR hbs
    rw [Ju] at e5
    obtain ⟨rfl, rfl⟩ := Ac e5
    have fin : ∀ (b' o : Nat) (c2 : Nat), bs.length = n → (∀ j, (h : j < bs.length) → w.cell? ⟨b', o + j, none⟩ = some (.int .u8 (bs[j] : Nat))) → Same s s1 → Owed Tryz.prog 83 w0 w r [.int .u32 (.ofNat sum), .slice (some ⟨b', o, none⟩) n c2] s (.int .u32 (CX sum bs : Nat)) s1 := by
      intro b' o c2 hlen hcell g4
      subst hlen
      refine ⟨_, UK_ sum hn1 b' o c2 bs hb2 hn2 w hcell, ?_⟩
      rintro e w' ⟨rfl, hbl⟩
      exact ⟨_, r, rfl, .of_plain (by rfl), .of_rel g4.2.1 (by rw [g4.1]; exact hr.beyond hbl), g4.2.2.1, g4.2.2.2⟩
    rcases q3.sl_inv with ⟨a2, c2, rfl, ha2, hc, _⟩ | ⟨rfl, _, _, a2, c2, rfl⟩
    · obtain ⟨l', g1, g2, g3, g4⟩ := Dz _ e1 hr ha2
      have hl : l' = bs.map (fun n : Nat => Value.int .u8 (n : Int)) := by
        rw [← hb1]
        refine Ib g3 ?_
        rw [List.all_eq_true, hb1]
        intro v hv
        obtain ⟨n, _, rfl⟩ := List.mem_map.1 hv
        rfl
      subst hl
      have hblen : bs.length = n := by simpa using g1
      obtain ⟨b, o, b', d, rfl, rfl, hbk⟩ := ha2
      refine fin b' (o + d) c2 hblen (fun j hj => ?_) g4
      have h1 := g2 j (.int .u8 (bs[j] : Nat)) (by rw [List.getElem?_map, List.getElem?_eq_getElem hj]; rfl)
      rw [DP] at h1
      exact h1
    · obtain ⟨rfl, rfl⟩ := Ac (show M.pure [] s = .some l s1 from e1)
      have hbs0 : bs = [] := by
        have := congrArg List.length hb1
        simpa using this.symm
      subst hbs0
      refine ⟨_, UI_ sum hn1 (some a2) c2 w, ?_⟩
      rintro e w' ⟨rfl, hbl⟩
      exact ⟨_, r, rfl, .of_plain (by rfl), .of_rel rfl (hr.beyond hbl), rfl, rfl⟩)
theorem VRs.of_plain {r : Inj} : ∀ {l : List Value}, l.all plain = true → VRs r l l
  | [], _ => .nil
  | v :: l, h => by
    rw [List.all_cons, Bool.and_eq_true] at h
    exact .cons (.of_plain h.1) (VRs.of_plain h.2)
theorem LB_ {E : Env} (he : EnvOK E) {fuel f : Nat} {args : List Value} {v : Value} {s' : St} (ho : E.orc.get f = none) (hx : E.ext.get f = none) (ha : args.all plain = true) (h : callF E fuel f args st0 = .some v s') (hp : plain v = true) (w : World) : Calls E.P f args.toArray w fun e w' => e = .returned v ∧ Below w.heap.size w w' := by
  intro cs
  replace h : Ab E (runF E fuel) f args st0 = .some v s' := h
  unfold Ab at h
  rw [ho, hx] at h
  obtain ⟨s2, e1, rfl⟩ := El (o := .inl v) (show within cxN (M.bind (M.bind (BA E f args .normal) (runF E fuel)) fstV) st0 = rOf (.inl v) s' from h)
  obtain ⟨af, s1, o, e2, e3, e4⟩ := Gx (GG _ _ _) e1
  obtain ⟨_, hF, rfl⟩ := Is (r := .nil .no) (base := ([], cs)) (cx := cxN) he e2 (VRs.of_plain ha) (cs := cs) ⟨⟨rfl, rfl⟩, rfl, .nil⟩
  obtain ⟨w', r', k1, k2, cs', k3, k4⟩ := (Jn he fuel).ok e3 hF (Rel.empty w (aY w)) (Nat.le_refl _) (fun _ _ _ => ⟨rfl, rfl⟩)
  cases o with
  | inr c => cases e4
  | inl p =>
    cases e4
    obtain ⟨v', q1, q2, q3⟩ := k4
    obtain ⟨fr', x1, x2, x3⟩ := q3 rfl rfl
    have hcs : cs' = cs := by
      rcases k3 with k3 | ⟨_, _, _, _, _, k, _⟩
      · exact k3.2
      · cases k
    subst hcs
    exact ⟨.returned v', w', fr', ⟨by rw [q1.eq_of_plain hp], k1.rel.below⟩, x3, x1, x2⟩
def pureM (E : Env) (fuel f : Nat) (args : List Value) : M Value :=
  M.chk (args.all plain) (M.on (valR (callF E fuel f args st0)) fun v => M.chk (plain v) (M.pure v))
theorem Abd_ (E : Env) (fuel f : Nat) (args : List Value) : Loc (pureM E fuel f args) := AI _ (AK _ fun _ => AI _ (Ae _))
theorem Kf_ (E : Env) (fuel f : Nat) (args : List Value) : NoPan (pureM E fuel f args) := AW _ (A3 _ fun _ => AW _ (Aj _))
theorem Hc {E : Env} (he : EnvOK E) {fuel f : Nat} (ho : E.orc.get f = none) (hx : E.ext.get f = none) : OrcOK E.P f (pureM E fuel f) where
  loc := Abd_ E fuel f
  ok := by
    intro w0 w r args args' s out s' e hr hb hf ha
    cases out with
    | inr c => exact ((Kf_ E fuel f args).no _ _ _ e).elim
    | inl v =>
      have e : pureM E fuel f args s = .some v s' := e
      unfold pureM at e
      obtain ⟨h1, e⟩ := AN e
      obtain ⟨v1, h2, e⟩ := A4 e
      obtain ⟨h3, e⟩ := AN e
      obtain ⟨rfl, rfl⟩ := Ac e
      obtain ⟨s1, h⟩ := P5 h2
      have ea : args' = args := Ib ha h1
      subst ea
      refine ⟨fun w => Aa_ he ho hx h _ w, fun c cs => ?_⟩
      obtain ⟨e, w', fr, ⟨rfl, hbl⟩, hs, _, hl⟩ := LB_ he ho hx h1 h h3 w (c :: cs)
      exact ⟨w', r, .of_rel rfl (hr.beyond hbl), rfl, rfl, v1, .of_plain h3, hs.trans (.one (step_leave_returned hl))⟩
