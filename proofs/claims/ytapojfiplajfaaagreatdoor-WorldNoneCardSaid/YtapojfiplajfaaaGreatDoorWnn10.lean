/- Disk.Used: the sum over a map, in whatever order. -/
import Derived.Test.YtapojfiplajfaaaGreatDoorWnn09
import Derived.Test.YtapojfiplajfaaaGreatDoorProg
import Derived.WalkKit
import Derived.Laws.IdiomRangeMap
import Derived.Deep.RegionHeld3
namespace Go.Proofs.YtapojfiplajfaaaGreatDoor.Used
open Go.RowKit

/-- Alike, and of one tape. -/
def Kin (w' w : World) : Prop := w'.Alike w ∧ w'.tape = w.tape
theorem Kin.trans {a b c : World} (h : Kin a b) (k : Kin b c) : Kin a c := ⟨⟨h.1.1.trans k.1.1, h.1.2.1.trans k.1.2.1, h.1.2.2.trans k.1.2.2⟩, h.2.trans k.2⟩
/-- What a term leaves: the tape. -/
structure KeepT {α : Type} (P : Program) (s : Sem α) : Prop where
  tape : ∀ w v w', s.run P w = .ok v w' → w'.tape = w.tape
theorem keep_pure {α : Type} {P : Program} (a : α) : KeepT P (pure a : Sem α) := ⟨fun w v w' h => by
  simp only [Sem.run_pure, Result.ok.injEq] at h
  rw [h.2]⟩
theorem keep_bind {α β : Type} {P : Program} {s : Sem α} {f : α → Sem β} (h : KeepT P s) (k : ∀ a, KeepT P (f a)) : KeepT P (s >>= f) := ⟨fun w v w' e => by
  rw [Sem.run_bind] at e
  cases h1 : s.run P w with
  | ok a w1 => rw [h1] at e; exact ((k a).tape w1 v w' e).trans (h.tape w a w1 h1)
  | _ => rw [h1] at e; cases e⟩
theorem keep_getObj {P : Program} (r : Nat) : KeepT P (getObj r) := ⟨fun w v w' e => by
  simp only [getObj, Sem.run] at e
  split at e <;> cases e <;> rfl⟩
theorem keep_setObj {P : Program} (r : Nat) (o : Obj) : KeepT P (setObj r o) := ⟨fun w v w' e => by
  simp only [setObj, Sem.run] at e
  split at e <;> cases e <;> rfl⟩
theorem keep_choose {P : Program} (q : Question) : KeepT P (choose q) := ⟨fun w v w' e => by
  simp only [choose, Sem.run] at e
  split at e <;> cases e <;> rfl⟩
theorem keep_stuck {α : Type} {P : Program} (m : String) : KeepT P (stuck m : Sem α) := ⟨fun w v w' e => by cases e⟩
theorem keep_unsupported {α : Type} {P : Program} (u : Unsupported) : KeepT P (unsupported u : Sem α) := ⟨fun w v w' e => by cases e⟩
theorem next_tape {P : Program} (it : Value) (b : Bool) (ty : TypeId) : KeepT P (Instr.next it b ty) := by
  unfold Instr.next
  repeat' (first | exact keep_pure _ | exact keep_getObj _ | exact keep_setObj _ _ | exact keep_choose _ | exact keep_stuck _ | exact keep_unsupported _ | apply keep_bind | intro _ | split)

set_option maxRecDepth 1000000 in
theorem none_walk (b o : Nat) (w : World) (h0 : w.cell? ⟨b, o, none⟩ = some (.bool true)) :
    Calls Tryz.prog 67 #[.pointer (some ⟨b, o, none⟩)] w fun e w' => e = .returned (.bool false) ∧ w' = w := by
  go_enter Tryz.func67, Tryz.ntmps67
  go_wp2
  go_ret
  exact ⟨rfl, rfl⟩

set_option maxRecDepth 1000000 in
theorem len_walk (b o : Nat) (sa sb : Option Addr) (la ca lb cb : Nat) (w : World) (h0 : w.cell? ⟨b, o, none⟩ = some (.slice sa la ca)) (h1 : w.cell? ⟨b, o + 1, none⟩ = some (.slice sb lb cb)) :
    Calls Tryz.prog 96 #[.pointer (some ⟨b, o, none⟩)] w fun e w' => e = .returned (.int .i64 (IntKind.i64.wrap (la + lb))) ∧ Kin w' w := by
  go_enter Tryz.func96, Tryz.ntmps96
  go_wp2
  go_region_held3 (fun w' => w'.Alike w ∧ w'.cell? ⟨b, o, none⟩ = some (.slice sa la ca) ∧ w'.cell? ⟨b, o + 1, none⟩ = some (.slice sb lb cb)) (first | exact ⟨⟨rfl, rfl, rfl⟩, h0, h1⟩ | go_keep) (fail)
  go_wp2
  go_ret
  exact ⟨rfl, ⟨rfl, rfl, rfl⟩, rfl⟩

/-- How many bytes a file has: the lengths of the two slices in its cells. -/
def lenCell (c : Option Value) : Int := match c with | some (.slice _ l _) => l | _ => 0
def lenAt (w : World) (v : Value) : Int := match v with | .pointer (some a) => lenCell (w.cell? a) + lenCell (w.cell? (a.add 1)) | _ => 0
def asLen (w : World) (e : MapEntry) : MapEntry := ⟨e.key, .int .i64 (lenAt w e.val), e.born⟩
/-- A file's two cells. -/
def FileAt (w : World) (v : Value) : Prop := ∃ fb fo sa la ca sb lb cb, v = .pointer (some ⟨fb, fo, none⟩) ∧ w.cell? ⟨fb, fo, none⟩ = some (.slice sa la ca) ∧ w.cell? ⟨fb, fo + 1, none⟩ = some (.slice sb lb cb)

theorem unalloc {w w' : World} {o : Obj} (h : Kin w' (w.alloc o)) : ∃ w1 : World, Kin w1 w ∧ w' = w1.alloc o :=
  ⟨{ w' with heap := w.heap }, ⟨⟨rfl, h.1.2.1, h.1.2.2⟩, h.2⟩, by
    have := h.1.1
    cases w'
    simp only [World.alloc] at this ⊢
    rw [this]⟩
theorem wrap_add (x y : Int) : wrap64 (wrap64 x + wrap64 y) = IntKind.i64.wrap (x + y) := by
  have : IntKind.i64.wrap (x + y) = wrap64 (x + y) := by
    rw [IntKind.wrap_i64, wrap64]
  rw [this]
  simp only [wrap64]
  omega
theorem cell_alloc {w w2 : World} {o : Obj} {a : Addr} {v : Value} (h : w2.heap = w.heap) (hc : w.cell? a = some v) : (w2.alloc o).cell? a = some v := by
  have h2 : w2.cell? a = some v := by rw [← hc]; unfold World.cell?; rw [h]
  rw [World.cell?_alloc_some _ _ _ (by rw [h2]; rfl)]
  exact h2
theorem sum_all (w : World) (es : Array MapEntry) (seen : Array Nat) (h : (leftOf es seen).size = 0) : seenSum (es.toList.map (asLen w)) seen = (es.toList.map fun e => lenAt w e.val).sum := by
  have h1 := all_seen es seen h
  rw [seenSum_full seen _ (fun x hx => by
    obtain ⟨y, hy, rfl⟩ := List.mem_map.1 hx
    exact h1 y hy)]
  rw [List.map_map]
  rfl
theorem sum_push (w : World) (es : Array MapEntry) (seen : Array Nat) (e : MapEntry) (hs : seen.contains e.born = false) (hn : (es.toList.map (·.born)).Nodup) (he : e ∈ es.toList) :
    seenSum (es.toList.map (asLen w)) (seen.push e.born) = seenSum (es.toList.map (asLen w)) seen + lenAt w e.val := by
  have := seenSum_push seen (asLen w e) hs (es.toList.map (asLen w)) (by rw [List.map_map]; exact hn) (List.mem_map_of_mem he)
  exact this

set_option maxRecDepth 1000000 in
theorem used_walk (b o m : Nat) (es : Array MapEntry) (clock : Nat) (w : World) (h0 : w.cell? ⟨b, o, none⟩ = some (.bool true)) (h1 : w.cell? ⟨b, o + 1, none⟩ = some (.map (some m)))
    (hb : w.heap[m]? = some (.map es clock)) (hst : (∀ x ∈ es.toList, x.born < clock) ∧ (es.toList.map (·.born)).Nodup) (hv : ∀ x ∈ es.toList, FileAt w x.val) :
    Calls Tryz.prog 174 #[.pointer (some ⟨b, o, none⟩)] w fun e w' => e = .returned (.int .i64 (IntKind.i64.wrap ((es.toList.map fun e => lenAt w e.val).sum))) ∧ ∃ (w1 : World) (seen : Array Nat), Kin w1 w ∧ w' = w1.alloc (.mapIter (some m) clock seen clock) := by
  have hrg := run_range_map (P := Tryz.prog) w 104 9 192 m es clock Tryz.underlying104 hb
  go_enter Tryz.func174, Tryz.ntmps174
  go_wp2
  go_loopw [3] (fun s w' => ∃ (w1 : World) (seen : Array Nat), Kin w1 w ∧ w' = w1.alloc (.mapIter (some m) clock seen clock) ∧ s = .int .i64 (IntKind.i64.wrap (seenSum (es.toList.map (asLen w)) seen))) (fun _ w' => (leftOf es (w'.iterSeen w.heap.size)).size)
  case atStart => exact ⟨w, #[], ⟨⟨rfl, rfl, rfl⟩, rfl⟩, rfl, by rw [seenSum_none]; rfl⟩
  case round =>
    obtain ⟨w1, seen, hal, rfl, rfl⟩ := hrel
    have hsz : w1.heap.size = w.heap.size := by rw [hal.1.1]
    have hb1 : w1.heap[m]? = some (.map es clock) := by rw [hal.1.1]; exact hb
    have law := run_next_map (P := Tryz.prog) w1 0 m clock clock seen es clock hb1 hst.1 (Nat.le_refl _)
    rw [hsz] at law
    rcases law with ⟨hz, hrun⟩ | ⟨e, he, w2, hal2, hrun⟩
    · have hnx : ∀ ty, (Instr.next (.pointer (some ⟨w.heap.size, 0, none⟩)) false ty).run Tryz.prog (w1.alloc (.mapIter (some m) clock seen clock)) = _ := fun _ => hrun
      go_wp2
      go_ret
      rw [sum_all w es seen hz]
      exact ⟨rfl, w1, seen, hal, rfl⟩
    · obtain ⟨fb, fo, sa, la, ca, sb, lb, cb, hval, c0, c1⟩ := hv e (mem_left he).1
      have hva := hval
      rw [hval] at hrun
      have ht2 := (next_tape _ _ _).tape _ _ _ hrun
      replace ht2 : w2.tape = w1.tape := ht2
      have hnx : ∀ ty, (Instr.next (.pointer (some ⟨w.heap.size, 0, none⟩)) false ty).run Tryz.prog (w1.alloc (.mapIter (some m) clock seen clock)) = _ := fun _ => hrun
      have hsz2 : w2.heap.size = w.heap.size := by rw [hal2.1, hal.1.1]
      have hb2 : w2.heap[m]? = some (.map es clock) := by rw [hal2.1]; exact hb1
      have hen := run_entry_map (P := Tryz.prog) w2 m clock seen es clock e hb2 (mem_left he).1 hst.2
      rw [hsz2, hval] at hen
      have hlen := len_walk fb fo sa sb la ca lb cb (w2.alloc (.mapIter (some m) clock (seen.push e.born) clock)) (cell_alloc (w := w) (hal2.1.trans hal.1.1) c0) (cell_alloc (w := w) (hal2.1.trans hal.1.1) c1)
      go_wp2_with (go_at_call 96; refine hlen.mono ?_; rintro e3 w3 ⟨rfl, hal3⟩)
      obtain ⟨w4, hal4, rfl⟩ := unalloc hal3
      have hsz4 : w4.heap.size = w.heap.size := by rw [hal4.1.1]; exact hsz2
      go_roundw
      case rel =>
        refine ⟨_, _, _, _, _, _, _, _, _, _, ⟨w4, seen.push e.born, hal4.trans (Kin.trans ⟨hal2, ht2⟩ hal), rfl, ?_⟩, rfl⟩
        rw [sum_push w es seen e (mem_left he).2 hst.2 (mem_left he).1, hva]
        have hl : lenAt w (.pointer (some ⟨fb, fo, none⟩)) = la + lb := by
          show lenCell (w.cell? ⟨fb, fo, none⟩) + lenCell (w.cell? ⟨fb, fo + 1, none⟩) = _
          rw [c0, c1]
          rfl
        rw [hl, wrap_add]
      case measure =>
        rw [← hsz4, World.iterSeen_alloc, hsz4, ← hsz, World.iterSeen_alloc]
        exact left_shrinks es seen e he
end Go.Proofs.YtapojfiplajfaaaGreatDoor.Used
