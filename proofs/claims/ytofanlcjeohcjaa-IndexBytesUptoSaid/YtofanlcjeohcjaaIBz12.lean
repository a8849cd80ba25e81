import Derived.Test.YtofanlcjeohcjaaIBz10
import Derived.Deep.RegionHeld3
import Derived.Laws.CopyOwn
import Derived.Outline
import Derived.IntWalk
import Derived.Lib.Hide
import Derived.Deep.Heap
import Derived.Deep.Cut
import Derived.RegionTactic
import Derived.ChangeAlike
namespace Go.Proofs.Ytofanlcjeohcjaa
open Go.RowKit
theorem Aev_ {wr : World} {R : Nat} {cs : Array Value} {t : TypeId} (h : wr.heap[R]? = some (.cells cs t (0, 0))) (j : Nat) : wr.cell? ⟨R, j, none⟩ = cs[j]? := by simp [World.cell?, h]
theorem AxZ_ {wr : World} {R : Nat} {cs : Array Value} {t : TypeId} (h : wr.heap[R]? = some (.cells cs t (0, 0))) (j : Nat) : wr.frozen? ⟨R, j, none⟩ = false := by simp [World.frozen?, h]
theorem Ayg_ {wr : World} {R j : Nat} {cs : Array Value} {t : TypeId} {v : Value} (h : wr.heap[R]? = some (.cells cs t (0, 0))) : (wr.setCell ⟨R, j, none⟩ v).heap[R]? = some (.cells (cs.setIfInBounds j v) t (0, 0)) := by
  simp [World.setCell, Array.getElem?_modify, h]
noncomputable def env0 : Am.Env := Am.envOf Try.prog .E .E
theorem Aps_ : Am.EnvOK env0 := Am.envOf_ok Try.prog (by kernel_rfl)
theorem Aya_ {a b : Nat} (ha : a < 4294967296) : a &&& b < 4294967296 := Nat.lt_of_le_of_lt Nat.and_le_left ha
structure Put (w w' : World) (g : Nat) (cs : Array Value) (t : TypeId) : Prop where
  at' : w'.heap[g]? = some (.cells cs t (0, 0))
  oth : ∀ k, k ≠ g → w'.heap[k]? = w.heap[k]?
  size : w'.heap.size = w.heap.size
  bel : ∀ B, B ≤ g → Below B w w'
theorem Rz_ {P : Program} {ops : Array Oper} {rest : List Oper} {o : Oper} {a : Act} {w : World} {Q : Exit → Act → World → Prop} (hgd : o.guard = none) (ty : TypeId) (x y : Operand) (ho : o.op = .store ty x y)
    (g : Nat) (cells : Array Value) (hx : a.eval x = .pointer (some ⟨g, 0, none⟩)) (hy : a.eval y = .agg cells)
    (t : TypeId) (old : Array Value) (hg : w.heap[g]? = some (.cells old t (0, 0))) (hi : (P.info? ty).map (·.size) = some cells.size)
    (hold : old.size = cells.size) (h1 : cells.all (·.oneCell') = true)
    (h : ∀ w', Put w w' g cells t → wpList P ops Q rest (a.put o.dst undef) w') : wpList P ops Q (o :: rest) a w :=
  wpList_store_row hgd ty x y ho g cells hx hy t old hg hi hold h1 (h _ ⟨setRow_heap _ _ _ _ _ _ hg, fun _k hk => setRow_other _ _ _ _ hk, size_setRow _ _ _, fun _B hB => below_setRow (Below.refl _ _) hB _⟩)
theorem Ayi_ {B : Nat} {w w' : World} (h : Below B w w') {k : Nat} (hk : k < B) : w'.heap[k]? = w.heap[k]? := h.block k hk
