/-
  DERIVED: THE SHELF's CONTRACTS AT THIS DUMP, IN PLAIN WORDS (tools/lay-plain.mjs out of 'YtieohifdhplgbaaGreatDoorIter.lean', which tools/lay-shelf.mjs wrote): THE SAME DECLARATIONS UNDER THE SAME NAMES: 'import', 'namespace', 'open', 'def', 'theorem' AND NOTHING ELSE: no command of the shelf's: FOR A HAND-IN. Each laying: the table of numbers ('.._ren') and one theorem, a field a fact of the dump's own or the kernel's comparison; each contract: ONE APPLICATION.
-/
import Derived.Shelf.SlIter.Nil
import Derived.Shelf.SortM.Plain
import Derived.Shelf.SortM.SortNone
import Derived.Ground.GgzProg
import Derived.Ground.SlgmProg
import Derived.Test.YtieohifdhplgbaaGreatDoorProg
namespace Go.Proofs
open Go.Shelf
def Tryz.keys133_ren : Go.Shelf.Ren := ⟨fun | 7 => 133 | 10 => 184 | n => n, fun | 23 => 146 | 26 => 9 | 3 => 198 | 28 => 266 | 0 => 0 | 27 => 265 | 33 => 270 | 4 => 4 | n => n, fun | n => n⟩
theorem Tryz.keys133 : Go.Proofs.SlLaysZ.n7 Tryz.prog Tryz.keys133_ren := {
  mixed := by kernel_rfl
  f7 := ⟨Tryz.f133.name, by decide, Tryz.func133.trans (congrArg some (by kernel_rfl))⟩
  f10 := ⟨Tryz.f184.name, by decide, Tryz.func184.trans (congrArg some (by kernel_rfl))⟩
  t0 := Tryz.underlying0
  a0 := Tryz.isAgg0
  z0 := Tryz.sizeOf0
  v0 := Tryz.zeroValue0
  t4 := Tryz.underlying4
  a4 := Tryz.isAgg4
  z4 := Tryz.sizeOf4
  v4 := Tryz.zeroValue4
  t23 := Tryz.underlying146
  a23 := Tryz.isAgg146
  z23 := Tryz.sizeOf146
  v23 := Tryz.zeroValue146
  t26 := Tryz.underlying9
  a26 := Tryz.isAgg9
  z26 := Tryz.sizeOf9
  v26 := Tryz.zeroValue9
  t27 := Tryz.underlying265
  a27 := Tryz.isAgg265
  z27 := Tryz.sizeOf265
  v27 := Tryz.zeroValue265
  t28 := Tryz.underlying266
  a28 := Tryz.isAgg266
  z28 := Tryz.sizeOf266
  v28 := Tryz.zeroValue266
  t33 := Tryz.underlying270
  a33 := Tryz.isAgg270
  z33 := Tryz.sizeOf270
  v33 := Tryz.zeroValue270 }
def Tryz.sorted132_ren : Go.Shelf.Ren := ⟨fun | 6 => 132 | 8 => 182 | 9 => 183 | 11 => 228 | 13 => 141 | 12 => 229 | 23 => 201 | 24 => 202 | 14 => 255 | 15 => 256 | 16 => 257 | 17 => 258 | 18 => 259 | 19 => 260 | 20 => 261 | 21 => 262 | 22 => 263 | 25 => 276 | 26 => 234 | 27 => 235 | 28 => 277 | 29 => 278 | 30 => 247 | 31 => 285 | n => n, fun | 26 => 9 | 28 => 266 | 24 => 201 | 0 => 0 | 3 => 3 | 37 => 160 | 48 => 158 | 50 => 320 | 4 => 4 | 40 => 313 | 39 => 312 | 45 => 283 | 5 => 5 | 9 => 9 | 51 => 364 | 55 => 107 | 57 => 395 | 58 => 43 | 33 => 270 | n => n, fun | n => n⟩
theorem Tryz.sorted132 : Go.Proofs.SlLaysZ.n6 Tryz.prog Tryz.sorted132_ren := {
  mixed := by kernel_rfl
  f6 := ⟨Tryz.f132.name, by decide, Tryz.func132.trans (congrArg some (by kernel_rfl))⟩
  f8 := ⟨Tryz.f182.name, by decide, Tryz.func182.trans (congrArg some (by kernel_rfl))⟩
  f11 := ⟨Tryz.f228.name, by decide, Tryz.func228.trans (congrArg some (by kernel_rfl))⟩
  t0 := Tryz.underlying0
  a0 := Tryz.isAgg0
  z0 := Tryz.sizeOf0
  v0 := Tryz.zeroValue0
  t24 := Tryz.underlying201
  a24 := Tryz.isAgg201
  z24 := Tryz.sizeOf201
  v24 := Tryz.zeroValue201
  t26 := Tryz.underlying9
  a26 := Tryz.isAgg9
  z26 := Tryz.sizeOf9
  v26 := Tryz.zeroValue9
  t28 := Tryz.underlying266
  a28 := Tryz.isAgg266
  z28 := Tryz.sizeOf266
  v28 := Tryz.zeroValue266
  i26 := by kernel_rfl }
def Tryz.sort183_ren : Go.Shelf.Ren := ⟨fun | 6 => 183 | 8 => 141 | 9 => 229 | 19 => 201 | 20 => 202 | 21 => 255 | 22 => 256 | 23 => 257 | 24 => 258 | 25 => 259 | 26 => 260 | 27 => 261 | 28 => 262 | 29 => 263 | 36 => 276 | 31 => 234 | 32 => 235 | 37 => 277 | 38 => 278 | 39 => 247 | 41 => 285 | n => n, fun | 27 => 201 | 29 => 9 | 3 => 3 | 32 => 160 | 26 => 201 | 0 => 0 | 44 => 158 | 46 => 320 | 4 => 4 | 36 => 313 | 35 => 312 | 41 => 283 | 5 => 5 | 9 => 9 | 53 => 364 | 57 => 107 | 63 => 395 | 64 => 43 | n => n, fun | n => n⟩
theorem Tryz.sort183 : Go.Proofs.SlLaysM.n6 Tryz.prog Tryz.sort183_ren := {
  mixed := by kernel_rfl
  f6 := ⟨Tryz.f183.name, by decide, Tryz.func183.trans (congrArg some (by kernel_rfl))⟩
  f8 := Tryz.func141.trans (congrArg some (by kernel_rfl))
  f9 := ⟨Tryz.f229.name, by decide, Tryz.func229.trans (congrArg some (by kernel_rfl))⟩
  f19 := Tryz.func201.trans (congrArg some (by kernel_rfl))
  f20 := Tryz.func202.trans (congrArg some (by kernel_rfl))
  f21 := ⟨Tryz.f255.name, by decide, Tryz.func255.trans (congrArg some (by kernel_rfl))⟩
  f22 := ⟨Tryz.f256.name, by decide, Tryz.func256.trans (congrArg some (by kernel_rfl))⟩
  f23 := ⟨Tryz.f257.name, by decide, Tryz.func257.trans (congrArg some (by kernel_rfl))⟩
  f24 := ⟨Tryz.f258.name, by decide, Tryz.func258.trans (congrArg some (by kernel_rfl))⟩
  f25 := ⟨Tryz.f259.name, by decide, Tryz.func259.trans (congrArg some (by kernel_rfl))⟩
  f26 := ⟨Tryz.f260.name, by decide, Tryz.func260.trans (congrArg some (by kernel_rfl))⟩
  f27 := ⟨Tryz.f261.name, by decide, Tryz.func261.trans (congrArg some (by kernel_rfl))⟩
  f28 := ⟨Tryz.f262.name, by decide, Tryz.func262.trans (congrArg some (by kernel_rfl))⟩
  f29 := ⟨Tryz.f263.name, by decide, Tryz.func263.trans (congrArg some (by kernel_rfl))⟩
  f31 := Tryz.func234.trans (congrArg some (by kernel_rfl))
  f32 := Tryz.func235.trans (congrArg some (by kernel_rfl))
  f36 := ⟨Tryz.f276.name, by decide, Tryz.func276.trans (congrArg some (by kernel_rfl))⟩
  f37 := ⟨Tryz.f277.name, by decide, Tryz.func277.trans (congrArg some (by kernel_rfl))⟩
  f38 := ⟨Tryz.f278.name, by decide, Tryz.func278.trans (congrArg some (by kernel_rfl))⟩
  f39 := ⟨Tryz.f247.name, by decide, Tryz.func247.trans (congrArg some (by kernel_rfl))⟩
  f41 := ⟨Tryz.f285.name, by decide, Tryz.func285.trans (congrArg some (by kernel_rfl))⟩
  t0 := Tryz.underlying0
  a0 := Tryz.isAgg0
  z0 := Tryz.sizeOf0
  v0 := Tryz.zeroValue0
  t3 := Tryz.underlying3
  a3 := Tryz.isAgg3
  z3 := Tryz.sizeOf3
  v3 := Tryz.zeroValue3
  t4 := Tryz.underlying4
  a4 := Tryz.isAgg4
  z4 := Tryz.sizeOf4
  v4 := Tryz.zeroValue4
  t5 := Tryz.underlying5
  a5 := Tryz.isAgg5
  z5 := Tryz.sizeOf5
  v5 := Tryz.zeroValue5
  t9 := Tryz.underlying9
  a9 := Tryz.isAgg9
  z9 := Tryz.sizeOf9
  v9 := Tryz.zeroValue9
  t26 := Tryz.underlying201
  a26 := Tryz.isAgg201
  z26 := Tryz.sizeOf201
  v26 := Tryz.zeroValue201
  t27 := Tryz.underlying201
  a27 := Tryz.isAgg201
  z27 := Tryz.sizeOf201
  v27 := Tryz.zeroValue201
  t29 := Tryz.underlying9
  a29 := Tryz.isAgg9
  z29 := Tryz.sizeOf9
  v29 := Tryz.zeroValue9
  t32 := Tryz.underlying160
  a32 := Tryz.isAgg160
  z32 := Tryz.sizeOf160
  v32 := Tryz.zeroValue160
  t35 := Tryz.underlying312
  a35 := Tryz.isAgg312
  z35 := Tryz.sizeOf312
  v35 := Tryz.zeroValue312
  t36 := Tryz.underlying313
  a36 := Tryz.isAgg313
  z36 := Tryz.sizeOf313
  v36 := Tryz.zeroValue313
  t41 := Tryz.underlying283
  a41 := Tryz.isAgg283
  z41 := Tryz.sizeOf283
  v41 := Tryz.zeroValue283
  t44 := Tryz.underlying158
  a44 := Tryz.isAgg158
  z44 := Tryz.sizeOf158
  v44 := Tryz.zeroValue158
  t46 := Tryz.underlying320
  a46 := Tryz.isAgg320
  z46 := Tryz.sizeOf320
  v46 := Tryz.zeroValue320
  t53 := Tryz.underlying364
  a53 := Tryz.isAgg364
  z53 := Tryz.sizeOf364
  v53 := Tryz.zeroValue364
  t57 := Tryz.underlying107
  a57 := Tryz.isAgg107
  z57 := Tryz.sizeOf107
  v57 := Tryz.zeroValue107
  t63 := Tryz.underlying395
  a63 := Tryz.isAgg395
  z63 := Tryz.sizeOf395
  v63 := Tryz.zeroValue395
  t64 := Tryz.underlying43
  a64 := Tryz.isAgg43
  z64 := Tryz.sizeOf43
  v64 := Tryz.zeroValue43 }
open Go.RowKit Go.Maps Go.Sort in
/-- slices.Sort's two contracts at this dump, at the fence that asks nothing. -/
theorem Tryz.sorts132 (m : Nat) : AnyZ.SortsIn Tryz.prog Tryz.sorted132_ren Fence.wide m :=
  ⟨fun blk off cap ss W hH hblk hsz => callsIn_wide.2 (AnyM.slices_Sort_string Tryz.sort183 blk off cap ss W hH hblk hsz),
   fun p cap W => callsIn_wide.2 (AnyM.slices_Sort_string_none Tryz.sort183 p cap W)⟩
open Go.RowKit Go.Maps Go.Sort in
/-- **maps.Keys[map[string]*satchel/disk.file,string,*satchel/disk.file], at whatever map, the nil one too:** a function value over ONE NEW BLOCK, which holds the map. -/
theorem Tryz.maps_Keys_133 (mb : Option Nat) (W : World) : CallsIn Fence.wide 5 Tryz.prog 133 #[.map mb] W fun e w' => e = .returned (.func (.func 184) #[] #[.pointer (some ⟨W.heap.size, 0, none⟩)]) ∧ w' = W.alloc (.cells #[.map mb] 146) :=
  AnyZ.keys_in Tryz.keys133 Fence.wide 5 trivial rfl mb W
open Go.RowKit Go.Maps Go.Sort in
/-- **slices.Sorted[string] AT WHAT maps.Keys[map[string]*satchel/disk.file,string,*satchel/disk.file] HANDED BACK FOR A MAP THAT IS NOT nil** ('w': the world AHEAD of maps.Keys' call): A NEW SLICE THAT HOLDS THE MAP's KEYS, SORTED; nil just where it has none; nothing that lay before has turned. -/
theorem Tryz.slices_Sorted_keys_132_133 {H : Type} (b nn : Nat) (D0 : DataW H) (R : Value → Option (DataW H × List MemPlace)) (w : World) (hown : w.ownsMap Tryz.prog 9 R b nn D0) (hmax : Maps.size D0 ≤ maxLen) (hbytes : Maps.size D0 * 16 ≤ 140737488355328) :
    CallsIn Fence.wide 5 Tryz.prog 132 #[.func (.func 184) #[] #[.pointer (some ⟨w.heap.size, 0, none⟩)]] (w.alloc (.cells #[.map (some b)] 146)) fun e w' => ∃ (v : Value) (ss : List (List UInt8)), e = .returned v ∧ ss.Perm (strKeys D0) ∧
      w'.ownsRow (w.alloc (.cells #[.map (some b)] 146)).heap.size 9 1 v ss.length ((ss.mergeSort (fun x y => decide (x ≤ y))).map encStr) ∧ (v = .slice none 0 0 ↔ ss = []) ∧ Below (w.alloc (.cells #[.map (some b)] 146)).heap.size (w.alloc (.cells #[.map (some b)] 146)) w' := by
  have hbl := hown.lt
  have hseq : SeqGives Fence.wide 2 Tryz.prog 184 #[.pointer (some ⟨w.heap.size, 0, none⟩)] encStr (fun ss => ss.Perm (strKeys D0)) (Maps.size D0) (w.alloc (.cells #[.map (some b)] 146)) :=
    AnyZ.keys_gives (ρ := Tryz.keys133_ren) { Tryz.keys133 with } Fence.wide _ trivial rfl (by omega) w.heap.size b nn D0 _ (by simp) (by simp) (by
      obtain ⟨es, clock, hb, Ft, hs, hD⟩ := hown
      exact ⟨es, clock, (Below.heap_alloc _ _ b hbl).trans hb, Ft, hs, hD⟩)
  exact AnyZ.sorted_in Tryz.sorted132 Fence.wide 5 trivial trivial trivial trivial rfl (by omega) (Tryz.sorts132 _) (enters_of Tryz.func183 (by kernel_rfl) rfl) 184 #[.pointer (some ⟨w.heap.size, 0, none⟩)] trivial (enters_of Tryz.func184 (by kernel_rfl) rfl) _ _ hmax hbytes _ hseq
open Go.RowKit Go.Maps Go.Sort in
/-- **.. AND FOR THE nil MAP: nil.** -/
theorem Tryz.slices_Sorted_keys_nil_132_133 (w : World) :
    CallsIn Fence.wide 5 Tryz.prog 132 #[.func (.func 184) #[] #[.pointer (some ⟨w.heap.size, 0, none⟩)]] (w.alloc (.cells #[.map none] 146)) fun e w' => ∃ (v : Value) (ss : List (List UInt8)), e = .returned v ∧ ss = [] ∧
      w'.ownsRow (w.alloc (.cells #[.map none] 146)).heap.size 9 1 v ss.length ((ss.mergeSort (fun x y => decide (x ≤ y))).map encStr) ∧ (v = .slice none 0 0 ↔ ss = []) ∧ Below (w.alloc (.cells #[.map none] 146)).heap.size (w.alloc (.cells #[.map none] 146)) w' := by
  have hseq : SeqGives Fence.wide 2 Tryz.prog 184 #[.pointer (some ⟨w.heap.size, 0, none⟩)] encStr (fun ss : List (List UInt8) => ss = []) 0 (w.alloc (.cells #[.map none] 146)) :=
    AnyZ.keys_gives_nil (ρ := Tryz.keys133_ren) { Tryz.keys133 with } Fence.wide _ trivial rfl w.heap.size _ (by simp) (by simp)
  exact AnyZ.sorted_in Tryz.sorted132 Fence.wide 5 trivial trivial trivial trivial rfl (by omega) (Tryz.sorts132 _) (enters_of Tryz.func183 (by kernel_rfl) rfl) 184 #[.pointer (some ⟨w.heap.size, 0, none⟩)] trivial (enters_of Tryz.func184 (by kernel_rfl) rfl) _ 0 (Nat.zero_le _) (by omega) _ hseq
end Go.Proofs
