/-
  DERIVED: THE SHELF's CONTRACTS AT THIS DUMP, IN PLAIN WORDS (tools/lay-plain.mjs out of 'YtapgikfhjhebjaaGreatDoorIter.lean', which tools/lay-shelf.mjs wrote): THE SAME DECLARATIONS UNDER THE SAME NAMES: 'import', 'namespace', 'open', 'def', 'theorem' AND NOTHING ELSE: no command of the shelf's: FOR A HAND-IN. Each laying: the table of numbers ('.._ren') and one theorem, a field a fact of the dump's own or the kernel's comparison; each contract: ONE APPLICATION.
-/
import Derived.Shelf.SlIter.Nil
import Derived.Shelf.SlIterI.Nil
import Derived.Shelf.SortM.Plain
import Derived.Shelf.SortM.SortNone
import Derived.Ground.GgzProg
import Derived.Ground.SlgmProg
import Derived.Test.YtapgikfhjhebjaaGreatDoorProg
import Derived.Test.YtapgikfhjhebjaaGreatDoorDno10
namespace Go.Proofs
open Go.Shelf
def Tryz.keys154_ren : Go.Shelf.Ren := ⟨fun | 7 => 154 | 10 => 235 | n => n, fun | 23 => 131 | 26 => 9 | 3 => 200 | 28 => 306 | 0 => 0 | 27 => 305 | 33 => 139 | 4 => 4 | n => n, fun | n => n⟩
theorem Tryz.keys154 : Go.Proofs.SlLaysZ.n7 Tryz.prog Tryz.keys154_ren := {
  mixed := by kernel_rfl
  f7 := ⟨Tryz.f154.name, by decide, Tryz.func154.trans (congrArg some (by kernel_rfl))⟩
  f10 := ⟨Tryz.f235.name, by decide, Tryz.func235.trans (congrArg some (by kernel_rfl))⟩
  t0 := Tryz.underlying0
  a0 := Tryz.isAgg0
  z0 := Tryz.sizeOf0
  v0 := Tryz.zeroValue0
  t4 := Tryz.underlying4
  a4 := Tryz.isAgg4
  z4 := Tryz.sizeOf4
  v4 := Tryz.zeroValue4
  t23 := Tryz.underlying131
  a23 := Tryz.isAgg131
  z23 := Tryz.sizeOf131
  v23 := Tryz.zeroValue131
  t26 := Tryz.underlying9
  a26 := Tryz.isAgg9
  z26 := Tryz.sizeOf9
  v26 := Tryz.zeroValue9
  t27 := Tryz.underlying305
  a27 := Tryz.isAgg305
  z27 := Tryz.sizeOf305
  v27 := Tryz.zeroValue305
  t28 := Tryz.underlying306
  a28 := Tryz.isAgg306
  z28 := Tryz.sizeOf306
  v28 := Tryz.zeroValue306
  t33 := Tryz.underlying139
  a33 := Tryz.isAgg139
  z33 := Tryz.sizeOf139
  v33 := Tryz.zeroValue139 }
def Tryz.sorted153_ren : Go.Shelf.Ren := ⟨fun | 6 => 153 | 8 => 233 | 9 => 234 | 11 => 301 | 13 => 150 | 12 => 302 | 23 => 230 | 24 => 231 | 14 => 354 | 15 => 355 | 16 => 356 | 17 => 357 | 18 => 358 | 19 => 359 | 20 => 360 | 21 => 361 | 22 => 362 | 25 => 382 | 26 => 296 | 27 => 297 | 28 => 383 | 29 => 384 | 30 => 258 | 31 => 401 | n => n, fun | 26 => 9 | 28 => 306 | 24 => 205 | 0 => 0 | 3 => 3 | 37 => 301 | 48 => 378 | 50 => 380 | 4 => 4 | 40 => 372 | 39 => 371 | 45 => 219 | 5 => 5 | 9 => 9 | 51 => 426 | 55 => 430 | 57 => 481 | 58 => 482 | 33 => 139 | n => n, fun | n => n⟩
theorem Tryz.sorted153 : Go.Proofs.SlLaysZ.n6 Tryz.prog Tryz.sorted153_ren := {
  mixed := by kernel_rfl
  f6 := ⟨Tryz.f153.name, by decide, Tryz.func153.trans (congrArg some (by kernel_rfl))⟩
  f8 := ⟨Tryz.f233.name, by decide, Tryz.func233.trans (congrArg some (by kernel_rfl))⟩
  f11 := ⟨Tryz.f301.name, by decide, Tryz.func301.trans (congrArg some (by kernel_rfl))⟩
  t0 := Tryz.underlying0
  a0 := Tryz.isAgg0
  z0 := Tryz.sizeOf0
  v0 := Tryz.zeroValue0
  t24 := Tryz.underlying205
  a24 := Tryz.isAgg205
  z24 := Tryz.sizeOf205
  v24 := Tryz.zeroValue205
  t26 := Tryz.underlying9
  a26 := Tryz.isAgg9
  z26 := Tryz.sizeOf9
  v26 := Tryz.zeroValue9
  t28 := Tryz.underlying306
  a28 := Tryz.isAgg306
  z28 := Tryz.sizeOf306
  v28 := Tryz.zeroValue306
  i26 := by kernel_rfl }
def Tryz.sort234_ren : Go.Shelf.Ren := ⟨fun | 6 => 234 | 8 => 150 | 9 => 302 | 19 => 230 | 20 => 231 | 21 => 354 | 22 => 355 | 23 => 356 | 24 => 357 | 25 => 358 | 26 => 359 | 27 => 360 | 28 => 361 | 29 => 362 | 36 => 382 | 31 => 296 | 32 => 297 | 37 => 383 | 38 => 384 | 39 => 258 | 41 => 401 | n => n, fun | 27 => 205 | 29 => 9 | 3 => 3 | 32 => 301 | 26 => 205 | 0 => 0 | 44 => 378 | 46 => 380 | 4 => 4 | 36 => 372 | 35 => 371 | 41 => 219 | 5 => 5 | 9 => 9 | 53 => 426 | 57 => 430 | 63 => 481 | 64 => 482 | n => n, fun | n => n⟩
theorem Tryz.sort234 : Go.Proofs.SlLaysM.n6 Tryz.prog Tryz.sort234_ren := {
  mixed := by kernel_rfl
  f6 := ⟨Tryz.f234.name, by decide, Tryz.func234.trans (congrArg some (by kernel_rfl))⟩
  f8 := Tryz.func150.trans (congrArg some (by kernel_rfl))
  f9 := ⟨Tryz.f302.name, by decide, Tryz.func302.trans (congrArg some (by kernel_rfl))⟩
  f19 := Tryz.func230.trans (congrArg some (by kernel_rfl))
  f20 := Tryz.func231.trans (congrArg some (by kernel_rfl))
  f21 := ⟨Tryz.f354.name, by decide, Tryz.func354.trans (congrArg some (by kernel_rfl))⟩
  f22 := ⟨Tryz.f355.name, by decide, Tryz.func355.trans (congrArg some (by kernel_rfl))⟩
  f23 := ⟨Tryz.f356.name, by decide, Tryz.func356.trans (congrArg some (by kernel_rfl))⟩
  f24 := ⟨Tryz.f357.name, by decide, Tryz.func357.trans (congrArg some (by kernel_rfl))⟩
  f25 := ⟨Tryz.f358.name, by decide, Tryz.func358.trans (congrArg some (by kernel_rfl))⟩
  f26 := ⟨Tryz.f359.name, by decide, Tryz.func359.trans (congrArg some (by kernel_rfl))⟩
  f27 := ⟨Tryz.f360.name, by decide, Tryz.func360.trans (congrArg some (by kernel_rfl))⟩
  f28 := ⟨Tryz.f361.name, by decide, Tryz.func361.trans (congrArg some (by kernel_rfl))⟩
  f29 := ⟨Tryz.f362.name, by decide, Tryz.func362.trans (congrArg some (by kernel_rfl))⟩
  f31 := Tryz.func296.trans (congrArg some (by kernel_rfl))
  f32 := Tryz.func297.trans (congrArg some (by kernel_rfl))
  f36 := ⟨Tryz.f382.name, by decide, Tryz.func382.trans (congrArg some (by kernel_rfl))⟩
  f37 := ⟨Tryz.f383.name, by decide, Tryz.func383.trans (congrArg some (by kernel_rfl))⟩
  f38 := ⟨Tryz.f384.name, by decide, Tryz.func384.trans (congrArg some (by kernel_rfl))⟩
  f39 := ⟨Tryz.f258.name, by decide, Tryz.func258.trans (congrArg some (by kernel_rfl))⟩
  f41 := ⟨Tryz.f401.name, by decide, Tryz.func401.trans (congrArg some (by kernel_rfl))⟩
  t0 := Tryz.underlying0
  a0 := Tryz.isAgg0
  z0 := Tryz.sizeOf0
  v0 := Tryz.zeroValue0
  t3 := Tryz.underlying3
  a3 := Tryz.isAgg3
  z3 := Tryz.sizeOf3
  v3 := Tryz.zeroValue3
  t4 := Tryz.underlying4
  a4 := Tryz.isAgg4
  z4 := Tryz.sizeOf4
  v4 := Tryz.zeroValue4
  t5 := Tryz.underlying5
  a5 := Tryz.isAgg5
  z5 := Tryz.sizeOf5
  v5 := Tryz.zeroValue5
  t9 := Tryz.underlying9
  a9 := Tryz.isAgg9
  z9 := Tryz.sizeOf9
  v9 := Tryz.zeroValue9
  t26 := Tryz.underlying205
  a26 := Tryz.isAgg205
  z26 := Tryz.sizeOf205
  v26 := Tryz.zeroValue205
  t27 := Tryz.underlying205
  a27 := Tryz.isAgg205
  z27 := Tryz.sizeOf205
  v27 := Tryz.zeroValue205
  t29 := Tryz.underlying9
  a29 := Tryz.isAgg9
  z29 := Tryz.sizeOf9
  v29 := Tryz.zeroValue9
  t32 := Tryz.underlying301
  a32 := Tryz.isAgg301
  z32 := Tryz.sizeOf301
  v32 := Tryz.zeroValue301
  t35 := Tryz.underlying371
  a35 := Tryz.isAgg371
  z35 := Tryz.sizeOf371
  v35 := Tryz.zeroValue371
  t36 := Tryz.underlying372
  a36 := Tryz.isAgg372
  z36 := Tryz.sizeOf372
  v36 := Tryz.zeroValue372
  t41 := Tryz.underlying219
  a41 := Tryz.isAgg219
  z41 := Tryz.sizeOf219
  v41 := Tryz.zeroValue219
  t44 := Tryz.underlying378
  a44 := Tryz.isAgg378
  z44 := Tryz.sizeOf378
  v44 := Tryz.zeroValue378
  t46 := Tryz.underlying380
  a46 := Tryz.isAgg380
  z46 := Tryz.sizeOf380
  v46 := Tryz.zeroValue380
  t53 := Tryz.underlying426
  a53 := Tryz.isAgg426
  z53 := Tryz.sizeOf426
  v53 := Tryz.zeroValue426
  t57 := Tryz.underlying430
  a57 := Tryz.isAgg430
  z57 := Tryz.sizeOf430
  v57 := Tryz.zeroValue430
  t63 := Tryz.underlying481
  a63 := Tryz.isAgg481
  z63 := Tryz.sizeOf481
  v63 := Tryz.zeroValue481
  t64 := Tryz.underlying482
  a64 := Tryz.isAgg482
  z64 := Tryz.sizeOf482
  v64 := Tryz.zeroValue482 }
open Go.RowKit Go.Maps Go.Sort in
/-- slices.Sort's two contracts at this dump, at the fence that asks nothing. -/
theorem Tryz.sorts153 (m : Nat) : AnyZ.SortsIn Tryz.prog Tryz.sorted153_ren Fence.wide m :=
  ⟨fun blk off cap ss W hH hblk hsz => callsIn_wide.2 (AnyM.slices_Sort_string Tryz.sort234 blk off cap ss W hH hblk hsz),
   fun p cap W => callsIn_wide.2 (AnyM.slices_Sort_string_none Tryz.sort234 p cap W)⟩
open Go.RowKit Go.Maps Go.Sort in
/-- **maps.Keys[map[string]*satchel/disk.file,string,*satchel/disk.file], at whatever map, the nil one too:** a function value over ONE NEW BLOCK, which holds the map. -/
theorem Tryz.maps_Keys_154 (mb : Option Nat) (W : World) : CallsIn Fence.wide 5 Tryz.prog 154 #[.map mb] W fun e w' => e = .returned (.func (.func 235) #[] #[.pointer (some ⟨W.heap.size, 0, none⟩)]) ∧ w' = W.alloc (.cells #[.map mb] 131) :=
  AnyZ.keys_in Tryz.keys154 Fence.wide 5 trivial rfl mb W
open Go.RowKit Go.Maps Go.Sort in
/-- **slices.Sorted[string] AT WHAT maps.Keys[map[string]*satchel/disk.file,string,*satchel/disk.file] HANDED BACK FOR A MAP THAT IS NOT nil** ('w': the world AHEAD of maps.Keys' call): A NEW SLICE THAT HOLDS THE MAP's KEYS, SORTED; nil just where it has none; nothing that lay before has turned. -/
theorem Tryz.slices_Sorted_keys_153_154 {H : Type} (b nn : Nat) (D0 : DataW H) (R : Value → Option (DataW H × List MemPlace)) (w : World) (hown : w.ownsMap Tryz.prog 9 R b nn D0) (hmax : Maps.size D0 ≤ maxLen) (hbytes : Maps.size D0 * 16 ≤ 140737488355328) :
    CallsIn Fence.wide 5 Tryz.prog 153 #[.func (.func 235) #[] #[.pointer (some ⟨w.heap.size, 0, none⟩)]] (w.alloc (.cells #[.map (some b)] 131)) fun e w' => ∃ (v : Value) (ss : List (List UInt8)), e = .returned v ∧ ss.Perm (strKeys D0) ∧
      w'.ownsRow (w.alloc (.cells #[.map (some b)] 131)).heap.size 9 1 v ss.length ((ss.mergeSort (fun x y => decide (x ≤ y))).map encStr) ∧ (v = .slice none 0 0 ↔ ss = []) ∧ Below (w.alloc (.cells #[.map (some b)] 131)).heap.size (w.alloc (.cells #[.map (some b)] 131)) w' := by
  have hbl := hown.lt
  have hseq : SeqGives Fence.wide 2 Tryz.prog 235 #[.pointer (some ⟨w.heap.size, 0, none⟩)] encStr (fun ss => ss.Perm (strKeys D0)) (Maps.size D0) (w.alloc (.cells #[.map (some b)] 131)) :=
    AnyZ.keys_gives (ρ := Tryz.keys154_ren) { Tryz.keys154 with } Fence.wide _ trivial rfl (by omega) w.heap.size b nn D0 _ (by simp) (by simp) (by
      obtain ⟨es, clock, hb, Ft, hs, hD⟩ := hown
      exact ⟨es, clock, (Below.heap_alloc _ _ b hbl).trans hb, Ft, hs, hD⟩)
  exact AnyZ.sorted_in Tryz.sorted153 Fence.wide 5 trivial trivial trivial trivial rfl (by omega) (Tryz.sorts153 _) (enters_of Tryz.func234 (by kernel_rfl) rfl) 235 #[.pointer (some ⟨w.heap.size, 0, none⟩)] trivial (enters_of Tryz.func235 (by kernel_rfl) rfl) _ _ hmax hbytes _ hseq
open Go.RowKit Go.Maps Go.Sort in
/-- **.. AND FOR THE nil MAP: nil.** -/
theorem Tryz.slices_Sorted_keys_nil_153_154 (w : World) :
    CallsIn Fence.wide 5 Tryz.prog 153 #[.func (.func 235) #[] #[.pointer (some ⟨w.heap.size, 0, none⟩)]] (w.alloc (.cells #[.map none] 131)) fun e w' => ∃ (v : Value) (ss : List (List UInt8)), e = .returned v ∧ ss = [] ∧
      w'.ownsRow (w.alloc (.cells #[.map none] 131)).heap.size 9 1 v ss.length ((ss.mergeSort (fun x y => decide (x ≤ y))).map encStr) ∧ (v = .slice none 0 0 ↔ ss = []) ∧ Below (w.alloc (.cells #[.map none] 131)).heap.size (w.alloc (.cells #[.map none] 131)) w' := by
  have hseq : SeqGives Fence.wide 2 Tryz.prog 235 #[.pointer (some ⟨w.heap.size, 0, none⟩)] encStr (fun ss : List (List UInt8) => ss = []) 0 (w.alloc (.cells #[.map none] 131)) :=
    AnyZ.keys_gives_nil (ρ := Tryz.keys154_ren) { Tryz.keys154 with } Fence.wide _ trivial rfl w.heap.size _ (by simp) (by simp)
  exact AnyZ.sorted_in Tryz.sorted153 Fence.wide 5 trivial trivial trivial trivial rfl (by omega) (Tryz.sorts153 _) (enters_of Tryz.func234 (by kernel_rfl) rfl) 235 #[.pointer (some ⟨w.heap.size, 0, none⟩)] trivial (enters_of Tryz.func235 (by kernel_rfl) rfl) _ 0 (Nat.zero_le _) (by omega) _ hseq
def Tryz.sorted36_ren : Go.Shelf.Ren := ⟨fun | 6 => 36 | 8 => 79 | 9 => 80 | 11 => 148 | 13 => 150 | 12 => 149 | 23 => 230 | 24 => 231 | 14 => 221 | 15 => 222 | 16 => 223 | 17 => 224 | 18 => 225 | 19 => 226 | 20 => 227 | 21 => 228 | 22 => 229 | 25 => 295 | 26 => 296 | 27 => 297 | 28 => 298 | 29 => 299 | 30 => 300 | 31 => 353 | n => n, fun | 26 => 3 | 28 => 105 | 24 => 23 | 0 => 0 | 3 => 3 | 37 => 301 | 48 => 378 | 50 => 380 | 4 => 4 | 40 => 372 | 39 => 371 | 45 => 219 | 5 => 5 | 9 => 9 | 51 => 426 | 55 => 430 | 57 => 481 | 58 => 482 | 33 => 177 | n => n, fun | n => n⟩
theorem Tryz.sorted36 : Go.Proofs.SlLaysZI.n6 Tryz.prog Tryz.sorted36_ren := {
  mixed := by kernel_rfl
  f6 := ⟨Tryz.f36.name, by decide, Tryz.func36.trans (congrArg some (by kernel_rfl))⟩
  f8 := ⟨Tryz.f79.name, by decide, Tryz.func79.trans (congrArg some (by kernel_rfl))⟩
  f11 := ⟨Tryz.f148.name, by decide, Tryz.func148.trans (congrArg some (by kernel_rfl))⟩
  t0 := Tryz.underlying0
  a0 := Tryz.isAgg0
  z0 := Tryz.sizeOf0
  v0 := Tryz.zeroValue0
  t24 := Tryz.underlying23
  a24 := Tryz.isAgg23
  z24 := Tryz.sizeOf23
  v24 := Tryz.zeroValue23
  t26 := Tryz.underlying3
  a26 := Tryz.isAgg3
  z26 := Tryz.sizeOf3
  v26 := Tryz.zeroValue3
  t28 := Tryz.underlying105
  a28 := Tryz.isAgg105
  z28 := Tryz.sizeOf105
  v28 := Tryz.zeroValue105
  i26 := by kernel_rfl }
def Tryz.sort80_ren : Go.Shelf.Ren := ⟨fun | 5 => 80 | 8 => 150 | 7 => 149 | 19 => 230 | 20 => 231 | 10 => 221 | 11 => 222 | 12 => 223 | 13 => 224 | 14 => 225 | 15 => 226 | 16 => 227 | 17 => 228 | 18 => 229 | 30 => 295 | 31 => 296 | 32 => 297 | 33 => 298 | 34 => 299 | 35 => 300 | 40 => 353 | n => n, fun | 23 => 23 | 25 => 3 | 3 => 3 | 32 => 301 | 22 => 23 | 0 => 0 | 44 => 378 | 46 => 380 | 4 => 4 | 36 => 372 | 35 => 371 | 41 => 219 | 5 => 5 | 9 => 9 | 53 => 426 | 57 => 430 | 63 => 481 | 64 => 482 | n => n, fun | n => n⟩
theorem Tryz.sort80 : Go.Proofs.SlLaysM.n5 Tryz.prog Tryz.sort80_ren := {
  mixed := by kernel_rfl
  f5 := ⟨Tryz.f80.name, by decide, Tryz.func80.trans (congrArg some (by kernel_rfl))⟩
  f7 := ⟨Tryz.f149.name, by decide, Tryz.func149.trans (congrArg some (by kernel_rfl))⟩
  f8 := Tryz.func150.trans (congrArg some (by kernel_rfl))
  f10 := ⟨Tryz.f221.name, by decide, Tryz.func221.trans (congrArg some (by kernel_rfl))⟩
  f11 := ⟨Tryz.f222.name, by decide, Tryz.func222.trans (congrArg some (by kernel_rfl))⟩
  f12 := ⟨Tryz.f223.name, by decide, Tryz.func223.trans (congrArg some (by kernel_rfl))⟩
  f13 := ⟨Tryz.f224.name, by decide, Tryz.func224.trans (congrArg some (by kernel_rfl))⟩
  f14 := ⟨Tryz.f225.name, by decide, Tryz.func225.trans (congrArg some (by kernel_rfl))⟩
  f15 := ⟨Tryz.f226.name, by decide, Tryz.func226.trans (congrArg some (by kernel_rfl))⟩
  f16 := ⟨Tryz.f227.name, by decide, Tryz.func227.trans (congrArg some (by kernel_rfl))⟩
  f17 := ⟨Tryz.f228.name, by decide, Tryz.func228.trans (congrArg some (by kernel_rfl))⟩
  f18 := ⟨Tryz.f229.name, by decide, Tryz.func229.trans (congrArg some (by kernel_rfl))⟩
  f19 := Tryz.func230.trans (congrArg some (by kernel_rfl))
  f20 := Tryz.func231.trans (congrArg some (by kernel_rfl))
  f30 := ⟨Tryz.f295.name, by decide, Tryz.func295.trans (congrArg some (by kernel_rfl))⟩
  f31 := Tryz.func296.trans (congrArg some (by kernel_rfl))
  f32 := Tryz.func297.trans (congrArg some (by kernel_rfl))
  f33 := ⟨Tryz.f298.name, by decide, Tryz.func298.trans (congrArg some (by kernel_rfl))⟩
  f34 := ⟨Tryz.f299.name, by decide, Tryz.func299.trans (congrArg some (by kernel_rfl))⟩
  f35 := ⟨Tryz.f300.name, by decide, Tryz.func300.trans (congrArg some (by kernel_rfl))⟩
  f40 := ⟨Tryz.f353.name, by decide, Tryz.func353.trans (congrArg some (by kernel_rfl))⟩
  t0 := Tryz.underlying0
  a0 := Tryz.isAgg0
  z0 := Tryz.sizeOf0
  v0 := Tryz.zeroValue0
  t3 := Tryz.underlying3
  a3 := Tryz.isAgg3
  z3 := Tryz.sizeOf3
  v3 := Tryz.zeroValue3
  t4 := Tryz.underlying4
  a4 := Tryz.isAgg4
  z4 := Tryz.sizeOf4
  v4 := Tryz.zeroValue4
  t5 := Tryz.underlying5
  a5 := Tryz.isAgg5
  z5 := Tryz.sizeOf5
  v5 := Tryz.zeroValue5
  t9 := Tryz.underlying9
  a9 := Tryz.isAgg9
  z9 := Tryz.sizeOf9
  v9 := Tryz.zeroValue9
  t22 := Tryz.underlying23
  a22 := Tryz.isAgg23
  z22 := Tryz.sizeOf23
  v22 := Tryz.zeroValue23
  t23 := Tryz.underlying23
  a23 := Tryz.isAgg23
  z23 := Tryz.sizeOf23
  v23 := Tryz.zeroValue23
  t25 := Tryz.underlying3
  a25 := Tryz.isAgg3
  z25 := Tryz.sizeOf3
  v25 := Tryz.zeroValue3
  t32 := Tryz.underlying301
  a32 := Tryz.isAgg301
  z32 := Tryz.sizeOf301
  v32 := Tryz.zeroValue301
  t35 := Tryz.underlying371
  a35 := Tryz.isAgg371
  z35 := Tryz.sizeOf371
  v35 := Tryz.zeroValue371
  t36 := Tryz.underlying372
  a36 := Tryz.isAgg372
  z36 := Tryz.sizeOf372
  v36 := Tryz.zeroValue372
  t41 := Tryz.underlying219
  a41 := Tryz.isAgg219
  z41 := Tryz.sizeOf219
  v41 := Tryz.zeroValue219
  t44 := Tryz.underlying378
  a44 := Tryz.isAgg378
  z44 := Tryz.sizeOf378
  v44 := Tryz.zeroValue378
  t46 := Tryz.underlying380
  a46 := Tryz.isAgg380
  z46 := Tryz.sizeOf380
  v46 := Tryz.zeroValue380
  t53 := Tryz.underlying426
  a53 := Tryz.isAgg426
  z53 := Tryz.sizeOf426
  v53 := Tryz.zeroValue426
  t57 := Tryz.underlying430
  a57 := Tryz.isAgg430
  z57 := Tryz.sizeOf430
  v57 := Tryz.zeroValue430
  t63 := Tryz.underlying481
  a63 := Tryz.isAgg481
  z63 := Tryz.sizeOf481
  v63 := Tryz.zeroValue481
  t64 := Tryz.underlying482
  a64 := Tryz.isAgg482
  z64 := Tryz.sizeOf482
  v64 := Tryz.zeroValue482 }
open Go.RowKit Go.Maps Go.Sort in
/-- slices.Sort's two contracts at this dump, at the fence that asks nothing. -/
theorem Tryz.sorts36 (m : Nat) : AnyZI.SortsIn Tryz.prog Tryz.sorted36_ren Fence.wide m :=
  ⟨fun blk off cap ss W hH hblk hsz => callsIn_wide.2 (AnyM.slices_Sort_int Tryz.sort80 blk off cap ss W hH hblk hsz),
   fun p cap W => callsIn_wide.2 (AnyM.slices_Sort_int_none Tryz.sort80 p cap W)⟩
def Tryz.keys37_ren : Go.Shelf.Ren := ⟨fun | 7 => 37 | 10 => 81 | n => n, fun | 23 => 39 | 26 => 3 | 3 => 72 | 28 => 105 | 0 => 0 | 27 => 104 | 33 => 177 | 4 => 4 | n => n, fun | n => n⟩
theorem Tryz.keys37 : Go.Proofs.SlLaysZI.n7 Tryz.prog Tryz.keys37_ren := {
  mixed := by kernel_rfl
  f7 := ⟨Tryz.f37.name, by decide, Tryz.func37.trans (congrArg some (by kernel_rfl))⟩
  f10 := ⟨Tryz.f81.name, by decide, Tryz.func81.trans (congrArg some (by kernel_rfl))⟩
  t0 := Tryz.underlying0
  a0 := Tryz.isAgg0
  z0 := Tryz.sizeOf0
  v0 := Tryz.zeroValue0
  t4 := Tryz.underlying4
  a4 := Tryz.isAgg4
  z4 := Tryz.sizeOf4
  v4 := Tryz.zeroValue4
  t23 := Tryz.underlying39
  a23 := Tryz.isAgg39
  z23 := Tryz.sizeOf39
  v23 := Tryz.zeroValue39
  t26 := Tryz.underlying3
  a26 := Tryz.isAgg3
  z26 := Tryz.sizeOf3
  v26 := Tryz.zeroValue3
  t27 := Tryz.underlying104
  a27 := Tryz.isAgg104
  z27 := Tryz.sizeOf104
  v27 := Tryz.zeroValue104
  t28 := Tryz.underlying105
  a28 := Tryz.isAgg105
  z28 := Tryz.sizeOf105
  v28 := Tryz.zeroValue105
  t33 := Tryz.underlying177
  a33 := Tryz.isAgg177
  z33 := Tryz.sizeOf177
  v33 := Tryz.zeroValue177 }
open Go.RowKit Go.Maps Go.Sort in
/-- maps.Keys, at whatever map: a function value over one new block. -/
theorem Tryz.maps_Keys_37 (mb : Option Nat) (W : World) : CallsIn Fence.wide 5 Tryz.prog 37 #[.map mb] W fun e w' => e = .returned (.func (.func 81) #[] #[.pointer (some ⟨W.heap.size, 0, none⟩)]) ∧ w' = W.alloc (.cells #[.map mb] 39) :=
  AnyZI.keys_in Tryz.keys37 Fence.wide 5 trivial rfl mb W
def Tryz.keys89_ren : Go.Shelf.Ren := ⟨fun | 7 => 89 | 10 => 160 | n => n, fun | 23 => 152 | 26 => 3 | 3 => 132 | 28 => 105 | 0 => 0 | 27 => 104 | 33 => 177 | 4 => 4 | n => n, fun | n => n⟩
theorem Tryz.keys89 : Go.Proofs.SlLaysZI.n7 Tryz.prog Tryz.keys89_ren := {
  mixed := by kernel_rfl
  f7 := ⟨Tryz.f89.name, by decide, Tryz.func89.trans (congrArg some (by kernel_rfl))⟩
  f10 := ⟨Tryz.f160.name, by decide, Tryz.func160.trans (congrArg some (by kernel_rfl))⟩
  t0 := Tryz.underlying0
  a0 := Tryz.isAgg0
  z0 := Tryz.sizeOf0
  v0 := Tryz.zeroValue0
  t4 := Tryz.underlying4
  a4 := Tryz.isAgg4
  z4 := Tryz.sizeOf4
  v4 := Tryz.zeroValue4
  t23 := Tryz.underlying152
  a23 := Tryz.isAgg152
  z23 := Tryz.sizeOf152
  v23 := Tryz.zeroValue152
  t26 := Tryz.underlying3
  a26 := Tryz.isAgg3
  z26 := Tryz.sizeOf3
  v26 := Tryz.zeroValue3
  t27 := Tryz.underlying104
  a27 := Tryz.isAgg104
  z27 := Tryz.sizeOf104
  v27 := Tryz.zeroValue104
  t28 := Tryz.underlying105
  a28 := Tryz.isAgg105
  z28 := Tryz.sizeOf105
  v28 := Tryz.zeroValue105
  t33 := Tryz.underlying177
  a33 := Tryz.isAgg177
  z33 := Tryz.sizeOf177
  v33 := Tryz.zeroValue177 }
open Go.RowKit Go.Maps Go.Sort in
/-- maps.Keys, at whatever map: a function value over one new block. -/
theorem Tryz.maps_Keys_89 (mb : Option Nat) (W : World) : CallsIn Fence.wide 5 Tryz.prog 89 #[.map mb] W fun e w' => e = .returned (.func (.func 160) #[] #[.pointer (some ⟨W.heap.size, 0, none⟩)]) ∧ w' = W.alloc (.cells #[.map mb] 152) :=
  AnyZI.keys_in Tryz.keys89 Fence.wide 5 trivial rfl mb W
end Go.Proofs
