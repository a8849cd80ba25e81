/-
  DERIVED: THE SHELF's CONTRACTS AT THIS DUMP, IN PLAIN WORDS (tools/lay-plain.mjs out of 'YtkgncjlgmnbfoaaGreatDoorIter.lean', which tools/lay-shelf.mjs wrote): THE SAME DECLARATIONS UNDER THE SAME NAMES: 'import', 'namespace', 'open', 'def', 'theorem' AND NOTHING ELSE: no command of the shelf's: FOR A HAND-IN. Each laying: the table of numbers ('.._ren') and one theorem, a field a fact of the dump's own or the kernel's comparison; each contract: ONE APPLICATION.
-/
import Derived.Shelf.SlIter.Nil
import Derived.Shelf.SlIterI.Nil
import Derived.Shelf.SortM.Plain
import Derived.Shelf.SortM.SortNone
import Derived.Ground.GgzProg
import Derived.Ground.SlgmProg
import Derived.Test.YtkgncjlgmnbfoaaGreatDoorProg
namespace Go.Proofs
open Go.Shelf
def Tryz.keys108_ren : Go.Shelf.Ren := ⟨fun | 7 => 108 | 10 => 179 | n => n, fun | 23 => 82 | 26 => 9 | 3 => 196 | 28 => 203 | 0 => 0 | 27 => 202 | 33 => 207 | 4 => 4 | n => n, fun | n => n⟩
theorem Tryz.keys108 : Go.Proofs.SlLaysZ.n7 Tryz.prog Tryz.keys108_ren := {
  mixed := by kernel_rfl
  f7 := ⟨Tryz.f108.name, by decide, Tryz.func108.trans (congrArg some (by kernel_rfl))⟩
  f10 := ⟨Tryz.f179.name, by decide, Tryz.func179.trans (congrArg some (by kernel_rfl))⟩
  t0 := Tryz.underlying0
  a0 := Tryz.isAgg0
  z0 := Tryz.sizeOf0
  v0 := Tryz.zeroValue0
  t4 := Tryz.underlying4
  a4 := Tryz.isAgg4
  z4 := Tryz.sizeOf4
  v4 := Tryz.zeroValue4
  t23 := Tryz.underlying82
  a23 := Tryz.isAgg82
  z23 := Tryz.sizeOf82
  v23 := Tryz.zeroValue82
  t26 := Tryz.underlying9
  a26 := Tryz.isAgg9
  z26 := Tryz.sizeOf9
  v26 := Tryz.zeroValue9
  t27 := Tryz.underlying202
  a27 := Tryz.isAgg202
  z27 := Tryz.sizeOf202
  v27 := Tryz.zeroValue202
  t28 := Tryz.underlying203
  a28 := Tryz.isAgg203
  z28 := Tryz.sizeOf203
  v28 := Tryz.zeroValue203
  t33 := Tryz.underlying207
  a33 := Tryz.isAgg207
  z33 := Tryz.sizeOf207
  v33 := Tryz.zeroValue207 }
def Tryz.sorted107_ren : Go.Shelf.Ren := ⟨fun | 6 => 107 | 8 => 177 | 9 => 178 | 11 => 231 | 13 => 233 | 12 => 232 | 23 => 285 | 24 => 286 | 14 => 276 | 15 => 277 | 16 => 278 | 17 => 279 | 18 => 280 | 19 => 281 | 20 => 282 | 21 => 283 | 22 => 284 | 25 => 305 | 26 => 306 | 27 => 307 | 28 => 308 | 29 => 309 | 30 => 200 | 31 => 338 | n => n, fun | 26 => 9 | 28 => 203 | 24 => 141 | 0 => 0 | 3 => 3 | 37 => 249 | 48 => 241 | 50 => 387 | 4 => 4 | 40 => 380 | 39 => 379 | 45 => 143 | 5 => 5 | 9 => 9 | 51 => 402 | 55 => 406 | 57 => 426 | 58 => 427 | 33 => 207 | n => n, fun | n => n⟩
theorem Tryz.sorted107 : Go.Proofs.SlLaysZ.n6 Tryz.prog Tryz.sorted107_ren := {
  mixed := by kernel_rfl
  f6 := ⟨Tryz.f107.name, by decide, Tryz.func107.trans (congrArg some (by kernel_rfl))⟩
  f8 := ⟨Tryz.f177.name, by decide, Tryz.func177.trans (congrArg some (by kernel_rfl))⟩
  f11 := ⟨Tryz.f231.name, by decide, Tryz.func231.trans (congrArg some (by kernel_rfl))⟩
  t0 := Tryz.underlying0
  a0 := Tryz.isAgg0
  z0 := Tryz.sizeOf0
  v0 := Tryz.zeroValue0
  t24 := Tryz.underlying141
  a24 := Tryz.isAgg141
  z24 := Tryz.sizeOf141
  v24 := Tryz.zeroValue141
  t26 := Tryz.underlying9
  a26 := Tryz.isAgg9
  z26 := Tryz.sizeOf9
  v26 := Tryz.zeroValue9
  t28 := Tryz.underlying203
  a28 := Tryz.isAgg203
  z28 := Tryz.sizeOf203
  v28 := Tryz.zeroValue203
  i26 := by kernel_rfl }
def Tryz.sort178_ren : Go.Shelf.Ren := ⟨fun | 6 => 178 | 8 => 233 | 9 => 232 | 19 => 285 | 20 => 286 | 21 => 276 | 22 => 277 | 23 => 278 | 24 => 279 | 25 => 280 | 26 => 281 | 27 => 282 | 28 => 283 | 29 => 284 | 36 => 305 | 31 => 306 | 32 => 307 | 37 => 308 | 38 => 309 | 39 => 200 | 41 => 338 | n => n, fun | 27 => 141 | 29 => 9 | 3 => 3 | 32 => 249 | 26 => 141 | 0 => 0 | 44 => 241 | 46 => 387 | 4 => 4 | 36 => 380 | 35 => 379 | 41 => 143 | 5 => 5 | 9 => 9 | 53 => 402 | 57 => 406 | 63 => 426 | 64 => 427 | n => n, fun | n => n⟩
theorem Tryz.sort178 : Go.Proofs.SlLaysM.n6 Tryz.prog Tryz.sort178_ren := {
  mixed := by kernel_rfl
  f6 := ⟨Tryz.f178.name, by decide, Tryz.func178.trans (congrArg some (by kernel_rfl))⟩
  f8 := Tryz.func233.trans (congrArg some (by kernel_rfl))
  f9 := ⟨Tryz.f232.name, by decide, Tryz.func232.trans (congrArg some (by kernel_rfl))⟩
  f19 := Tryz.func285.trans (congrArg some (by kernel_rfl))
  f20 := Tryz.func286.trans (congrArg some (by kernel_rfl))
  f21 := ⟨Tryz.f276.name, by decide, Tryz.func276.trans (congrArg some (by kernel_rfl))⟩
  f22 := ⟨Tryz.f277.name, by decide, Tryz.func277.trans (congrArg some (by kernel_rfl))⟩
  f23 := ⟨Tryz.f278.name, by decide, Tryz.func278.trans (congrArg some (by kernel_rfl))⟩
  f24 := ⟨Tryz.f279.name, by decide, Tryz.func279.trans (congrArg some (by kernel_rfl))⟩
  f25 := ⟨Tryz.f280.name, by decide, Tryz.func280.trans (congrArg some (by kernel_rfl))⟩
  f26 := ⟨Tryz.f281.name, by decide, Tryz.func281.trans (congrArg some (by kernel_rfl))⟩
  f27 := ⟨Tryz.f282.name, by decide, Tryz.func282.trans (congrArg some (by kernel_rfl))⟩
  f28 := ⟨Tryz.f283.name, by decide, Tryz.func283.trans (congrArg some (by kernel_rfl))⟩
  f29 := ⟨Tryz.f284.name, by decide, Tryz.func284.trans (congrArg some (by kernel_rfl))⟩
  f31 := Tryz.func306.trans (congrArg some (by kernel_rfl))
  f32 := Tryz.func307.trans (congrArg some (by kernel_rfl))
  f36 := ⟨Tryz.f305.name, by decide, Tryz.func305.trans (congrArg some (by kernel_rfl))⟩
  f37 := ⟨Tryz.f308.name, by decide, Tryz.func308.trans (congrArg some (by kernel_rfl))⟩
  f38 := ⟨Tryz.f309.name, by decide, Tryz.func309.trans (congrArg some (by kernel_rfl))⟩
  f39 := ⟨Tryz.f200.name, by decide, Tryz.func200.trans (congrArg some (by kernel_rfl))⟩
  f41 := ⟨Tryz.f338.name, by decide, Tryz.func338.trans (congrArg some (by kernel_rfl))⟩
  t0 := Tryz.underlying0
  a0 := Tryz.isAgg0
  z0 := Tryz.sizeOf0
  v0 := Tryz.zeroValue0
  t3 := Tryz.underlying3
  a3 := Tryz.isAgg3
  z3 := Tryz.sizeOf3
  v3 := Tryz.zeroValue3
  t4 := Tryz.underlying4
  a4 := Tryz.isAgg4
  z4 := Tryz.sizeOf4
  v4 := Tryz.zeroValue4
  t5 := Tryz.underlying5
  a5 := Tryz.isAgg5
  z5 := Tryz.sizeOf5
  v5 := Tryz.zeroValue5
  t9 := Tryz.underlying9
  a9 := Tryz.isAgg9
  z9 := Tryz.sizeOf9
  v9 := Tryz.zeroValue9
  t26 := Tryz.underlying141
  a26 := Tryz.isAgg141
  z26 := Tryz.sizeOf141
  v26 := Tryz.zeroValue141
  t27 := Tryz.underlying141
  a27 := Tryz.isAgg141
  z27 := Tryz.sizeOf141
  v27 := Tryz.zeroValue141
  t29 := Tryz.underlying9
  a29 := Tryz.isAgg9
  z29 := Tryz.sizeOf9
  v29 := Tryz.zeroValue9
  t32 := Tryz.underlying249
  a32 := Tryz.isAgg249
  z32 := Tryz.sizeOf249
  v32 := Tryz.zeroValue249
  t35 := Tryz.underlying379
  a35 := Tryz.isAgg379
  z35 := Tryz.sizeOf379
  v35 := Tryz.zeroValue379
  t36 := Tryz.underlying380
  a36 := Tryz.isAgg380
  z36 := Tryz.sizeOf380
  v36 := Tryz.zeroValue380
  t41 := Tryz.underlying143
  a41 := Tryz.isAgg143
  z41 := Tryz.sizeOf143
  v41 := Tryz.zeroValue143
  t44 := Tryz.underlying241
  a44 := Tryz.isAgg241
  z44 := Tryz.sizeOf241
  v44 := Tryz.zeroValue241
  t46 := Tryz.underlying387
  a46 := Tryz.isAgg387
  z46 := Tryz.sizeOf387
  v46 := Tryz.zeroValue387
  t53 := Tryz.underlying402
  a53 := Tryz.isAgg402
  z53 := Tryz.sizeOf402
  v53 := Tryz.zeroValue402
  t57 := Tryz.underlying406
  a57 := Tryz.isAgg406
  z57 := Tryz.sizeOf406
  v57 := Tryz.zeroValue406
  t63 := Tryz.underlying426
  a63 := Tryz.isAgg426
  z63 := Tryz.sizeOf426
  v63 := Tryz.zeroValue426
  t64 := Tryz.underlying427
  a64 := Tryz.isAgg427
  z64 := Tryz.sizeOf427
  v64 := Tryz.zeroValue427 }
open Go.RowKit Go.Maps Go.Sort in
/-- slices.Sort's two contracts at this dump, at the fence that asks nothing. -/
theorem Tryz.sorts107 (m : Nat) : AnyZ.SortsIn Tryz.prog Tryz.sorted107_ren Fence.wide m :=
  ⟨fun blk off cap ss W hH hblk hsz => callsIn_wide.2 (AnyM.slices_Sort_string Tryz.sort178 blk off cap ss W hH hblk hsz),
   fun p cap W => callsIn_wide.2 (AnyM.slices_Sort_string_none Tryz.sort178 p cap W)⟩
open Go.RowKit Go.Maps Go.Sort in
/-- **maps.Keys[map[string]*satchel/disk.file,string,*satchel/disk.file], at whatever map, the nil one too:** a function value over ONE NEW BLOCK, which holds the map. -/
theorem Tryz.maps_Keys_108 (mb : Option Nat) (W : World) : CallsIn Fence.wide 5 Tryz.prog 108 #[.map mb] W fun e w' => e = .returned (.func (.func 179) #[] #[.pointer (some ⟨W.heap.size, 0, none⟩)]) ∧ w' = W.alloc (.cells #[.map mb] 82) :=
  AnyZ.keys_in Tryz.keys108 Fence.wide 5 trivial rfl mb W
open Go.RowKit Go.Maps Go.Sort in
/-- **slices.Sorted[string] AT WHAT maps.Keys[map[string]*satchel/disk.file,string,*satchel/disk.file] HANDED BACK FOR A MAP THAT IS NOT nil** ('w': the world AHEAD of maps.Keys' call): A NEW SLICE THAT HOLDS THE MAP's KEYS, SORTED; nil just where it has none; nothing that lay before has turned. -/
theorem Tryz.slices_Sorted_keys_107_108 {H : Type} (b nn : Nat) (D0 : DataW H) (R : Value → Option (DataW H × List MemPlace)) (w : World) (hown : w.ownsMap Tryz.prog 9 R b nn D0) (hmax : Maps.size D0 ≤ maxLen) (hbytes : Maps.size D0 * 16 ≤ 140737488355328) :
    CallsIn Fence.wide 5 Tryz.prog 107 #[.func (.func 179) #[] #[.pointer (some ⟨w.heap.size, 0, none⟩)]] (w.alloc (.cells #[.map (some b)] 82)) fun e w' => ∃ (v : Value) (ss : List (List UInt8)), e = .returned v ∧ ss.Perm (strKeys D0) ∧
      w'.ownsRow (w.alloc (.cells #[.map (some b)] 82)).heap.size 9 1 v ss.length ((ss.mergeSort (fun x y => decide (x ≤ y))).map encStr) ∧ (v = .slice none 0 0 ↔ ss = []) ∧ Below (w.alloc (.cells #[.map (some b)] 82)).heap.size (w.alloc (.cells #[.map (some b)] 82)) w' := by
  have hbl := hown.lt
  have hseq : SeqGives Fence.wide 2 Tryz.prog 179 #[.pointer (some ⟨w.heap.size, 0, none⟩)] encStr (fun ss => ss.Perm (strKeys D0)) (Maps.size D0) (w.alloc (.cells #[.map (some b)] 82)) :=
    AnyZ.keys_gives (ρ := Tryz.keys108_ren) { Tryz.keys108 with } Fence.wide _ trivial rfl (by omega) w.heap.size b nn D0 _ (by simp) (by simp) (by
      obtain ⟨es, clock, hb, Ft, hs, hD⟩ := hown
      exact ⟨es, clock, (Below.heap_alloc _ _ b hbl).trans hb, Ft, hs, hD⟩)
  exact AnyZ.sorted_in Tryz.sorted107 Fence.wide 5 trivial trivial trivial trivial rfl (by omega) (Tryz.sorts107 _) (enters_of Tryz.func178 (by kernel_rfl) rfl) 179 #[.pointer (some ⟨w.heap.size, 0, none⟩)] trivial (enters_of Tryz.func179 (by kernel_rfl) rfl) _ _ hmax hbytes _ hseq
open Go.RowKit Go.Maps Go.Sort in
/-- **.. AND FOR THE nil MAP: nil.** -/
theorem Tryz.slices_Sorted_keys_nil_107_108 (w : World) :
    CallsIn Fence.wide 5 Tryz.prog 107 #[.func (.func 179) #[] #[.pointer (some ⟨w.heap.size, 0, none⟩)]] (w.alloc (.cells #[.map none] 82)) fun e w' => ∃ (v : Value) (ss : List (List UInt8)), e = .returned v ∧ ss = [] ∧
      w'.ownsRow (w.alloc (.cells #[.map none] 82)).heap.size 9 1 v ss.length ((ss.mergeSort (fun x y => decide (x ≤ y))).map encStr) ∧ (v = .slice none 0 0 ↔ ss = []) ∧ Below (w.alloc (.cells #[.map none] 82)).heap.size (w.alloc (.cells #[.map none] 82)) w' := by
  have hseq : SeqGives Fence.wide 2 Tryz.prog 179 #[.pointer (some ⟨w.heap.size, 0, none⟩)] encStr (fun ss : List (List UInt8) => ss = []) 0 (w.alloc (.cells #[.map none] 82)) :=
    AnyZ.keys_gives_nil (ρ := Tryz.keys108_ren) { Tryz.keys108 with } Fence.wide _ trivial rfl w.heap.size _ (by simp) (by simp)
  exact AnyZ.sorted_in Tryz.sorted107 Fence.wide 5 trivial trivial trivial trivial rfl (by omega) (Tryz.sorts107 _) (enters_of Tryz.func178 (by kernel_rfl) rfl) 179 #[.pointer (some ⟨w.heap.size, 0, none⟩)] trivial (enters_of Tryz.func179 (by kernel_rfl) rfl) _ 0 (Nat.zero_le _) (by omega) _ hseq
def Tryz.sorted190_ren : Go.Shelf.Ren := ⟨fun | 6 => 190 | 8 => 243 | 9 => 244 | 11 => 291 | 13 => 233 | 12 => 292 | 23 => 285 | 24 => 286 | 14 => 320 | 15 => 321 | 16 => 322 | 17 => 323 | 18 => 324 | 19 => 325 | 20 => 326 | 21 => 327 | 22 => 328 | 25 => 346 | 26 => 306 | 27 => 307 | 28 => 347 | 29 => 348 | 30 => 349 | 31 => 356 | n => n, fun | 26 => 3 | 28 => 294 | 24 => 28 | 0 => 0 | 3 => 3 | 37 => 249 | 48 => 241 | 50 => 387 | 4 => 4 | 40 => 380 | 39 => 379 | 45 => 143 | 5 => 5 | 9 => 9 | 51 => 402 | 55 => 406 | 57 => 426 | 58 => 427 | 33 => 194 | n => n, fun | n => n⟩
theorem Tryz.sorted190 : Go.Proofs.SlLaysZI.n6 Tryz.prog Tryz.sorted190_ren := {
  mixed := by kernel_rfl
  f6 := ⟨Tryz.f190.name, by decide, Tryz.func190.trans (congrArg some (by kernel_rfl))⟩
  f8 := ⟨Tryz.f243.name, by decide, Tryz.func243.trans (congrArg some (by kernel_rfl))⟩
  f11 := ⟨Tryz.f291.name, by decide, Tryz.func291.trans (congrArg some (by kernel_rfl))⟩
  t0 := Tryz.underlying0
  a0 := Tryz.isAgg0
  z0 := Tryz.sizeOf0
  v0 := Tryz.zeroValue0
  t24 := Tryz.underlying28
  a24 := Tryz.isAgg28
  z24 := Tryz.sizeOf28
  v24 := Tryz.zeroValue28
  t26 := Tryz.underlying3
  a26 := Tryz.isAgg3
  z26 := Tryz.sizeOf3
  v26 := Tryz.zeroValue3
  t28 := Tryz.underlying294
  a28 := Tryz.isAgg294
  z28 := Tryz.sizeOf294
  v28 := Tryz.zeroValue294
  i26 := by kernel_rfl }
def Tryz.sort244_ren : Go.Shelf.Ren := ⟨fun | 5 => 244 | 8 => 233 | 7 => 292 | 19 => 285 | 20 => 286 | 10 => 320 | 11 => 321 | 12 => 322 | 13 => 323 | 14 => 324 | 15 => 325 | 16 => 326 | 17 => 327 | 18 => 328 | 30 => 346 | 31 => 306 | 32 => 307 | 33 => 347 | 34 => 348 | 35 => 349 | 40 => 356 | n => n, fun | 23 => 28 | 25 => 3 | 3 => 3 | 32 => 249 | 22 => 28 | 0 => 0 | 44 => 241 | 46 => 387 | 4 => 4 | 36 => 380 | 35 => 379 | 41 => 143 | 5 => 5 | 9 => 9 | 53 => 402 | 57 => 406 | 63 => 426 | 64 => 427 | n => n, fun | n => n⟩
theorem Tryz.sort244 : Go.Proofs.SlLaysM.n5 Tryz.prog Tryz.sort244_ren := {
  mixed := by kernel_rfl
  f5 := ⟨Tryz.f244.name, by decide, Tryz.func244.trans (congrArg some (by kernel_rfl))⟩
  f7 := ⟨Tryz.f292.name, by decide, Tryz.func292.trans (congrArg some (by kernel_rfl))⟩
  f8 := Tryz.func233.trans (congrArg some (by kernel_rfl))
  f10 := ⟨Tryz.f320.name, by decide, Tryz.func320.trans (congrArg some (by kernel_rfl))⟩
  f11 := ⟨Tryz.f321.name, by decide, Tryz.func321.trans (congrArg some (by kernel_rfl))⟩
  f12 := ⟨Tryz.f322.name, by decide, Tryz.func322.trans (congrArg some (by kernel_rfl))⟩
  f13 := ⟨Tryz.f323.name, by decide, Tryz.func323.trans (congrArg some (by kernel_rfl))⟩
  f14 := ⟨Tryz.f324.name, by decide, Tryz.func324.trans (congrArg some (by kernel_rfl))⟩
  f15 := ⟨Tryz.f325.name, by decide, Tryz.func325.trans (congrArg some (by kernel_rfl))⟩
  f16 := ⟨Tryz.f326.name, by decide, Tryz.func326.trans (congrArg some (by kernel_rfl))⟩
  f17 := ⟨Tryz.f327.name, by decide, Tryz.func327.trans (congrArg some (by kernel_rfl))⟩
  f18 := ⟨Tryz.f328.name, by decide, Tryz.func328.trans (congrArg some (by kernel_rfl))⟩
  f19 := Tryz.func285.trans (congrArg some (by kernel_rfl))
  f20 := Tryz.func286.trans (congrArg some (by kernel_rfl))
  f30 := ⟨Tryz.f346.name, by decide, Tryz.func346.trans (congrArg some (by kernel_rfl))⟩
  f31 := Tryz.func306.trans (congrArg some (by kernel_rfl))
  f32 := Tryz.func307.trans (congrArg some (by kernel_rfl))
  f33 := ⟨Tryz.f347.name, by decide, Tryz.func347.trans (congrArg some (by kernel_rfl))⟩
  f34 := ⟨Tryz.f348.name, by decide, Tryz.func348.trans (congrArg some (by kernel_rfl))⟩
  f35 := ⟨Tryz.f349.name, by decide, Tryz.func349.trans (congrArg some (by kernel_rfl))⟩
  f40 := ⟨Tryz.f356.name, by decide, Tryz.func356.trans (congrArg some (by kernel_rfl))⟩
  t0 := Tryz.underlying0
  a0 := Tryz.isAgg0
  z0 := Tryz.sizeOf0
  v0 := Tryz.zeroValue0
  t3 := Tryz.underlying3
  a3 := Tryz.isAgg3
  z3 := Tryz.sizeOf3
  v3 := Tryz.zeroValue3
  t4 := Tryz.underlying4
  a4 := Tryz.isAgg4
  z4 := Tryz.sizeOf4
  v4 := Tryz.zeroValue4
  t5 := Tryz.underlying5
  a5 := Tryz.isAgg5
  z5 := Tryz.sizeOf5
  v5 := Tryz.zeroValue5
  t9 := Tryz.underlying9
  a9 := Tryz.isAgg9
  z9 := Tryz.sizeOf9
  v9 := Tryz.zeroValue9
  t22 := Tryz.underlying28
  a22 := Tryz.isAgg28
  z22 := Tryz.sizeOf28
  v22 := Tryz.zeroValue28
  t23 := Tryz.underlying28
  a23 := Tryz.isAgg28
  z23 := Tryz.sizeOf28
  v23 := Tryz.zeroValue28
  t25 := Tryz.underlying3
  a25 := Tryz.isAgg3
  z25 := Tryz.sizeOf3
  v25 := Tryz.zeroValue3
  t32 := Tryz.underlying249
  a32 := Tryz.isAgg249
  z32 := Tryz.sizeOf249
  v32 := Tryz.zeroValue249
  t35 := Tryz.underlying379
  a35 := Tryz.isAgg379
  z35 := Tryz.sizeOf379
  v35 := Tryz.zeroValue379
  t36 := Tryz.underlying380
  a36 := Tryz.isAgg380
  z36 := Tryz.sizeOf380
  v36 := Tryz.zeroValue380
  t41 := Tryz.underlying143
  a41 := Tryz.isAgg143
  z41 := Tryz.sizeOf143
  v41 := Tryz.zeroValue143
  t44 := Tryz.underlying241
  a44 := Tryz.isAgg241
  z44 := Tryz.sizeOf241
  v44 := Tryz.zeroValue241
  t46 := Tryz.underlying387
  a46 := Tryz.isAgg387
  z46 := Tryz.sizeOf387
  v46 := Tryz.zeroValue387
  t53 := Tryz.underlying402
  a53 := Tryz.isAgg402
  z53 := Tryz.sizeOf402
  v53 := Tryz.zeroValue402
  t57 := Tryz.underlying406
  a57 := Tryz.isAgg406
  z57 := Tryz.sizeOf406
  v57 := Tryz.zeroValue406
  t63 := Tryz.underlying426
  a63 := Tryz.isAgg426
  z63 := Tryz.sizeOf426
  v63 := Tryz.zeroValue426
  t64 := Tryz.underlying427
  a64 := Tryz.isAgg427
  z64 := Tryz.sizeOf427
  v64 := Tryz.zeroValue427 }
open Go.RowKit Go.Maps Go.Sort in
/-- slices.Sort's two contracts at this dump, at the fence that asks nothing. -/
theorem Tryz.sorts190 (m : Nat) : AnyZI.SortsIn Tryz.prog Tryz.sorted190_ren Fence.wide m :=
  ⟨fun blk off cap ss W hH hblk hsz => callsIn_wide.2 (AnyM.slices_Sort_int Tryz.sort244 blk off cap ss W hH hblk hsz),
   fun p cap W => callsIn_wide.2 (AnyM.slices_Sort_int_none Tryz.sort244 p cap W)⟩
def Tryz.keys210_ren : Go.Shelf.Ren := ⟨fun | 7 => 210 | 10 => 256 | n => n, fun | 23 => 149 | 26 => 3 | 3 => 83 | 28 => 294 | 0 => 0 | 27 => 293 | 33 => 194 | 4 => 4 | n => n, fun | n => n⟩
theorem Tryz.keys210 : Go.Proofs.SlLaysZI.n7 Tryz.prog Tryz.keys210_ren := {
  mixed := by kernel_rfl
  f7 := ⟨Tryz.f210.name, by decide, Tryz.func210.trans (congrArg some (by kernel_rfl))⟩
  f10 := ⟨Tryz.f256.name, by decide, Tryz.func256.trans (congrArg some (by kernel_rfl))⟩
  t0 := Tryz.underlying0
  a0 := Tryz.isAgg0
  z0 := Tryz.sizeOf0
  v0 := Tryz.zeroValue0
  t4 := Tryz.underlying4
  a4 := Tryz.isAgg4
  z4 := Tryz.sizeOf4
  v4 := Tryz.zeroValue4
  t23 := Tryz.underlying149
  a23 := Tryz.isAgg149
  z23 := Tryz.sizeOf149
  v23 := Tryz.zeroValue149
  t26 := Tryz.underlying3
  a26 := Tryz.isAgg3
  z26 := Tryz.sizeOf3
  v26 := Tryz.zeroValue3
  t27 := Tryz.underlying293
  a27 := Tryz.isAgg293
  z27 := Tryz.sizeOf293
  v27 := Tryz.zeroValue293
  t28 := Tryz.underlying294
  a28 := Tryz.isAgg294
  z28 := Tryz.sizeOf294
  v28 := Tryz.zeroValue294
  t33 := Tryz.underlying194
  a33 := Tryz.isAgg194
  z33 := Tryz.sizeOf194
  v33 := Tryz.zeroValue194 }
open Go.RowKit Go.Maps Go.Sort in
/-- maps.Keys, at whatever map: a function value over one new block. -/
theorem Tryz.maps_Keys_210 (mb : Option Nat) (W : World) : CallsIn Fence.wide 5 Tryz.prog 210 #[.map mb] W fun e w' => e = .returned (.func (.func 256) #[] #[.pointer (some ⟨W.heap.size, 0, none⟩)]) ∧ w' = W.alloc (.cells #[.map mb] 149) :=
  AnyZI.keys_in Tryz.keys210 Fence.wide 5 trivial rfl mb W
end Go.Proofs
