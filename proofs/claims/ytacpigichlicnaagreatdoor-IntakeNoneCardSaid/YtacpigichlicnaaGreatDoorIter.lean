/-
  DERIVED: THE SHELF's CONTRACTS AT THIS DUMP, IN PLAIN WORDS (tools/lay-plain.mjs out of 'YtacpigichlicnaaGreatDoorIter.lean', which tools/lay-shelf.mjs wrote): THE SAME DECLARATIONS UNDER THE SAME NAMES: 'import', 'namespace', 'open', 'def', 'theorem' AND NOTHING ELSE: no command of the shelf's: FOR A HAND-IN. Each laying: the table of numbers ('.._ren') and one theorem, a field a fact of the dump's own or the kernel's comparison; each contract: ONE APPLICATION.
-/
import Derived.Shelf.SlIter.Nil
import Derived.Shelf.SlIterI.Nil
import Derived.Shelf.SortM.Plain
import Derived.Shelf.SortM.SortNone
import Derived.Ground.GgzProg
import Derived.Ground.SlgmProg
import Derived.Test.YtacpigichlicnaaGreatDoorProg
namespace Go.Proofs
open Go.Shelf
def Tryz.keys134_ren : Go.Shelf.Ren := ⟨fun | 7 => 134 | 10 => 204 | n => n, fun | 23 => 97 | 26 => 9 | 3 => 233 | 28 => 240 | 0 => 0 | 27 => 239 | 33 => 244 | 4 => 4 | n => n, fun | n => n⟩
theorem Tryz.keys134 : Go.Proofs.SlLaysZ.n7 Tryz.prog Tryz.keys134_ren := {
  mixed := by kernel_rfl
  f7 := ⟨Tryz.f134.name, by decide, Tryz.func134.trans (congrArg some (by kernel_rfl))⟩
  f10 := ⟨Tryz.f204.name, by decide, Tryz.func204.trans (congrArg some (by kernel_rfl))⟩
  t0 := Tryz.underlying0
  a0 := Tryz.isAgg0
  z0 := Tryz.sizeOf0
  v0 := Tryz.zeroValue0
  t4 := Tryz.underlying4
  a4 := Tryz.isAgg4
  z4 := Tryz.sizeOf4
  v4 := Tryz.zeroValue4
  t23 := Tryz.underlying97
  a23 := Tryz.isAgg97
  z23 := Tryz.sizeOf97
  v23 := Tryz.zeroValue97
  t26 := Tryz.underlying9
  a26 := Tryz.isAgg9
  z26 := Tryz.sizeOf9
  v26 := Tryz.zeroValue9
  t27 := Tryz.underlying239
  a27 := Tryz.isAgg239
  z27 := Tryz.sizeOf239
  v27 := Tryz.zeroValue239
  t28 := Tryz.underlying240
  a28 := Tryz.isAgg240
  z28 := Tryz.sizeOf240
  v28 := Tryz.zeroValue240
  t33 := Tryz.underlying244
  a33 := Tryz.isAgg244
  z33 := Tryz.sizeOf244
  v33 := Tryz.zeroValue244 }
def Tryz.sorted133_ren : Go.Shelf.Ren := ⟨fun | 6 => 133 | 8 => 202 | 9 => 203 | 11 => 262 | 13 => 264 | 12 => 263 | 23 => 299 | 24 => 300 | 14 => 290 | 15 => 291 | 16 => 292 | 17 => 293 | 18 => 294 | 19 => 295 | 20 => 296 | 21 => 297 | 22 => 298 | 25 => 319 | 26 => 320 | 27 => 321 | 28 => 322 | 29 => 323 | 30 => 224 | 31 => 345 | n => n, fun | 26 => 9 | 28 => 240 | 24 => 155 | 0 => 0 | 3 => 3 | 37 => 285 | 48 => 277 | 50 => 399 | 4 => 4 | 40 => 392 | 39 => 391 | 45 => 157 | 5 => 5 | 9 => 9 | 51 => 412 | 55 => 416 | 57 => 432 | 58 => 433 | 33 => 244 | n => n, fun | n => n⟩
theorem Tryz.sorted133 : Go.Proofs.SlLaysZ.n6 Tryz.prog Tryz.sorted133_ren := {
  mixed := by kernel_rfl
  f6 := ⟨Tryz.f133.name, by decide, Tryz.func133.trans (congrArg some (by kernel_rfl))⟩
  f8 := ⟨Tryz.f202.name, by decide, Tryz.func202.trans (congrArg some (by kernel_rfl))⟩
  f11 := ⟨Tryz.f262.name, by decide, Tryz.func262.trans (congrArg some (by kernel_rfl))⟩
  t0 := Tryz.underlying0
  a0 := Tryz.isAgg0
  z0 := Tryz.sizeOf0
  v0 := Tryz.zeroValue0
  t24 := Tryz.underlying155
  a24 := Tryz.isAgg155
  z24 := Tryz.sizeOf155
  v24 := Tryz.zeroValue155
  t26 := Tryz.underlying9
  a26 := Tryz.isAgg9
  z26 := Tryz.sizeOf9
  v26 := Tryz.zeroValue9
  t28 := Tryz.underlying240
  a28 := Tryz.isAgg240
  z28 := Tryz.sizeOf240
  v28 := Tryz.zeroValue240
  i26 := by kernel_rfl }
def Tryz.sort203_ren : Go.Shelf.Ren := ⟨fun | 6 => 203 | 8 => 264 | 9 => 263 | 19 => 299 | 20 => 300 | 21 => 290 | 22 => 291 | 23 => 292 | 24 => 293 | 25 => 294 | 26 => 295 | 27 => 296 | 28 => 297 | 29 => 298 | 36 => 319 | 31 => 320 | 32 => 321 | 37 => 322 | 38 => 323 | 39 => 224 | 41 => 345 | n => n, fun | 27 => 155 | 29 => 9 | 3 => 3 | 32 => 285 | 26 => 155 | 0 => 0 | 44 => 277 | 46 => 399 | 4 => 4 | 36 => 392 | 35 => 391 | 41 => 157 | 5 => 5 | 9 => 9 | 53 => 412 | 57 => 416 | 63 => 432 | 64 => 433 | n => n, fun | n => n⟩
theorem Tryz.sort203 : Go.Proofs.SlLaysM.n6 Tryz.prog Tryz.sort203_ren := {
  mixed := by kernel_rfl
  f6 := ⟨Tryz.f203.name, by decide, Tryz.func203.trans (congrArg some (by kernel_rfl))⟩
  f8 := Tryz.func264.trans (congrArg some (by kernel_rfl))
  f9 := ⟨Tryz.f263.name, by decide, Tryz.func263.trans (congrArg some (by kernel_rfl))⟩
  f19 := Tryz.func299.trans (congrArg some (by kernel_rfl))
  f20 := Tryz.func300.trans (congrArg some (by kernel_rfl))
  f21 := ⟨Tryz.f290.name, by decide, Tryz.func290.trans (congrArg some (by kernel_rfl))⟩
  f22 := ⟨Tryz.f291.name, by decide, Tryz.func291.trans (congrArg some (by kernel_rfl))⟩
  f23 := ⟨Tryz.f292.name, by decide, Tryz.func292.trans (congrArg some (by kernel_rfl))⟩
  f24 := ⟨Tryz.f293.name, by decide, Tryz.func293.trans (congrArg some (by kernel_rfl))⟩
  f25 := ⟨Tryz.f294.name, by decide, Tryz.func294.trans (congrArg some (by kernel_rfl))⟩
  f26 := ⟨Tryz.f295.name, by decide, Tryz.func295.trans (congrArg some (by kernel_rfl))⟩
  f27 := ⟨Tryz.f296.name, by decide, Tryz.func296.trans (congrArg some (by kernel_rfl))⟩
  f28 := ⟨Tryz.f297.name, by decide, Tryz.func297.trans (congrArg some (by kernel_rfl))⟩
  f29 := ⟨Tryz.f298.name, by decide, Tryz.func298.trans (congrArg some (by kernel_rfl))⟩
  f31 := Tryz.func320.trans (congrArg some (by kernel_rfl))
  f32 := Tryz.func321.trans (congrArg some (by kernel_rfl))
  f36 := ⟨Tryz.f319.name, by decide, Tryz.func319.trans (congrArg some (by kernel_rfl))⟩
  f37 := ⟨Tryz.f322.name, by decide, Tryz.func322.trans (congrArg some (by kernel_rfl))⟩
  f38 := ⟨Tryz.f323.name, by decide, Tryz.func323.trans (congrArg some (by kernel_rfl))⟩
  f39 := ⟨Tryz.f224.name, by decide, Tryz.func224.trans (congrArg some (by kernel_rfl))⟩
  f41 := ⟨Tryz.f345.name, by decide, Tryz.func345.trans (congrArg some (by kernel_rfl))⟩
  t0 := Tryz.underlying0
  a0 := Tryz.isAgg0
  z0 := Tryz.sizeOf0
  v0 := Tryz.zeroValue0
  t3 := Tryz.underlying3
  a3 := Tryz.isAgg3
  z3 := Tryz.sizeOf3
  v3 := Tryz.zeroValue3
  t4 := Tryz.underlying4
  a4 := Tryz.isAgg4
  z4 := Tryz.sizeOf4
  v4 := Tryz.zeroValue4
  t5 := Tryz.underlying5
  a5 := Tryz.isAgg5
  z5 := Tryz.sizeOf5
  v5 := Tryz.zeroValue5
  t9 := Tryz.underlying9
  a9 := Tryz.isAgg9
  z9 := Tryz.sizeOf9
  v9 := Tryz.zeroValue9
  t26 := Tryz.underlying155
  a26 := Tryz.isAgg155
  z26 := Tryz.sizeOf155
  v26 := Tryz.zeroValue155
  t27 := Tryz.underlying155
  a27 := Tryz.isAgg155
  z27 := Tryz.sizeOf155
  v27 := Tryz.zeroValue155
  t29 := Tryz.underlying9
  a29 := Tryz.isAgg9
  z29 := Tryz.sizeOf9
  v29 := Tryz.zeroValue9
  t32 := Tryz.underlying285
  a32 := Tryz.isAgg285
  z32 := Tryz.sizeOf285
  v32 := Tryz.zeroValue285
  t35 := Tryz.underlying391
  a35 := Tryz.isAgg391
  z35 := Tryz.sizeOf391
  v35 := Tryz.zeroValue391
  t36 := Tryz.underlying392
  a36 := Tryz.isAgg392
  z36 := Tryz.sizeOf392
  v36 := Tryz.zeroValue392
  t41 := Tryz.underlying157
  a41 := Tryz.isAgg157
  z41 := Tryz.sizeOf157
  v41 := Tryz.zeroValue157
  t44 := Tryz.underlying277
  a44 := Tryz.isAgg277
  z44 := Tryz.sizeOf277
  v44 := Tryz.zeroValue277
  t46 := Tryz.underlying399
  a46 := Tryz.isAgg399
  z46 := Tryz.sizeOf399
  v46 := Tryz.zeroValue399
  t53 := Tryz.underlying412
  a53 := Tryz.isAgg412
  z53 := Tryz.sizeOf412
  v53 := Tryz.zeroValue412
  t57 := Tryz.underlying416
  a57 := Tryz.isAgg416
  z57 := Tryz.sizeOf416
  v57 := Tryz.zeroValue416
  t63 := Tryz.underlying432
  a63 := Tryz.isAgg432
  z63 := Tryz.sizeOf432
  v63 := Tryz.zeroValue432
  t64 := Tryz.underlying433
  a64 := Tryz.isAgg433
  z64 := Tryz.sizeOf433
  v64 := Tryz.zeroValue433 }
open Go.RowKit Go.Maps Go.Sort in
/-- slices.Sort's two contracts at this dump, at the fence that asks nothing. -/
theorem Tryz.sorts133 (m : Nat) : AnyZ.SortsIn Tryz.prog Tryz.sorted133_ren Fence.wide m :=
  ⟨fun blk off cap ss W hH hblk hsz => callsIn_wide.2 (AnyM.slices_Sort_string Tryz.sort203 blk off cap ss W hH hblk hsz),
   fun p cap W => callsIn_wide.2 (AnyM.slices_Sort_string_none Tryz.sort203 p cap W)⟩
open Go.RowKit Go.Maps Go.Sort in
/-- **maps.Keys[map[string]*satchel/disk.file,string,*satchel/disk.file], at whatever map, the nil one too:** a function value over ONE NEW BLOCK, which holds the map. -/
theorem Tryz.maps_Keys_134 (mb : Option Nat) (W : World) : CallsIn Fence.wide 5 Tryz.prog 134 #[.map mb] W fun e w' => e = .returned (.func (.func 204) #[] #[.pointer (some ⟨W.heap.size, 0, none⟩)]) ∧ w' = W.alloc (.cells #[.map mb] 97) :=
  AnyZ.keys_in Tryz.keys134 Fence.wide 5 trivial rfl mb W
open Go.RowKit Go.Maps Go.Sort in
/-- **slices.Sorted[string] AT WHAT maps.Keys[map[string]*satchel/disk.file,string,*satchel/disk.file] HANDED BACK FOR A MAP THAT IS NOT nil** ('w': the world AHEAD of maps.Keys' call): A NEW SLICE THAT HOLDS THE MAP's KEYS, SORTED; nil just where it has none; nothing that lay before has turned. -/
theorem Tryz.slices_Sorted_keys_133_134 {H : Type} (b nn : Nat) (D0 : DataW H) (R : Value → Option (DataW H × List MemPlace)) (w : World) (hown : w.ownsMap Tryz.prog 9 R b nn D0) (hmax : Maps.size D0 ≤ maxLen) (hbytes : Maps.size D0 * 16 ≤ 140737488355328) :
    CallsIn Fence.wide 5 Tryz.prog 133 #[.func (.func 204) #[] #[.pointer (some ⟨w.heap.size, 0, none⟩)]] (w.alloc (.cells #[.map (some b)] 97)) fun e w' => ∃ (v : Value) (ss : List (List UInt8)), e = .returned v ∧ ss.Perm (strKeys D0) ∧
      w'.ownsRow (w.alloc (.cells #[.map (some b)] 97)).heap.size 9 1 v ss.length ((ss.mergeSort (fun x y => decide (x ≤ y))).map encStr) ∧ (v = .slice none 0 0 ↔ ss = []) ∧ Below (w.alloc (.cells #[.map (some b)] 97)).heap.size (w.alloc (.cells #[.map (some b)] 97)) w' := by
  have hbl := hown.lt
  have hseq : SeqGives Fence.wide 2 Tryz.prog 204 #[.pointer (some ⟨w.heap.size, 0, none⟩)] encStr (fun ss => ss.Perm (strKeys D0)) (Maps.size D0) (w.alloc (.cells #[.map (some b)] 97)) :=
    AnyZ.keys_gives (ρ := Tryz.keys134_ren) { Tryz.keys134 with } Fence.wide _ trivial rfl (by omega) w.heap.size b nn D0 _ (by simp) (by simp) (by
      obtain ⟨es, clock, hb, Ft, hs, hD⟩ := hown
      exact ⟨es, clock, (Below.heap_alloc _ _ b hbl).trans hb, Ft, hs, hD⟩)
  exact AnyZ.sorted_in Tryz.sorted133 Fence.wide 5 trivial trivial trivial trivial rfl (by omega) (Tryz.sorts133 _) (enters_of Tryz.func203 (by kernel_rfl) rfl) 204 #[.pointer (some ⟨w.heap.size, 0, none⟩)] trivial (enters_of Tryz.func204 (by kernel_rfl) rfl) _ _ hmax hbytes _ hseq
open Go.RowKit Go.Maps Go.Sort in
/-- **.. AND FOR THE nil MAP: nil.** -/
theorem Tryz.slices_Sorted_keys_nil_133_134 (w : World) :
    CallsIn Fence.wide 5 Tryz.prog 133 #[.func (.func 204) #[] #[.pointer (some ⟨w.heap.size, 0, none⟩)]] (w.alloc (.cells #[.map none] 97)) fun e w' => ∃ (v : Value) (ss : List (List UInt8)), e = .returned v ∧ ss = [] ∧
      w'.ownsRow (w.alloc (.cells #[.map none] 97)).heap.size 9 1 v ss.length ((ss.mergeSort (fun x y => decide (x ≤ y))).map encStr) ∧ (v = .slice none 0 0 ↔ ss = []) ∧ Below (w.alloc (.cells #[.map none] 97)).heap.size (w.alloc (.cells #[.map none] 97)) w' := by
  have hseq : SeqGives Fence.wide 2 Tryz.prog 204 #[.pointer (some ⟨w.heap.size, 0, none⟩)] encStr (fun ss : List (List UInt8) => ss = []) 0 (w.alloc (.cells #[.map none] 97)) :=
    AnyZ.keys_gives_nil (ρ := Tryz.keys134_ren) { Tryz.keys134 with } Fence.wide _ trivial rfl w.heap.size _ (by simp) (by simp)
  exact AnyZ.sorted_in Tryz.sorted133 Fence.wide 5 trivial trivial trivial trivial rfl (by omega) (Tryz.sorts133 _) (enters_of Tryz.func203 (by kernel_rfl) rfl) 204 #[.pointer (some ⟨w.heap.size, 0, none⟩)] trivial (enters_of Tryz.func204 (by kernel_rfl) rfl) _ 0 (Nat.zero_le _) (by omega) _ hseq
def Tryz.sorted179_ren : Go.Shelf.Ren := ⟨fun | 6 => 179 | 8 => 235 | 9 => 236 | 11 => 282 | 13 => 264 | 12 => 283 | 23 => 299 | 24 => 300 | 14 => 308 | 15 => 309 | 16 => 310 | 17 => 311 | 18 => 312 | 19 => 313 | 20 => 314 | 21 => 315 | 22 => 316 | 25 => 341 | 26 => 320 | 27 => 321 | 28 => 342 | 29 => 343 | 30 => 344 | 31 => 355 | n => n, fun | 26 => 3 | 28 => 294 | 24 => 22 | 0 => 0 | 3 => 3 | 37 => 285 | 48 => 277 | 50 => 399 | 4 => 4 | 40 => 392 | 39 => 391 | 45 => 157 | 5 => 5 | 9 => 9 | 51 => 412 | 55 => 416 | 57 => 432 | 58 => 433 | 33 => 144 | n => n, fun | n => n⟩
theorem Tryz.sorted179 : Go.Proofs.SlLaysZI.n6 Tryz.prog Tryz.sorted179_ren := {
  mixed := by kernel_rfl
  f6 := ⟨Tryz.f179.name, by decide, Tryz.func179.trans (congrArg some (by kernel_rfl))⟩
  f8 := ⟨Tryz.f235.name, by decide, Tryz.func235.trans (congrArg some (by kernel_rfl))⟩
  f11 := ⟨Tryz.f282.name, by decide, Tryz.func282.trans (congrArg some (by kernel_rfl))⟩
  t0 := Tryz.underlying0
  a0 := Tryz.isAgg0
  z0 := Tryz.sizeOf0
  v0 := Tryz.zeroValue0
  t24 := Tryz.underlying22
  a24 := Tryz.isAgg22
  z24 := Tryz.sizeOf22
  v24 := Tryz.zeroValue22
  t26 := Tryz.underlying3
  a26 := Tryz.isAgg3
  z26 := Tryz.sizeOf3
  v26 := Tryz.zeroValue3
  t28 := Tryz.underlying294
  a28 := Tryz.isAgg294
  z28 := Tryz.sizeOf294
  v28 := Tryz.zeroValue294
  i26 := by kernel_rfl }
def Tryz.sort236_ren : Go.Shelf.Ren := ⟨fun | 5 => 236 | 8 => 264 | 7 => 283 | 19 => 299 | 20 => 300 | 10 => 308 | 11 => 309 | 12 => 310 | 13 => 311 | 14 => 312 | 15 => 313 | 16 => 314 | 17 => 315 | 18 => 316 | 30 => 341 | 31 => 320 | 32 => 321 | 33 => 342 | 34 => 343 | 35 => 344 | 40 => 355 | n => n, fun | 23 => 22 | 25 => 3 | 3 => 3 | 32 => 285 | 22 => 22 | 0 => 0 | 44 => 277 | 46 => 399 | 4 => 4 | 36 => 392 | 35 => 391 | 41 => 157 | 5 => 5 | 9 => 9 | 53 => 412 | 57 => 416 | 63 => 432 | 64 => 433 | n => n, fun | n => n⟩
theorem Tryz.sort236 : Go.Proofs.SlLaysM.n5 Tryz.prog Tryz.sort236_ren := {
  mixed := by kernel_rfl
  f5 := ⟨Tryz.f236.name, by decide, Tryz.func236.trans (congrArg some (by kernel_rfl))⟩
  f7 := ⟨Tryz.f283.name, by decide, Tryz.func283.trans (congrArg some (by kernel_rfl))⟩
  f8 := Tryz.func264.trans (congrArg some (by kernel_rfl))
  f10 := ⟨Tryz.f308.name, by decide, Tryz.func308.trans (congrArg some (by kernel_rfl))⟩
  f11 := ⟨Tryz.f309.name, by decide, Tryz.func309.trans (congrArg some (by kernel_rfl))⟩
  f12 := ⟨Tryz.f310.name, by decide, Tryz.func310.trans (congrArg some (by kernel_rfl))⟩
  f13 := ⟨Tryz.f311.name, by decide, Tryz.func311.trans (congrArg some (by kernel_rfl))⟩
  f14 := ⟨Tryz.f312.name, by decide, Tryz.func312.trans (congrArg some (by kernel_rfl))⟩
  f15 := ⟨Tryz.f313.name, by decide, Tryz.func313.trans (congrArg some (by kernel_rfl))⟩
  f16 := ⟨Tryz.f314.name, by decide, Tryz.func314.trans (congrArg some (by kernel_rfl))⟩
  f17 := ⟨Tryz.f315.name, by decide, Tryz.func315.trans (congrArg some (by kernel_rfl))⟩
  f18 := ⟨Tryz.f316.name, by decide, Tryz.func316.trans (congrArg some (by kernel_rfl))⟩
  f19 := Tryz.func299.trans (congrArg some (by kernel_rfl))
  f20 := Tryz.func300.trans (congrArg some (by kernel_rfl))
  f30 := ⟨Tryz.f341.name, by decide, Tryz.func341.trans (congrArg some (by kernel_rfl))⟩
  f31 := Tryz.func320.trans (congrArg some (by kernel_rfl))
  f32 := Tryz.func321.trans (congrArg some (by kernel_rfl))
  f33 := ⟨Tryz.f342.name, by decide, Tryz.func342.trans (congrArg some (by kernel_rfl))⟩
  f34 := ⟨Tryz.f343.name, by decide, Tryz.func343.trans (congrArg some (by kernel_rfl))⟩
  f35 := ⟨Tryz.f344.name, by decide, Tryz.func344.trans (congrArg some (by kernel_rfl))⟩
  f40 := ⟨Tryz.f355.name, by decide, Tryz.func355.trans (congrArg some (by kernel_rfl))⟩
  t0 := Tryz.underlying0
  a0 := Tryz.isAgg0
  z0 := Tryz.sizeOf0
  v0 := Tryz.zeroValue0
  t3 := Tryz.underlying3
  a3 := Tryz.isAgg3
  z3 := Tryz.sizeOf3
  v3 := Tryz.zeroValue3
  t4 := Tryz.underlying4
  a4 := Tryz.isAgg4
  z4 := Tryz.sizeOf4
  v4 := Tryz.zeroValue4
  t5 := Tryz.underlying5
  a5 := Tryz.isAgg5
  z5 := Tryz.sizeOf5
  v5 := Tryz.zeroValue5
  t9 := Tryz.underlying9
  a9 := Tryz.isAgg9
  z9 := Tryz.sizeOf9
  v9 := Tryz.zeroValue9
  t22 := Tryz.underlying22
  a22 := Tryz.isAgg22
  z22 := Tryz.sizeOf22
  v22 := Tryz.zeroValue22
  t23 := Tryz.underlying22
  a23 := Tryz.isAgg22
  z23 := Tryz.sizeOf22
  v23 := Tryz.zeroValue22
  t25 := Tryz.underlying3
  a25 := Tryz.isAgg3
  z25 := Tryz.sizeOf3
  v25 := Tryz.zeroValue3
  t32 := Tryz.underlying285
  a32 := Tryz.isAgg285
  z32 := Tryz.sizeOf285
  v32 := Tryz.zeroValue285
  t35 := Tryz.underlying391
  a35 := Tryz.isAgg391
  z35 := Tryz.sizeOf391
  v35 := Tryz.zeroValue391
  t36 := Tryz.underlying392
  a36 := Tryz.isAgg392
  z36 := Tryz.sizeOf392
  v36 := Tryz.zeroValue392
  t41 := Tryz.underlying157
  a41 := Tryz.isAgg157
  z41 := Tryz.sizeOf157
  v41 := Tryz.zeroValue157
  t44 := Tryz.underlying277
  a44 := Tryz.isAgg277
  z44 := Tryz.sizeOf277
  v44 := Tryz.zeroValue277
  t46 := Tryz.underlying399
  a46 := Tryz.isAgg399
  z46 := Tryz.sizeOf399
  v46 := Tryz.zeroValue399
  t53 := Tryz.underlying412
  a53 := Tryz.isAgg412
  z53 := Tryz.sizeOf412
  v53 := Tryz.zeroValue412
  t57 := Tryz.underlying416
  a57 := Tryz.isAgg416
  z57 := Tryz.sizeOf416
  v57 := Tryz.zeroValue416
  t63 := Tryz.underlying432
  a63 := Tryz.isAgg432
  z63 := Tryz.sizeOf432
  v63 := Tryz.zeroValue432
  t64 := Tryz.underlying433
  a64 := Tryz.isAgg433
  z64 := Tryz.sizeOf433
  v64 := Tryz.zeroValue433 }
open Go.RowKit Go.Maps Go.Sort in
/-- slices.Sort's two contracts at this dump, at the fence that asks nothing. -/
theorem Tryz.sorts179 (m : Nat) : AnyZI.SortsIn Tryz.prog Tryz.sorted179_ren Fence.wide m :=
  ⟨fun blk off cap ss W hH hblk hsz => callsIn_wide.2 (AnyM.slices_Sort_int Tryz.sort236 blk off cap ss W hH hblk hsz),
   fun p cap W => callsIn_wide.2 (AnyM.slices_Sort_int_none Tryz.sort236 p cap W)⟩
def Tryz.keys180_ren : Go.Shelf.Ren := ⟨fun | 7 => 180 | 10 => 237 | n => n, fun | 23 => 163 | 26 => 3 | 3 => 98 | 28 => 294 | 0 => 0 | 27 => 293 | 33 => 144 | 4 => 4 | n => n, fun | n => n⟩
theorem Tryz.keys180 : Go.Proofs.SlLaysZI.n7 Tryz.prog Tryz.keys180_ren := {
  mixed := by kernel_rfl
  f7 := ⟨Tryz.f180.name, by decide, Tryz.func180.trans (congrArg some (by kernel_rfl))⟩
  f10 := ⟨Tryz.f237.name, by decide, Tryz.func237.trans (congrArg some (by kernel_rfl))⟩
  t0 := Tryz.underlying0
  a0 := Tryz.isAgg0
  z0 := Tryz.sizeOf0
  v0 := Tryz.zeroValue0
  t4 := Tryz.underlying4
  a4 := Tryz.isAgg4
  z4 := Tryz.sizeOf4
  v4 := Tryz.zeroValue4
  t23 := Tryz.underlying163
  a23 := Tryz.isAgg163
  z23 := Tryz.sizeOf163
  v23 := Tryz.zeroValue163
  t26 := Tryz.underlying3
  a26 := Tryz.isAgg3
  z26 := Tryz.sizeOf3
  v26 := Tryz.zeroValue3
  t27 := Tryz.underlying293
  a27 := Tryz.isAgg293
  z27 := Tryz.sizeOf293
  v27 := Tryz.zeroValue293
  t28 := Tryz.underlying294
  a28 := Tryz.isAgg294
  z28 := Tryz.sizeOf294
  v28 := Tryz.zeroValue294
  t33 := Tryz.underlying144
  a33 := Tryz.isAgg144
  z33 := Tryz.sizeOf144
  v33 := Tryz.zeroValue144 }
open Go.RowKit Go.Maps Go.Sort in
/-- maps.Keys, at whatever map: a function value over one new block. -/
theorem Tryz.maps_Keys_180 (mb : Option Nat) (W : World) : CallsIn Fence.wide 5 Tryz.prog 180 #[.map mb] W fun e w' => e = .returned (.func (.func 237) #[] #[.pointer (some ⟨W.heap.size, 0, none⟩)]) ∧ w' = W.alloc (.cells #[.map mb] 163) :=
  AnyZI.keys_in Tryz.keys180 Fence.wide 5 trivial rfl mb W
end Go.Proofs
