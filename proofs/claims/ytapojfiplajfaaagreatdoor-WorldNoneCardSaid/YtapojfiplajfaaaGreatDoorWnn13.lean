/-
  DERIVED: THE SHELF's CONTRACTS AT THIS DUMP, IN PLAIN WORDS (tools/lay-plain.mjs out of 'YtapojfiplajfaaaGreatDoorIter.lean', which tools/lay-shelf.mjs wrote): THE SAME DECLARATIONS UNDER THE SAME NAMES: 'import', 'namespace', 'open', 'def', 'theorem' AND NOTHING ELSE: no command of the shelf's: FOR A HAND-IN. Each laying: the table of numbers ('.._ren') and one theorem, a field a fact of the dump's own or the kernel's comparison; each contract: ONE APPLICATION.
-/
import Derived.Shelf.SlIter.Nil
import Derived.Shelf.SlIterI.Nil
import Derived.Shelf.SortM.Plain
import Derived.Shelf.SortM.SortNone
import Derived.Ground.GgzProg
import Derived.Ground.SlgmProg
import Derived.Test.YtapojfiplajfaaaGreatDoorProg
import Derived.Test.YtapojfiplajfaaaGreatDoorWnn12
namespace Go.Proofs
open Go.Shelf
def Tryz.keys92_ren : Go.Shelf.Ren := ⟨fun | 7 => 92 | 10 => 144 | n => n, fun | 23 => 104 | 26 => 9 | 3 => 192 | 28 => 197 | 0 => 0 | 27 => 196 | 33 => 201 | 4 => 4 | n => n, fun | n => n⟩
theorem Tryz.keys92 : Go.Proofs.SlLaysZ.n7 Tryz.prog Tryz.keys92_ren := {
  mixed := by kernel_rfl
  f7 := ⟨Tryz.f92.name, by decide, Tryz.func92.trans (congrArg some (by kernel_rfl))⟩
  f10 := ⟨Tryz.f144.name, by decide, Tryz.func144.trans (congrArg some (by kernel_rfl))⟩
  t0 := Tryz.underlying0
  a0 := Tryz.isAgg0
  z0 := Tryz.sizeOf0
  v0 := Tryz.zeroValue0
  t4 := Tryz.underlying4
  a4 := Tryz.isAgg4
  z4 := Tryz.sizeOf4
  v4 := Tryz.zeroValue4
  t23 := Tryz.underlying104
  a23 := Tryz.isAgg104
  z23 := Tryz.sizeOf104
  v23 := Tryz.zeroValue104
  t26 := Tryz.underlying9
  a26 := Tryz.isAgg9
  z26 := Tryz.sizeOf9
  v26 := Tryz.zeroValue9
  t27 := Tryz.underlying196
  a27 := Tryz.isAgg196
  z27 := Tryz.sizeOf196
  v27 := Tryz.zeroValue196
  t28 := Tryz.underlying197
  a28 := Tryz.isAgg197
  z28 := Tryz.sizeOf197
  v28 := Tryz.zeroValue197
  t33 := Tryz.underlying201
  a33 := Tryz.isAgg201
  z33 := Tryz.sizeOf201
  v33 := Tryz.zeroValue201 }
def Tryz.sorted91_ren : Go.Shelf.Ren := ⟨fun | 6 => 91 | 8 => 142 | 9 => 143 | 11 => 204 | 13 => 206 | 12 => 205 | 23 => 267 | 24 => 268 | 14 => 258 | 15 => 259 | 16 => 260 | 17 => 261 | 18 => 262 | 19 => 263 | 20 => 264 | 21 => 265 | 22 => 266 | 25 => 335 | 26 => 336 | 27 => 337 | 28 => 338 | 29 => 339 | 30 => 273 | 31 => 368 | n => n, fun | 26 => 9 | 28 => 197 | 24 => 132 | 0 => 0 | 3 => 3 | 37 => 350 | 48 => 398 | 50 => 433 | 4 => 4 | 40 => 426 | 39 => 425 | 45 => 254 | 5 => 5 | 9 => 9 | 51 => 483 | 55 => 274 | 57 => 520 | 58 => 521 | 33 => 201 | n => n, fun | n => n⟩
theorem Tryz.sorted91 : Go.Proofs.SlLaysZ.n6 Tryz.prog Tryz.sorted91_ren := {
  mixed := by kernel_rfl
  f6 := ⟨Tryz.f91.name, by decide, Tryz.func91.trans (congrArg some (by kernel_rfl))⟩
  f8 := ⟨Tryz.f142.name, by decide, Tryz.func142.trans (congrArg some (by kernel_rfl))⟩
  f11 := ⟨Tryz.f204.name, by decide, Tryz.func204.trans (congrArg some (by kernel_rfl))⟩
  t0 := Tryz.underlying0
  a0 := Tryz.isAgg0
  z0 := Tryz.sizeOf0
  v0 := Tryz.zeroValue0
  t24 := Tryz.underlying132
  a24 := Tryz.isAgg132
  z24 := Tryz.sizeOf132
  v24 := Tryz.zeroValue132
  t26 := Tryz.underlying9
  a26 := Tryz.isAgg9
  z26 := Tryz.sizeOf9
  v26 := Tryz.zeroValue9
  t28 := Tryz.underlying197
  a28 := Tryz.isAgg197
  z28 := Tryz.sizeOf197
  v28 := Tryz.zeroValue197
  i26 := by kernel_rfl }
def Tryz.sort143_ren : Go.Shelf.Ren := ⟨fun | 6 => 143 | 8 => 206 | 9 => 205 | 19 => 267 | 20 => 268 | 21 => 258 | 22 => 259 | 23 => 260 | 24 => 261 | 25 => 262 | 26 => 263 | 27 => 264 | 28 => 265 | 29 => 266 | 36 => 335 | 31 => 336 | 32 => 337 | 37 => 338 | 38 => 339 | 39 => 273 | 41 => 368 | n => n, fun | 27 => 132 | 29 => 9 | 3 => 3 | 32 => 350 | 26 => 132 | 0 => 0 | 44 => 398 | 46 => 433 | 4 => 4 | 36 => 426 | 35 => 425 | 41 => 254 | 5 => 5 | 9 => 9 | 53 => 483 | 57 => 274 | 63 => 520 | 64 => 521 | n => n, fun | n => n⟩
theorem Tryz.sort143 : Go.Proofs.SlLaysM.n6 Tryz.prog Tryz.sort143_ren := {
  mixed := by kernel_rfl
  f6 := ⟨Tryz.f143.name, by decide, Tryz.func143.trans (congrArg some (by kernel_rfl))⟩
  f8 := Tryz.func206.trans (congrArg some (by kernel_rfl))
  f9 := ⟨Tryz.f205.name, by decide, Tryz.func205.trans (congrArg some (by kernel_rfl))⟩
  f19 := Tryz.func267.trans (congrArg some (by kernel_rfl))
  f20 := Tryz.func268.trans (congrArg some (by kernel_rfl))
  f21 := ⟨Tryz.f258.name, by decide, Tryz.func258.trans (congrArg some (by kernel_rfl))⟩
  f22 := ⟨Tryz.f259.name, by decide, Tryz.func259.trans (congrArg some (by kernel_rfl))⟩
  f23 := ⟨Tryz.f260.name, by decide, Tryz.func260.trans (congrArg some (by kernel_rfl))⟩
  f24 := ⟨Tryz.f261.name, by decide, Tryz.func261.trans (congrArg some (by kernel_rfl))⟩
  f25 := ⟨Tryz.f262.name, by decide, Tryz.func262.trans (congrArg some (by kernel_rfl))⟩
  f26 := ⟨Tryz.f263.name, by decide, Tryz.func263.trans (congrArg some (by kernel_rfl))⟩
  f27 := ⟨Tryz.f264.name, by decide, Tryz.func264.trans (congrArg some (by kernel_rfl))⟩
  f28 := ⟨Tryz.f265.name, by decide, Tryz.func265.trans (congrArg some (by kernel_rfl))⟩
  f29 := ⟨Tryz.f266.name, by decide, Tryz.func266.trans (congrArg some (by kernel_rfl))⟩
  f31 := Tryz.func336.trans (congrArg some (by kernel_rfl))
  f32 := Tryz.func337.trans (congrArg some (by kernel_rfl))
  f36 := ⟨Tryz.f335.name, by decide, Tryz.func335.trans (congrArg some (by kernel_rfl))⟩
  f37 := ⟨Tryz.f338.name, by decide, Tryz.func338.trans (congrArg some (by kernel_rfl))⟩
  f38 := ⟨Tryz.f339.name, by decide, Tryz.func339.trans (congrArg some (by kernel_rfl))⟩
  f39 := ⟨Tryz.f273.name, by decide, Tryz.func273.trans (congrArg some (by kernel_rfl))⟩
  f41 := ⟨Tryz.f368.name, by decide, Tryz.func368.trans (congrArg some (by kernel_rfl))⟩
  t0 := Tryz.underlying0
  a0 := Tryz.isAgg0
  z0 := Tryz.sizeOf0
  v0 := Tryz.zeroValue0
  t3 := Tryz.underlying3
  a3 := Tryz.isAgg3
  z3 := Tryz.sizeOf3
  v3 := Tryz.zeroValue3
  t4 := Tryz.underlying4
  a4 := Tryz.isAgg4
  z4 := Tryz.sizeOf4
  v4 := Tryz.zeroValue4
  t5 := Tryz.underlying5
  a5 := Tryz.isAgg5
  z5 := Tryz.sizeOf5
  v5 := Tryz.zeroValue5
  t9 := Tryz.underlying9
  a9 := Tryz.isAgg9
  z9 := Tryz.sizeOf9
  v9 := Tryz.zeroValue9
  t26 := Tryz.underlying132
  a26 := Tryz.isAgg132
  z26 := Tryz.sizeOf132
  v26 := Tryz.zeroValue132
  t27 := Tryz.underlying132
  a27 := Tryz.isAgg132
  z27 := Tryz.sizeOf132
  v27 := Tryz.zeroValue132
  t29 := Tryz.underlying9
  a29 := Tryz.isAgg9
  z29 := Tryz.sizeOf9
  v29 := Tryz.zeroValue9
  t32 := Tryz.underlying350
  a32 := Tryz.isAgg350
  z32 := Tryz.sizeOf350
  v32 := Tryz.zeroValue350
  t35 := Tryz.underlying425
  a35 := Tryz.isAgg425
  z35 := Tryz.sizeOf425
  v35 := Tryz.zeroValue425
  t36 := Tryz.underlying426
  a36 := Tryz.isAgg426
  z36 := Tryz.sizeOf426
  v36 := Tryz.zeroValue426
  t41 := Tryz.underlying254
  a41 := Tryz.isAgg254
  z41 := Tryz.sizeOf254
  v41 := Tryz.zeroValue254
  t44 := Tryz.underlying398
  a44 := Tryz.isAgg398
  z44 := Tryz.sizeOf398
  v44 := Tryz.zeroValue398
  t46 := Tryz.underlying433
  a46 := Tryz.isAgg433
  z46 := Tryz.sizeOf433
  v46 := Tryz.zeroValue433
  t53 := Tryz.underlying483
  a53 := Tryz.isAgg483
  z53 := Tryz.sizeOf483
  v53 := Tryz.zeroValue483
  t57 := Tryz.underlying274
  a57 := Tryz.isAgg274
  z57 := Tryz.sizeOf274
  v57 := Tryz.zeroValue274
  t63 := Tryz.underlying520
  a63 := Tryz.isAgg520
  z63 := Tryz.sizeOf520
  v63 := Tryz.zeroValue520
  t64 := Tryz.underlying521
  a64 := Tryz.isAgg521
  z64 := Tryz.sizeOf521
  v64 := Tryz.zeroValue521 }
open Go.RowKit Go.Maps Go.Sort in
/-- slices.Sort's two contracts at this dump, at the fence that asks nothing. -/
theorem Tryz.sorts91 (m : Nat) : AnyZ.SortsIn Tryz.prog Tryz.sorted91_ren Fence.wide m :=
  ⟨fun blk off cap ss W hH hblk hsz => callsIn_wide.2 (AnyM.slices_Sort_string Tryz.sort143 blk off cap ss W hH hblk hsz),
   fun p cap W => callsIn_wide.2 (AnyM.slices_Sort_string_none Tryz.sort143 p cap W)⟩
open Go.RowKit Go.Maps Go.Sort in
/-- **maps.Keys[map[string]*satchel/disk.file,string,*satchel/disk.file], at whatever map, the nil one too:** a function value over ONE NEW BLOCK, which holds the map. -/
theorem Tryz.maps_Keys_92 (mb : Option Nat) (W : World) : CallsIn Fence.wide 5 Tryz.prog 92 #[.map mb] W fun e w' => e = .returned (.func (.func 144) #[] #[.pointer (some ⟨W.heap.size, 0, none⟩)]) ∧ w' = W.alloc (.cells #[.map mb] 104) :=
  AnyZ.keys_in Tryz.keys92 Fence.wide 5 trivial rfl mb W
open Go.RowKit Go.Maps Go.Sort in
/-- **slices.Sorted[string] AT WHAT maps.Keys[map[string]*satchel/disk.file,string,*satchel/disk.file] HANDED BACK FOR A MAP THAT IS NOT nil** ('w': the world AHEAD of maps.Keys' call): A NEW SLICE THAT HOLDS THE MAP's KEYS, SORTED; nil just where it has none; nothing that lay before has turned. -/
theorem Tryz.slices_Sorted_keys_91_92 {H : Type} (b nn : Nat) (D0 : DataW H) (R : Value → Option (DataW H × List MemPlace)) (w : World) (hown : w.ownsMap Tryz.prog 9 R b nn D0) (hmax : Maps.size D0 ≤ maxLen) (hbytes : Maps.size D0 * 16 ≤ 140737488355328) :
    CallsIn Fence.wide 5 Tryz.prog 91 #[.func (.func 144) #[] #[.pointer (some ⟨w.heap.size, 0, none⟩)]] (w.alloc (.cells #[.map (some b)] 104)) fun e w' => ∃ (v : Value) (ss : List (List UInt8)), e = .returned v ∧ ss.Perm (strKeys D0) ∧
      w'.ownsRow (w.alloc (.cells #[.map (some b)] 104)).heap.size 9 1 v ss.length ((ss.mergeSort (fun x y => decide (x ≤ y))).map encStr) ∧ (v = .slice none 0 0 ↔ ss = []) ∧ Below (w.alloc (.cells #[.map (some b)] 104)).heap.size (w.alloc (.cells #[.map (some b)] 104)) w' := by
  have hbl := hown.lt
  have hseq : SeqGives Fence.wide 2 Tryz.prog 144 #[.pointer (some ⟨w.heap.size, 0, none⟩)] encStr (fun ss => ss.Perm (strKeys D0)) (Maps.size D0) (w.alloc (.cells #[.map (some b)] 104)) :=
    AnyZ.keys_gives (ρ := Tryz.keys92_ren) { Tryz.keys92 with } Fence.wide _ trivial rfl (by omega) w.heap.size b nn D0 _ (by simp) (by simp) (by
      obtain ⟨es, clock, hb, Ft, hs, hD⟩ := hown
      exact ⟨es, clock, (Below.heap_alloc _ _ b hbl).trans hb, Ft, hs, hD⟩)
  exact AnyZ.sorted_in Tryz.sorted91 Fence.wide 5 trivial trivial trivial trivial rfl (by omega) (Tryz.sorts91 _) (enters_of Tryz.func143 (by kernel_rfl) rfl) 144 #[.pointer (some ⟨w.heap.size, 0, none⟩)] trivial (enters_of Tryz.func144 (by kernel_rfl) rfl) _ _ hmax hbytes _ hseq
open Go.RowKit Go.Maps Go.Sort in
/-- **.. AND FOR THE nil MAP: nil.** -/
theorem Tryz.slices_Sorted_keys_nil_91_92 (w : World) :
    CallsIn Fence.wide 5 Tryz.prog 91 #[.func (.func 144) #[] #[.pointer (some ⟨w.heap.size, 0, none⟩)]] (w.alloc (.cells #[.map none] 104)) fun e w' => ∃ (v : Value) (ss : List (List UInt8)), e = .returned v ∧ ss = [] ∧
      w'.ownsRow (w.alloc (.cells #[.map none] 104)).heap.size 9 1 v ss.length ((ss.mergeSort (fun x y => decide (x ≤ y))).map encStr) ∧ (v = .slice none 0 0 ↔ ss = []) ∧ Below (w.alloc (.cells #[.map none] 104)).heap.size (w.alloc (.cells #[.map none] 104)) w' := by
  have hseq : SeqGives Fence.wide 2 Tryz.prog 144 #[.pointer (some ⟨w.heap.size, 0, none⟩)] encStr (fun ss : List (List UInt8) => ss = []) 0 (w.alloc (.cells #[.map none] 104)) :=
    AnyZ.keys_gives_nil (ρ := Tryz.keys92_ren) { Tryz.keys92 with } Fence.wide _ trivial rfl w.heap.size _ (by simp) (by simp)
  exact AnyZ.sorted_in Tryz.sorted91 Fence.wide 5 trivial trivial trivial trivial rfl (by omega) (Tryz.sorts91 _) (enters_of Tryz.func143 (by kernel_rfl) rfl) 144 #[.pointer (some ⟨w.heap.size, 0, none⟩)] trivial (enters_of Tryz.func144 (by kernel_rfl) rfl) _ 0 (Nat.zero_le _) (by omega) _ hseq
def Tryz.sorted120_ren : Go.Shelf.Ren := ⟨fun | 6 => 120 | 8 => 170 | 9 => 171 | 11 => 225 | 13 => 206 | 12 => 226 | 23 => 267 | 24 => 268 | 14 => 282 | 15 => 283 | 16 => 284 | 17 => 285 | 18 => 286 | 19 => 287 | 20 => 288 | 21 => 289 | 22 => 290 | 25 => 348 | 26 => 336 | 27 => 337 | 28 => 349 | 29 => 350 | 30 => 351 | 31 => 373 | n => n, fun | 26 => 3 | 28 => 243 | 24 => 41 | 0 => 0 | 3 => 3 | 37 => 350 | 48 => 398 | 50 => 433 | 4 => 4 | 40 => 426 | 39 => 425 | 45 => 254 | 5 => 5 | 9 => 9 | 51 => 483 | 55 => 274 | 57 => 520 | 58 => 521 | 33 => 44 | n => n, fun | n => n⟩
theorem Tryz.sorted120 : Go.Proofs.SlLaysZI.n6 Tryz.prog Tryz.sorted120_ren := {
  mixed := by kernel_rfl
  f6 := ⟨Tryz.f120.name, by decide, Tryz.func120.trans (congrArg some (by kernel_rfl))⟩
  f8 := ⟨Tryz.f170.name, by decide, Tryz.func170.trans (congrArg some (by kernel_rfl))⟩
  f11 := ⟨Tryz.f225.name, by decide, Tryz.func225.trans (congrArg some (by kernel_rfl))⟩
  t0 := Tryz.underlying0
  a0 := Tryz.isAgg0
  z0 := Tryz.sizeOf0
  v0 := Tryz.zeroValue0
  t24 := Tryz.underlying41
  a24 := Tryz.isAgg41
  z24 := Tryz.sizeOf41
  v24 := Tryz.zeroValue41
  t26 := Tryz.underlying3
  a26 := Tryz.isAgg3
  z26 := Tryz.sizeOf3
  v26 := Tryz.zeroValue3
  t28 := Tryz.underlying243
  a28 := Tryz.isAgg243
  z28 := Tryz.sizeOf243
  v28 := Tryz.zeroValue243
  i26 := by kernel_rfl }
def Tryz.sort171_ren : Go.Shelf.Ren := ⟨fun | 5 => 171 | 8 => 206 | 7 => 226 | 19 => 267 | 20 => 268 | 10 => 282 | 11 => 283 | 12 => 284 | 13 => 285 | 14 => 286 | 15 => 287 | 16 => 288 | 17 => 289 | 18 => 290 | 30 => 348 | 31 => 336 | 32 => 337 | 33 => 349 | 34 => 350 | 35 => 351 | 40 => 373 | n => n, fun | 23 => 41 | 25 => 3 | 3 => 3 | 32 => 350 | 22 => 41 | 0 => 0 | 44 => 398 | 46 => 433 | 4 => 4 | 36 => 426 | 35 => 425 | 41 => 254 | 5 => 5 | 9 => 9 | 53 => 483 | 57 => 274 | 63 => 520 | 64 => 521 | n => n, fun | n => n⟩
theorem Tryz.sort171 : Go.Proofs.SlLaysM.n5 Tryz.prog Tryz.sort171_ren := {
  mixed := by kernel_rfl
  f5 := ⟨Tryz.f171.name, by decide, Tryz.func171.trans (congrArg some (by kernel_rfl))⟩
  f7 := ⟨Tryz.f226.name, by decide, Tryz.func226.trans (congrArg some (by kernel_rfl))⟩
  f8 := Tryz.func206.trans (congrArg some (by kernel_rfl))
  f10 := ⟨Tryz.f282.name, by decide, Tryz.func282.trans (congrArg some (by kernel_rfl))⟩
  f11 := ⟨Tryz.f283.name, by decide, Tryz.func283.trans (congrArg some (by kernel_rfl))⟩
  f12 := ⟨Tryz.f284.name, by decide, Tryz.func284.trans (congrArg some (by kernel_rfl))⟩
  f13 := ⟨Tryz.f285.name, by decide, Tryz.func285.trans (congrArg some (by kernel_rfl))⟩
  f14 := ⟨Tryz.f286.name, by decide, Tryz.func286.trans (congrArg some (by kernel_rfl))⟩
  f15 := ⟨Tryz.f287.name, by decide, Tryz.func287.trans (congrArg some (by kernel_rfl))⟩
  f16 := ⟨Tryz.f288.name, by decide, Tryz.func288.trans (congrArg some (by kernel_rfl))⟩
  f17 := ⟨Tryz.f289.name, by decide, Tryz.func289.trans (congrArg some (by kernel_rfl))⟩
  f18 := ⟨Tryz.f290.name, by decide, Tryz.func290.trans (congrArg some (by kernel_rfl))⟩
  f19 := Tryz.func267.trans (congrArg some (by kernel_rfl))
  f20 := Tryz.func268.trans (congrArg some (by kernel_rfl))
  f30 := ⟨Tryz.f348.name, by decide, Tryz.func348.trans (congrArg some (by kernel_rfl))⟩
  f31 := Tryz.func336.trans (congrArg some (by kernel_rfl))
  f32 := Tryz.func337.trans (congrArg some (by kernel_rfl))
  f33 := ⟨Tryz.f349.name, by decide, Tryz.func349.trans (congrArg some (by kernel_rfl))⟩
  f34 := ⟨Tryz.f350.name, by decide, Tryz.func350.trans (congrArg some (by kernel_rfl))⟩
  f35 := ⟨Tryz.f351.name, by decide, Tryz.func351.trans (congrArg some (by kernel_rfl))⟩
  f40 := ⟨Tryz.f373.name, by decide, Tryz.func373.trans (congrArg some (by kernel_rfl))⟩
  t0 := Tryz.underlying0
  a0 := Tryz.isAgg0
  z0 := Tryz.sizeOf0
  v0 := Tryz.zeroValue0
  t3 := Tryz.underlying3
  a3 := Tryz.isAgg3
  z3 := Tryz.sizeOf3
  v3 := Tryz.zeroValue3
  t4 := Tryz.underlying4
  a4 := Tryz.isAgg4
  z4 := Tryz.sizeOf4
  v4 := Tryz.zeroValue4
  t5 := Tryz.underlying5
  a5 := Tryz.isAgg5
  z5 := Tryz.sizeOf5
  v5 := Tryz.zeroValue5
  t9 := Tryz.underlying9
  a9 := Tryz.isAgg9
  z9 := Tryz.sizeOf9
  v9 := Tryz.zeroValue9
  t22 := Tryz.underlying41
  a22 := Tryz.isAgg41
  z22 := Tryz.sizeOf41
  v22 := Tryz.zeroValue41
  t23 := Tryz.underlying41
  a23 := Tryz.isAgg41
  z23 := Tryz.sizeOf41
  v23 := Tryz.zeroValue41
  t25 := Tryz.underlying3
  a25 := Tryz.isAgg3
  z25 := Tryz.sizeOf3
  v25 := Tryz.zeroValue3
  t32 := Tryz.underlying350
  a32 := Tryz.isAgg350
  z32 := Tryz.sizeOf350
  v32 := Tryz.zeroValue350
  t35 := Tryz.underlying425
  a35 := Tryz.isAgg425
  z35 := Tryz.sizeOf425
  v35 := Tryz.zeroValue425
  t36 := Tryz.underlying426
  a36 := Tryz.isAgg426
  z36 := Tryz.sizeOf426
  v36 := Tryz.zeroValue426
  t41 := Tryz.underlying254
  a41 := Tryz.isAgg254
  z41 := Tryz.sizeOf254
  v41 := Tryz.zeroValue254
  t44 := Tryz.underlying398
  a44 := Tryz.isAgg398
  z44 := Tryz.sizeOf398
  v44 := Tryz.zeroValue398
  t46 := Tryz.underlying433
  a46 := Tryz.isAgg433
  z46 := Tryz.sizeOf433
  v46 := Tryz.zeroValue433
  t53 := Tryz.underlying483
  a53 := Tryz.isAgg483
  z53 := Tryz.sizeOf483
  v53 := Tryz.zeroValue483
  t57 := Tryz.underlying274
  a57 := Tryz.isAgg274
  z57 := Tryz.sizeOf274
  v57 := Tryz.zeroValue274
  t63 := Tryz.underlying520
  a63 := Tryz.isAgg520
  z63 := Tryz.sizeOf520
  v63 := Tryz.zeroValue520
  t64 := Tryz.underlying521
  a64 := Tryz.isAgg521
  z64 := Tryz.sizeOf521
  v64 := Tryz.zeroValue521 }
open Go.RowKit Go.Maps Go.Sort in
/-- slices.Sort's two contracts at this dump, at the fence that asks nothing. -/
theorem Tryz.sorts120 (m : Nat) : AnyZI.SortsIn Tryz.prog Tryz.sorted120_ren Fence.wide m :=
  ⟨fun blk off cap ss W hH hblk hsz => callsIn_wide.2 (AnyM.slices_Sort_int Tryz.sort171 blk off cap ss W hH hblk hsz),
   fun p cap W => callsIn_wide.2 (AnyM.slices_Sort_int_none Tryz.sort171 p cap W)⟩
def Tryz.keys121_ren : Go.Shelf.Ren := ⟨fun | 7 => 121 | 10 => 172 | n => n, fun | 23 => 215 | 26 => 3 | 3 => 105 | 28 => 243 | 0 => 0 | 27 => 242 | 33 => 44 | 4 => 4 | n => n, fun | n => n⟩
theorem Tryz.keys121 : Go.Proofs.SlLaysZI.n7 Tryz.prog Tryz.keys121_ren := {
  mixed := by kernel_rfl
  f7 := ⟨Tryz.f121.name, by decide, Tryz.func121.trans (congrArg some (by kernel_rfl))⟩
  f10 := ⟨Tryz.f172.name, by decide, Tryz.func172.trans (congrArg some (by kernel_rfl))⟩
  t0 := Tryz.underlying0
  a0 := Tryz.isAgg0
  z0 := Tryz.sizeOf0
  v0 := Tryz.zeroValue0
  t4 := Tryz.underlying4
  a4 := Tryz.isAgg4
  z4 := Tryz.sizeOf4
  v4 := Tryz.zeroValue4
  t23 := Tryz.underlying215
  a23 := Tryz.isAgg215
  z23 := Tryz.sizeOf215
  v23 := Tryz.zeroValue215
  t26 := Tryz.underlying3
  a26 := Tryz.isAgg3
  z26 := Tryz.sizeOf3
  v26 := Tryz.zeroValue3
  t27 := Tryz.underlying242
  a27 := Tryz.isAgg242
  z27 := Tryz.sizeOf242
  v27 := Tryz.zeroValue242
  t28 := Tryz.underlying243
  a28 := Tryz.isAgg243
  z28 := Tryz.sizeOf243
  v28 := Tryz.zeroValue243
  t33 := Tryz.underlying44
  a33 := Tryz.isAgg44
  z33 := Tryz.sizeOf44
  v33 := Tryz.zeroValue44 }
open Go.RowKit Go.Maps Go.Sort in
/-- maps.Keys, at whatever map: a function value over one new block. -/
theorem Tryz.maps_Keys_121 (mb : Option Nat) (W : World) : CallsIn Fence.wide 5 Tryz.prog 121 #[.map mb] W fun e w' => e = .returned (.func (.func 172) #[] #[.pointer (some ⟨W.heap.size, 0, none⟩)]) ∧ w' = W.alloc (.cells #[.map mb] 215) :=
  AnyZI.keys_in Tryz.keys121 Fence.wide 5 trivial rfl mb W
def Tryz.keys426_ren : Go.Shelf.Ren := ⟨fun | 7 => 426 | 10 => 440 | n => n, fun | 23 => 137 | 26 => 3 | 3 => 140 | 28 => 243 | 0 => 0 | 27 => 242 | 33 => 44 | 4 => 4 | n => n, fun | n => n⟩
theorem Tryz.keys426 : Go.Proofs.SlLaysZI.n7 Tryz.prog Tryz.keys426_ren := {
  mixed := by kernel_rfl
  f7 := ⟨Tryz.f426.name, by decide, Tryz.func426.trans (congrArg some (by kernel_rfl))⟩
  f10 := ⟨Tryz.f440.name, by decide, Tryz.func440.trans (congrArg some (by kernel_rfl))⟩
  t0 := Tryz.underlying0
  a0 := Tryz.isAgg0
  z0 := Tryz.sizeOf0
  v0 := Tryz.zeroValue0
  t4 := Tryz.underlying4
  a4 := Tryz.isAgg4
  z4 := Tryz.sizeOf4
  v4 := Tryz.zeroValue4
  t23 := Tryz.underlying137
  a23 := Tryz.isAgg137
  z23 := Tryz.sizeOf137
  v23 := Tryz.zeroValue137
  t26 := Tryz.underlying3
  a26 := Tryz.isAgg3
  z26 := Tryz.sizeOf3
  v26 := Tryz.zeroValue3
  t27 := Tryz.underlying242
  a27 := Tryz.isAgg242
  z27 := Tryz.sizeOf242
  v27 := Tryz.zeroValue242
  t28 := Tryz.underlying243
  a28 := Tryz.isAgg243
  z28 := Tryz.sizeOf243
  v28 := Tryz.zeroValue243
  t33 := Tryz.underlying44
  a33 := Tryz.isAgg44
  z33 := Tryz.sizeOf44
  v33 := Tryz.zeroValue44 }
open Go.RowKit Go.Maps Go.Sort in
/-- maps.Keys, at whatever map: a function value over one new block. -/
theorem Tryz.maps_Keys_426 (mb : Option Nat) (W : World) : CallsIn Fence.wide 5 Tryz.prog 426 #[.map mb] W fun e w' => e = .returned (.func (.func 440) #[] #[.pointer (some ⟨W.heap.size, 0, none⟩)]) ∧ w' = W.alloc (.cells #[.map mb] 137) :=
  AnyZI.keys_in Tryz.keys426 Fence.wide 5 trivial rfl mb W
end Go.Proofs
