import Derived.Shelf.SlIter.Nil
import Derived.Shelf.SortM.Plain
import Derived.Shelf.SortM.SortNone
import Derived.Ground.GgzProg
import Derived.Ground.SlgmProg
import Derived.Test.YtchnfdaebboaeaaGreatDoorProg
import Derived.Test.YtchnfdaebboaeaaGreatDoorSFl11
namespace Go.Proofs
open Go.Shelf
def Tryz.keys109_ren : Go.Shelf.Ren := ⟨fun | 7 => 109 | 10 => 146 | n => n, fun | 23 => 112 | 26 => 9 | 3 => 111 | 28 => 167 | 0 => 0 | 27 => 166 | 33 => 102 | 4 => 4 | n => n, fun | n => n⟩
theorem Tryz.keys109 : Go.Proofs.SlLaysZ.n7 Tryz.prog Tryz.keys109_ren := {
 mixed := by kernel_rfl
 f7 := ⟨Tryz.f109.name, by decide, Tryz.func109.trans (congrArg some (by kernel_rfl))⟩
 f10 := ⟨Tryz.f146.name, by decide, Tryz.func146.trans (congrArg some (by kernel_rfl))⟩
 t0 := Tryz.underlying0
 a0 := Tryz.isAgg0
 z0 := Tryz.sizeOf0
 v0 := Tryz.zeroValue0
 t4 := Tryz.underlying4
 a4 := Tryz.isAgg4
 z4 := Tryz.sizeOf4
 v4 := Tryz.zeroValue4
 t23 := Tryz.underlying112
 a23 := Tryz.isAgg112
 z23 := Tryz.sizeOf112
 v23 := Tryz.zeroValue112
 t26 := Tryz.underlying9
 a26 := Tryz.isAgg9
 z26 := Tryz.sizeOf9
 v26 := Tryz.zeroValue9
 t27 := Tryz.underlying166
 a27 := Tryz.isAgg166
 z27 := Tryz.sizeOf166
 v27 := Tryz.zeroValue166
 t28 := Tryz.underlying167
 a28 := Tryz.isAgg167
 z28 := Tryz.sizeOf167
 v28 := Tryz.zeroValue167
 t33 := Tryz.underlying102
 a33 := Tryz.isAgg102
 z33 := Tryz.sizeOf102
 v33 := Tryz.zeroValue102 }
def Tryz.sorted108_ren : Go.Shelf.Ren := ⟨fun | 6 => 108 | 8 => 144 | 9 => 145 | 11 => 175 | 13 => 153 | 12 => 176 | 23 => 187 | 24 => 188 | 14 => 209 | 15 => 210 | 16 => 211 | 17 => 212 | 18 => 213 | 19 => 214 | 20 => 215 | 21 => 216 | 22 => 217 | 25 => 237 | 26 => 223 | 27 => 224 | 28 => 238 | 29 => 239 | 30 => 117 | 31 => 247 | n => n, fun | 26 => 9 | 28 => 167 | 24 => 128 | 0 => 0 | 3 => 3 | 37 => 207 | 48 => 199 | 50 => 246 | 4 => 4 | 40 => 238 | 39 => 237 | 45 => 82 | 5 => 5 | 9 => 9 | 51 => 267 | 55 => 271 | 57 => 286 | 58 => 287 | 33 => 102 | n => n, fun | n => n⟩
theorem Tryz.sorted108 : Go.Proofs.SlLaysZ.n6 Tryz.prog Tryz.sorted108_ren := {
 mixed := by kernel_rfl
 f6 := ⟨Tryz.f108.name, by decide, Tryz.func108.trans (congrArg some (by kernel_rfl))⟩
 f8 := ⟨Tryz.f144.name, by decide, Tryz.func144.trans (congrArg some (by kernel_rfl))⟩
 f11 := ⟨Tryz.f175.name, by decide, Tryz.func175.trans (congrArg some (by kernel_rfl))⟩
 t0 := Tryz.underlying0
 a0 := Tryz.isAgg0
 z0 := Tryz.sizeOf0
 v0 := Tryz.zeroValue0
 t24 := Tryz.underlying128
 a24 := Tryz.isAgg128
 z24 := Tryz.sizeOf128
 v24 := Tryz.zeroValue128
 t26 := Tryz.underlying9
 a26 := Tryz.isAgg9
 z26 := Tryz.sizeOf9
 v26 := Tryz.zeroValue9
 t28 := Tryz.underlying167
 a28 := Tryz.isAgg167
 z28 := Tryz.sizeOf167
 v28 := Tryz.zeroValue167
 i26 := by kernel_rfl }
def Tryz.sort145_ren : Go.Shelf.Ren := ⟨fun | 6 => 145 | 8 => 153 | 9 => 176 | 19 => 187 | 20 => 188 | 21 => 209 | 22 => 210 | 23 => 211 | 24 => 212 | 25 => 213 | 26 => 214 | 27 => 215 | 28 => 216 | 29 => 217 | 36 => 237 | 31 => 223 | 32 => 224 | 37 => 238 | 38 => 239 | 39 => 117 | 41 => 247 | n => n, fun | 27 => 128 | 29 => 9 | 3 => 3 | 32 => 207 | 26 => 128 | 0 => 0 | 44 => 199 | 46 => 246 | 4 => 4 | 36 => 238 | 35 => 237 | 41 => 82 | 5 => 5 | 9 => 9 | 53 => 267 | 57 => 271 | 63 => 286 | 64 => 287 | n => n, fun | n => n⟩
theorem Tryz.sort145 : Go.Proofs.SlLaysM.n6 Tryz.prog Tryz.sort145_ren := {
 mixed := by kernel_rfl
 f6 := ⟨Tryz.f145.name, by decide, Tryz.func145.trans (congrArg some (by kernel_rfl))⟩
 f8 := Tryz.func153.trans (congrArg some (by kernel_rfl))
 f9 := ⟨Tryz.f176.name, by decide, Tryz.func176.trans (congrArg some (by kernel_rfl))⟩
 f19 := Tryz.func187.trans (congrArg some (by kernel_rfl))
 f20 := Tryz.func188.trans (congrArg some (by kernel_rfl))
 f21 := ⟨Tryz.f209.name, by decide, Tryz.func209.trans (congrArg some (by kernel_rfl))⟩
 f22 := ⟨Tryz.f210.name, by decide, Tryz.func210.trans (congrArg some (by kernel_rfl))⟩
 f23 := ⟨Tryz.f211.name, by decide, Tryz.func211.trans (congrArg some (by kernel_rfl))⟩
 f24 := ⟨Tryz.f212.name, by decide, Tryz.func212.trans (congrArg some (by kernel_rfl))⟩
 f25 := ⟨Tryz.f213.name, by decide, Tryz.func213.trans (congrArg some (by kernel_rfl))⟩
 f26 := ⟨Tryz.f214.name, by decide, Tryz.func214.trans (congrArg some (by kernel_rfl))⟩
 f27 := ⟨Tryz.f215.name, by decide, Tryz.func215.trans (congrArg some (by kernel_rfl))⟩
 f28 := ⟨Tryz.f216.name, by decide, Tryz.func216.trans (congrArg some (by kernel_rfl))⟩
 f29 := ⟨Tryz.f217.name, by decide, Tryz.func217.trans (congrArg some (by kernel_rfl))⟩
 f31 := Tryz.func223.trans (congrArg some (by kernel_rfl))
 f32 := Tryz.func224.trans (congrArg some (by kernel_rfl))
 f36 := ⟨Tryz.f237.name, by decide, Tryz.func237.trans (congrArg some (by kernel_rfl))⟩
 f37 := ⟨Tryz.f238.name, by decide, Tryz.func238.trans (congrArg some (by kernel_rfl))⟩
 f38 := ⟨Tryz.f239.name, by decide, Tryz.func239.trans (congrArg some (by kernel_rfl))⟩
 f39 := ⟨Tryz.f117.name, by decide, Tryz.func117.trans (congrArg some (by kernel_rfl))⟩
 f41 := ⟨Tryz.f247.name, by decide, Tryz.func247.trans (congrArg some (by kernel_rfl))⟩
 t0 := Tryz.underlying0
 a0 := Tryz.isAgg0
 z0 := Tryz.sizeOf0
 v0 := Tryz.zeroValue0
 t3 := Tryz.underlying3
 a3 := Tryz.isAgg3
 z3 := Tryz.sizeOf3
 v3 := Tryz.zeroValue3
 t4 := Tryz.underlying4
 a4 := Tryz.isAgg4
 z4 := Tryz.sizeOf4
 v4 := Tryz.zeroValue4
 t5 := Tryz.underlying5
 a5 := Tryz.isAgg5
 z5 := Tryz.sizeOf5
 v5 := Tryz.zeroValue5
 t9 := Tryz.underlying9
 a9 := Tryz.isAgg9
 z9 := Tryz.sizeOf9
 v9 := Tryz.zeroValue9
 t26 := Tryz.underlying128
 a26 := Tryz.isAgg128
 z26 := Tryz.sizeOf128
 v26 := Tryz.zeroValue128
 t27 := Tryz.underlying128
 a27 := Tryz.isAgg128
 z27 := Tryz.sizeOf128
 v27 := Tryz.zeroValue128
 t29 := Tryz.underlying9
 a29 := Tryz.isAgg9
 z29 := Tryz.sizeOf9
 v29 := Tryz.zeroValue9
 t32 := Tryz.underlying207
 a32 := Tryz.isAgg207
 z32 := Tryz.sizeOf207
 v32 := Tryz.zeroValue207
 t35 := Tryz.underlying237
 a35 := Tryz.isAgg237
 z35 := Tryz.sizeOf237
 v35 := Tryz.zeroValue237
 t36 := Tryz.underlying238
 a36 := Tryz.isAgg238
 z36 := Tryz.sizeOf238
 v36 := Tryz.zeroValue238
 t41 := Tryz.underlying82
 a41 := Tryz.isAgg82
 z41 := Tryz.sizeOf82
 v41 := Tryz.zeroValue82
 t44 := Tryz.underlying199
 a44 := Tryz.isAgg199
 z44 := Tryz.sizeOf199
 v44 := Tryz.zeroValue199
 t46 := Tryz.underlying246
 a46 := Tryz.isAgg246
 z46 := Tryz.sizeOf246
 v46 := Tryz.zeroValue246
 t53 := Tryz.underlying267
 a53 := Tryz.isAgg267
 z53 := Tryz.sizeOf267
 v53 := Tryz.zeroValue267
 t57 := Tryz.underlying271
 a57 := Tryz.isAgg271
 z57 := Tryz.sizeOf271
 v57 := Tryz.zeroValue271
 t63 := Tryz.underlying286
 a63 := Tryz.isAgg286
 z63 := Tryz.sizeOf286
 v63 := Tryz.zeroValue286
 t64 := Tryz.underlying287
 a64 := Tryz.isAgg287
 z64 := Tryz.sizeOf287
 v64 := Tryz.zeroValue287 }
open Go.RowKit Go.Maps Go.Sort in
theorem Tryz.sorts108 (m : Nat) : AnyZ.SortsIn Tryz.prog Tryz.sorted108_ren Fence.wide m :=
 ⟨fun blk off cap ss W hH hblk hsz => callsIn_wide.2 (AnyM.slices_Sort_string Tryz.sort145 blk off cap ss W hH hblk hsz),
  fun p cap W => callsIn_wide.2 (AnyM.slices_Sort_string_none Tryz.sort145 p cap W)⟩
open Go.RowKit Go.Maps Go.Sort in
theorem Tryz.maps_Keys_109 (mb : Option Nat) (W : World) : CallsIn Fence.wide 5 Tryz.prog 109 #[.map mb] W fun e w' => e = .returned (.func (.func 146) #[] #[.pointer (some ⟨W.heap.size, 0, none⟩)]) ∧ w' = W.alloc (.cells #[.map mb] 112) :=
 AnyZ.keys_in Tryz.keys109 Fence.wide 5 trivial rfl mb W
end Go.Proofs
