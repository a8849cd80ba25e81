import Derived.Test.YtofanlcjeohcjaaMg14
import Derived.Test.YtofanlcjeohcjaaMg07
import Derived.KernelRfl
noncomputable section
namespace Go.Proofs.Ytofanlcjeohcjaa.Am
open Go.RowKit
def Ne_ : Nat := globOf Try.f105
def Lt_ : Code := Try.f105.body.getD .skip
theorem Qg_ : envS.fn.get 105 = some Try.f105 := by kernel_rfl
theorem Afl_ {a0 : Value} {n : Nat} {s : St} {Q : Value → St → Prop} (h : ∀ tm, T.get tm 0 = some a0 → W (runF envS n ⟨105, 5, Ne_, tm, [.code Lt_], .run, .normal, none⟩) (s.cxN cxN) fun p s1 => Q p.1 (s1.cxN s.cx)) : W (callW envS (runF envS n) 105 [a0]) s Q :=
 W.call (by kernel_rfl) (by kernel_rfl) Qg_ (by kernel_rfl) rfl rfl (by simp) (h _ (by kernel_rfl))
theorem YB_ : Try.f105.results.toList = [.tmp 2] := by kernel_rfl
def JC_ : List Item := skim 64 [.code Lt_]
def Gl_ : List Item := skim 64 JC_.tail
theorem Xh_ : skim 64 JC_.tail = Gl_ := by kernel_rfl
def Kz_ : List Item := skim 64 Gl_.tail
theorem Wx_ : skim 64 Gl_.tail = Kz_ := by kernel_rfl
def QV_ (E : Env) (call round : CallT) (tm : T Value) : M (T Value) :=
  mv (some (.int .u32 0)) fun v2 =>
  setF 2 v2 tm fun tm1 =>
  M.pure tm1
theorem Aeg_ : RegEq 105 5 Ne_ JC_ QV_ := ⟨by kernel_rfl, fun _ _ _ _ _ _ _ _ _ => by kernel_rfl⟩
def Qi_ (E : Env) (call round : CallT) (tm : T Value) : M (T Value) :=
  mv (T.get tm 0) fun v3 =>
  M.bind (M.on (some (.func (.func 130) #[] #[])) fun f => M.on (seqO [(some (.int .u32 0)), (some v3)]) fun l => callV call round f l) fun v4 =>
  mv (some v4) fun v2 =>
  setF 2 v2 tm fun tm1 =>
  M.pure tm1
theorem Abd_ : RegEq 105 5 Ne_ Gl_ Qi_ := ⟨by kernel_rfl, fun _ _ _ _ _ _ _ _ _ => by kernel_rfl⟩
theorem AdH_ : ∃ k, Kz_ = .code .ret :: k := ⟨Kz_.tail, by kernel_rfl⟩
def HM_ : Nat := globOf Try.f64
def LN_ : Code := Try.f64.body.getD .skip
theorem Ro_ : envS.fn.get 64 = some Try.f64 := by kernel_rfl
theorem Aex_ {a0 : Value} {n : Nat} {s : St} {Q : Value → St → Prop} (h : ∀ tm, T.get tm 0 = some a0 → W (runF envS n ⟨64, 21, HM_, tm, [.code LN_], .run, .normal, none⟩) (s.cxN cxN) fun p s1 => Q p.1 (s1.cxN s.cx)) : W (callW envS (runF envS n) 64 [a0]) s Q :=
 W.call (by kernel_rfl) (by kernel_rfl) Ro_ (by kernel_rfl) rfl rfl (by simp) (h _ (by kernel_rfl))
theorem AaN_ : Try.f64.results.toList = [.tmp 2] := by kernel_rfl
def Je_ : List Item := skim 64 [.code LN_]
def Gx_ : List Item := skim 64 Je_.tail
theorem Xb_ : skim 64 Je_.tail = Gx_ := by kernel_rfl
def Gh_ : List Item := skim 64 Gx_.tail
theorem WU_ : skim 64 Gx_.tail = Gh_ := by kernel_rfl
def Kj_ : List Item := skim 64 Gh_.tail
theorem VX_ : skim 64 Gh_.tail = Kj_ := by kernel_rfl
def Rl_ (E : Env) (call round : CallT) (tm : T Value) : M (T Value) :=
  mv (some (.slice none 0 0)) fun v2 =>
  setF 2 v2 tm fun tm1 =>
  M.pure tm1
theorem Acs_ : RegEq 64 21 HM_ Je_ Rl_ := ⟨by kernel_rfl, fun _ _ _ _ _ _ _ _ _ => by kernel_rfl⟩
def Rb_ (E : Env) (call round : CallT) (tm : T Value) : M (T Value) :=
  mv (T.get tm 0) fun v4 =>
  M.bind (M.on (some (.func (.func 105) #[] #[])) fun f => M.on (seqO [(some v4)]) fun l => callV call round f l) fun v5 =>
  mv (some v5) fun v3 =>
  setF 3 v3 tm fun tm1 =>
  M.pure tm1
theorem AbP_ : RegEq 64 21 HM_ Gx_ Rb_ := ⟨by kernel_rfl, fun _ _ _ _ _ _ _ _ _ => by kernel_rfl⟩
def PT_ (E : Env) (call round : CallT) (tm : T Value) : M (T Value) :=
  mv (T.get tm 0) fun v6 =>
  mv (T.get tm 3) fun v7 =>
  M.bind (oS (some v7) fun a => kConvB E 51 5 a) fun v8 =>
  mv (T.get tm 3) fun v9 =>
  M.bind (oS (some v9) fun a => oS (some (.int .u64 8)) fun b => Cl.get (aBin E .shr 51 (.tmp 9) (.const (.int .u64 8))) a b) fun v10 =>
  M.bind (oS (some v10) fun a => kConvB E 51 5 a) fun v11 =>
  mv (T.get tm 3) fun v12 =>
  M.bind (oS (some v12) fun a => oS (some (.int .u64 16)) fun b => Cl.get (aBin E .shr 51 (.tmp 12) (.const (.int .u64 16))) a b) fun v13 =>
  M.bind (oS (some v13) fun a => kConvB E 51 5 a) fun v14 =>
  mv (T.get tm 3) fun v15 =>
  M.bind (oS (some v15) fun a => oS (some (.int .u64 24)) fun b => Cl.get (aBin E .shr 51 (.tmp 15) (.const (.int .u64 24))) a b) fun v16 =>
  M.bind (oS (some v16) fun a => kConvB E 51 5 a) fun v17 =>
  M.bind (oS (seqP [(0, (some v8)), (1, (some v11)), (2, (some v14)), (3, (some v17))]) fun ps => aBuildS E 22 4 ps) fun v18 =>
  M.bind (oS (seqP [(0, (some v6)), (1, (some v18))]) fun ps => aBuildS E 43 2 ps) fun v19 =>
  M.bind (M.on (some (.func (.func 63) #[] #[])) fun f => M.on (seqO [(some v19)]) fun l => callV call round f l) fun v20 =>
  mv (some v20) fun v2 =>
  setF 2 v2 tm fun tm1 =>
  M.pure tm1
theorem Acm_ : RegEq 64 21 HM_ Gh_ PT_ := ⟨by kernel_rfl, fun _ _ _ _ _ _ _ _ _ => by kernel_rfl⟩
theorem AcK_ : ∃ k, Kj_ = .code .ret :: k := ⟨Kj_.tail, by kernel_rfl⟩
def Cz_ : Nat := globOf Try.f81
def ID_ : Code := Try.f81.body.getD .skip
theorem DS_ : envS.fn.get 81 = some Try.f81 := by kernel_rfl
theorem AaF_ {a0 : Value} {n : Nat} {s : St} {Q : Value → St → Prop} (h : ∀ tm, T.get tm 0 = some a0 → W (runF envS n ⟨81, 23, Cz_, tm, [.code ID_], .run, .normal, none⟩) (s.cxN cxN) fun p s1 => Q p.1 (s1.cxN s.cx)) : W (callW envS (runF envS n) 81 [a0]) s Q :=
 W.call (by kernel_rfl) (by kernel_rfl) DS_ (by kernel_rfl) rfl rfl (by simp) (h _ (by kernel_rfl))
theorem EV_ : Try.f81.results.toList = [.tmp 2, .tmp 3] := by kernel_rfl
def GO_ : List Item := skim 64 [.code ID_]
def Ed_ : List Item := skim 64 GO_.tail
theorem Sn_ : skim 64 GO_.tail = Ed_ := by kernel_rfl
def Ea_ : List Item := skim 64 Ed_.tail
theorem Sa_ : skim 64 Ed_.tail = Ea_ := by kernel_rfl
def Cd_ : List Item := skim 64 Ea_.tail
theorem Eq_ : skim 64 Ea_.tail = Cd_ := by kernel_rfl
def DU_ : List Item := skim 64 (brT Cd_)
theorem IL_ : skim 64 (brT Cd_) = DU_ := by kernel_rfl
def DR_ : List Item := skim 64 (brF Cd_)
theorem RY_ : skim 64 (brF Cd_) = DR_ := by kernel_rfl
def GX_ : List Item := skim 64 DU_.tail
theorem Ix_ : skim 64 DU_.tail = GX_ := by kernel_rfl
def GM_ : List Item := skim 64 DR_.tail
theorem Sp_ : skim 64 DR_.tail = GM_ := by kernel_rfl
def LI_ (E : Env) (call round : CallT) (tm : T Value) : M (T Value) :=
  mv (some (.slice none 0 0)) fun v2 =>
  setF 2 v2 tm fun tm1 =>
  mv (some (.int .i64 0)) fun v3 =>
  setF 3 v3 tm1 fun tm2 =>
  M.pure tm2
theorem Xp_ : RegEq 81 23 Cz_ GO_ LI_ := ⟨by kernel_rfl, fun _ _ _ _ _ _ _ _ _ => by kernel_rfl⟩
def LK_ (E : Env) (call round : CallT) (tm : T Value) : M (T Value) :=
  mv (T.get tm 0) fun v5 =>
  M.bind (oS (seqO [(some v5)]) fun l => aBuiltin E .len [22] l) fun v6 =>
  M.bind (oS (some v6) fun a => oS (some (.int .i64 4)) fun b => Cl.get (aBin E .sub 3 (.tmp 6) (.const (.int .i64 4))) a b) fun v7 =>
  mv (some v7) fun v4 =>
  setF 4 v4 tm fun tm1 =>
  M.pure tm1
theorem We_ : RegEq 81 23 Cz_ Ed_ LK_ := ⟨by kernel_rfl, fun _ _ _ _ _ _ _ _ _ => by kernel_rfl⟩
def GG_ (E : Env) (call round : CallT) (tm : T Value) : M (T Value) :=
  mv (T.get tm 4) fun v8 =>
  M.bind (oS (some v8) fun a => oS (some (.int .i64 0)) fun b => Cl.get (aBin E .lss 3 (.tmp 8) (.const (.int .i64 0))) a b) fun v9 =>
  mv (some v9) fun v10 =>
  M.bind (M.chk (isK v10) (M.if (isB v10 false) (oS (T.get tm 0) fun a => M.pure a) (M.pure undef))) fun v11 =>
  M.bind (M.chk (isK v10) (M.if (isB v10 false) (oS (T.get tm 4) fun a => M.pure a) (M.pure undef))) fun v12 =>
  M.bind (M.chk (isK v10) (M.if (isB v10 false) (M.on (some v11) fun a => M.on (some none) fun b => M.on (onO (some v12) fun v => some (some v)) fun c => aSlice E 22 a b c) (M.pure undef))) fun v13 =>
  M.bind (M.chk (isK v10) (M.if (isB v10 false) (M.on (some (.func (.func 64) #[] #[])) fun f => M.on (seqO [(some v13)]) fun l => callV call round f l) (M.pure undef))) fun v14 =>
  M.bind (M.chk (isK v10) (M.if (isB v10 false) (oS (T.get tm 0) fun a => M.pure a) (M.pure undef))) fun v15 =>
  M.bind (M.chk (isK v10) (M.if (isB v10 false) (M.on (some (.func (.func 116) #[] #[])) fun f => M.on (seqO [(some v14), (some v15)]) fun l => callV call round f l) (M.pure undef))) fun v16 =>
  M.bind (M.chk (isK v10) (M.if (isB v10 false) (oS (some v16) fun a => kUn E.P .not a) (M.pure undef))) fun v17 =>
  M.bind (M.on (some v10) fun a => M.on (some (.bool true)) fun b => M.on (some v17) fun c => kPick a b c) fun v18 =>
  setF 18 v18 tm fun tm1 =>
  M.pure tm1
theorem VY_ : RegEq 81 23 Cz_ Ea_ GG_ := ⟨by kernel_rfl, fun _ _ _ _ _ _ _ _ _ => by kernel_rfl⟩
theorem GT_ : condX Cd_ = some 18 := by kernel_rfl
def GQ_ (E : Env) (call round : CallT) (tm : T Value) : M (T Value) :=
  mv (some (.slice none 0 0)) fun v2 =>
  setF 2 v2 tm fun tm1 =>
  mv (some (.int .i64 4)) fun v3 =>
  setF 3 v3 tm1 fun tm2 =>
  M.pure tm2
theorem LV_ : RegEq 81 23 Cz_ DU_ GQ_ := ⟨by kernel_rfl, fun _ _ _ _ _ _ _ _ _ => by kernel_rfl⟩
def LF_ (E : Env) (call round : CallT) (tm : T Value) : M (T Value) :=
  mv (T.get tm 0) fun v19 =>
  mv (T.get tm 4) fun v20 =>
  M.bind (M.on (some v19) fun a => M.on (some none) fun b => M.on (onO (some v20) fun v => some (some v)) fun c => aSlice E 22 a b c) fun v21 =>
  M.bind (M.on (some (.func (.func 117) #[] #[])) fun f => M.on (seqO [(some v21)]) fun l => callV call round f l) fun v22 =>
  mv (some v22) fun v2 =>
  setF 2 v2 tm fun tm1 =>
  mv (some (.int .i64 0)) fun v3 =>
  setF 3 v3 tm1 fun tm2 =>
  M.pure tm2
theorem XD_ : RegEq 81 23 Cz_ DR_ LF_ := ⟨by kernel_rfl, fun _ _ _ _ _ _ _ _ _ => by kernel_rfl⟩
theorem LY_ : ∃ k, GX_ = .code .ret :: k := ⟨GX_.tail, by kernel_rfl⟩
theorem Xu_ : ∃ k, GM_ = .code .ret :: k := ⟨GM_.tail, by kernel_rfl⟩
def AX_ : Nat := globOf Try.f63
abbrev GD_ : Nat := 36
def LW_ : Code := Try.f63.body.getD .skip
theorem PF_ : envS.fn.get 63 = some Try.f63 := by kernel_rfl
theorem AfF_ {a0 : Value} {n : Nat} {s : St} {Q : Value → St → Prop} (h : ∀ tm, T.get tm 0 = some a0 → W (runF envS n ⟨63, 36, AX_, tm, [.code LW_], .run, .normal, none⟩) (s.cxN cxN) fun p s1 => Q p.1 (s1.cxN s.cx)) : W (callW envS (runF envS n) 63 [a0]) s Q :=
 W.call (by kernel_rfl) (by kernel_rfl) PF_ (by kernel_rfl) rfl rfl (by simp) (h _ (by kernel_rfl))
theorem AaW_ : Try.f63.results.toList = [.tmp 2] := by kernel_rfl
def IT_ : List Item := skim 64 [.code LW_]
def FJ_ : List Item := skim 64 IT_.tail
theorem Wz_ : skim 64 IT_.tail = FJ_ := by kernel_rfl
def FV_ : List Item := skim 64 FJ_.tail
theorem Wi_ : skim 64 FJ_.tail = FV_ := by kernel_rfl
def CW_ : List Item := skim 64 FV_.tail
theorem WD_ : skim 64 FV_.tail = CW_ := by kernel_rfl
def CP_ : List Item := skim 64 CW_.tail
theorem Mj_ : skim 64 CW_.tail = CP_ := by kernel_rfl
def Gb_ : List Item := skim 64 (brT CP_)
theorem Wg_ : skim 64 (brT CP_) = Gb_ := by kernel_rfl
def Ef_ : List Item := skim 64 (brF CP_)
theorem Wk_ : skim 64 (brF CP_) = Ef_ := by kernel_rfl
def FD_ : List Item := skim 64 Gb_.tail
theorem Xq_ : skim 64 Gb_.tail = FD_ := by kernel_rfl
def Gw_ : List Item := skim 64 Ef_.tail
theorem WN_ : skim 64 Ef_.tail = Gw_ := by kernel_rfl
def FN_ : List Item := skim 64 FD_.tail
theorem WV_ : skim 64 FD_.tail = FN_ := by kernel_rfl
def Ct_ : List Item := skim 64 Gw_.tail
theorem SX_ : skim 64 Gw_.tail = Ct_ := by kernel_rfl
def EN_ : List Item := skim 64 FN_.tail
theorem TH_ : skim 64 FN_.tail = EN_ := by kernel_rfl
def Cy_ : List Item := skim 64 Ct_.tail
theorem IJ_ : skim 64 Ct_.tail = Cy_ := by kernel_rfl
def In_ : List Item := skim 64 (brF EN_)
theorem RK_ : skim 64 (brF EN_) = In_ := by kernel_rfl
def EA_ : List Item := skim 64 (brT Cy_)
theorem RN_ : skim 64 (brT Cy_) = EA_ := by kernel_rfl
def Dh_ : List Item := skim 64 (brF Cy_)
theorem RZ_ : skim 64 (brF Cy_) = Dh_ := by kernel_rfl
theorem VL_ : skim 64 In_.tail = CW_ := by kernel_rfl
def Ez_ : List Item := skim 64 EA_.tail
theorem Ss_ : skim 64 EA_.tail = Ez_ := by kernel_rfl
def HA_ : List Item := skim 64 Dh_.tail
theorem So_ : skim 64 Dh_.tail = HA_ := by kernel_rfl
def Iv_ : List Item := skim 64 Ez_.tail
theorem RQ_ : skim 64 Ez_.tail = Iv_ := by kernel_rfl
theorem Sm_ : skim 64 Iv_.tail = Ct_ := by kernel_rfl
def RD_ (E : Env) (call round : CallT) (tm : T Value) : M (T Value) :=
  mv (some (.slice none 0 0)) fun v2 =>
  setF 2 v2 tm fun tm1 =>
  M.pure tm1
theorem Abu_ : RegEq 63 36 AX_ IT_ RD_ := ⟨by kernel_rfl, fun _ _ _ _ _ _ _ _ _ => by kernel_rfl⟩
def QL_ (E : Env) (call round : CallT) (tm : T Value) : M (T Value) :=
  mv (some (.int .i64 0)) fun v3 =>
  setF 3 v3 tm fun tm1 =>
  M.pure tm1
theorem Adq_ : RegEq 63 36 AX_ FJ_ QL_ := ⟨by kernel_rfl, fun _ _ _ _ _ _ _ _ _ => by kernel_rfl⟩
def Qo_ (E : Env) (call round : CallT) (tm : T Value) : M (T Value) :=
  mv (T.get tm 0) fun v9 =>
  setF 9 v9 tm fun tm1 =>
  M.bind (oS (seqO [(some v9)]) fun l => aBuiltin E .len [43] l) fun v10 =>
  setF 10 v10 tm1 fun tm2 =>
  mv (some (.int .i64 0)) fun v11 =>
  setF 11 v11 tm2 fun tm3 =>
  M.pure tm3
theorem AcH_ : RegEq 63 36 AX_ FV_ Qo_ := ⟨by kernel_rfl, fun _ _ _ _ _ _ _ _ _ => by kernel_rfl⟩
def Ku_ (E : Env) (call round : CallT) (tm : T Value) : M (T Value) :=
  M.bind (oS (T.get tm 11) fun a => oS (T.get tm 10) fun b => Cl.get (aBin E .lss 3 (.tmp 11) (.tmp 10)) a b) fun v12 =>
  setF 12 v12 tm fun tm1 =>
  M.pure tm1
theorem PZ_ : RegEq 63 36 AX_ CW_ Ku_ := ⟨by kernel_rfl, fun _ _ _ _ _ _ _ _ _ => by kernel_rfl⟩
theorem QI_ : condX CP_ = some 12 := by kernel_rfl
def PN_ (E : Env) (call round : CallT) (tm : T Value) : M (T Value) :=
  M.bind (oS (T.get tm 9) fun a => oS (T.get tm 11) fun b => kIdxA E 43 a b) fun v13 =>
  M.bind (oS (some v13) fun a => kLoad E 22 a) fun v14 =>
  mv (some v14) fun v5 =>
  setF 5 v5 tm fun tm1 =>
  M.pure tm1
theorem Acd_ : RegEq 63 36 AX_ Gb_ PN_ := ⟨by kernel_rfl, fun _ _ _ _ _ _ _ _ _ => by kernel_rfl⟩
def Ra_ (E : Env) (call round : CallT) (tm : T Value) : M (T Value) :=
  mv (T.get tm 3) fun v23 =>
  M.bind (M.on (some (.func (.func 106) #[] #[])) fun f => M.on (seqO [(some (.slice none 0 0)), (some v23)]) fun l => callV call round f l) fun v24 =>
  mv (some v24) fun v6 =>
  setF 6 v6 tm fun tm1 =>
  M.pure tm1
theorem AcB_ : RegEq 63 36 AX_ Ef_ Ra_ := ⟨by kernel_rfl, fun _ _ _ _ _ _ _ _ _ => by kernel_rfl⟩
def QZ_ (E : Env) (call round : CallT) (tm : T Value) : M (T Value) :=
  mv (T.get tm 3) fun v15 =>
  mv (T.get tm 5) fun v16 =>
  M.bind (oS (seqO [(some v16)]) fun l => aBuiltin E .len [22] l) fun v17 =>
  M.bind (oS (some v15) fun a => oS (some v17) fun b => Cl.get (aBin E .add 3 (.tmp 15) (.tmp 17)) a b) fun v18 =>
  mv (some v18) fun v3 =>
  setF 3 v3 tm fun tm1 =>
  M.pure tm1
theorem Adg_ : RegEq 63 36 AX_ FD_ QZ_ := ⟨by kernel_rfl, fun _ _ _ _ _ _ _ _ _ => by kernel_rfl⟩
def QH_ (E : Env) (call round : CallT) (tm : T Value) : M (T Value) :=
  mv (T.get tm 0) fun v25 =>
  setF 25 v25 tm fun tm1 =>
  M.bind (oS (seqO [(some v25)]) fun l => aBuiltin E .len [43] l) fun v26 =>
  setF 26 v26 tm1 fun tm2 =>
  mv (some (.int .i64 0)) fun v27 =>
  setF 27 v27 tm2 fun tm3 =>
  M.pure tm3
theorem AcQ_ : RegEq 63 36 AX_ Gw_ QH_ := ⟨by kernel_rfl, fun _ _ _ _ _ _ _ _ _ => by kernel_rfl⟩
def Qs_ (E : Env) (call round : CallT) (tm : T Value) : M (T Value) :=
  mv (T.get tm 3) fun v19 =>
  M.bind (oS (some v19) fun a => oS (some (.int .i64 0)) fun b => Cl.get (aBin E .lss 3 (.tmp 19) (.const (.int .i64 0))) a b) fun v20 =>
  setF 20 v20 tm fun tm1 =>
  M.pure tm1
theorem AcT_ : RegEq 63 36 AX_ FN_ Qs_ := ⟨by kernel_rfl, fun _ _ _ _ _ _ _ _ _ => by kernel_rfl⟩
def Ir_ (E : Env) (call round : CallT) (tm : T Value) : M (T Value) :=
  M.bind (oS (T.get tm 27) fun a => oS (T.get tm 26) fun b => Cl.get (aBin E .lss 3 (.tmp 27) (.tmp 26)) a b) fun v28 =>
  setF 28 v28 tm fun tm1 =>
  M.pure tm1
theorem NP_ : RegEq 63 36 AX_ Ct_ Ir_ := ⟨by kernel_rfl, fun _ _ _ _ _ _ _ _ _ => by kernel_rfl⟩
theorem Zf_ : condX EN_ = some 20 := by kernel_rfl
theorem NA_ : condX Cy_ = some 28 := by kernel_rfl
def OH_ (E : Env) (call round : CallT) (tm : T Value) : M (T Value) :=
  M.bind (oS (T.get tm 11) fun a => oS (some (.int .i64 1)) fun b => Cl.get (aBin E .add 3 (.tmp 11) (.const (.int .i64 1))) a b) fun v22 =>
  mv (some v22) fun v11 =>
  setF 11 v11 tm fun tm1 =>
  M.pure tm1
theorem YW_ : RegEq 63 36 AX_ In_ OH_ := ⟨by kernel_rfl, fun _ _ _ _ _ _ _ _ _ => by kernel_rfl⟩
def Oz_ (E : Env) (call round : CallT) (tm : T Value) : M (T Value) :=
  M.bind (oS (T.get tm 25) fun a => oS (T.get tm 27) fun b => kIdxA E 43 a b) fun v29 =>
  M.bind (oS (some v29) fun a => kLoad E 22 a) fun v30 =>
  mv (some v30) fun v8 =>
  setF 8 v8 tm fun tm1 =>
  M.pure tm1
theorem Zz_ : RegEq 63 36 AX_ EA_ Oz_ := ⟨by kernel_rfl, fun _ _ _ _ _ _ _ _ _ => by kernel_rfl⟩
def OK_ (E : Env) (call round : CallT) (tm : T Value) : M (T Value) :=
  mv (T.get tm 6) fun v35 =>
  mv (some v35) fun v2 =>
  setF 2 v2 tm fun tm1 =>
  M.pure tm1
theorem Yv_ : RegEq 63 36 AX_ Dh_ OK_ := ⟨by kernel_rfl, fun _ _ _ _ _ _ _ _ _ => by kernel_rfl⟩
def OJ_ (E : Env) (call round : CallT) (tm : T Value) : M (T Value) :=
  mv (T.get tm 6) fun v31 =>
  mv (T.get tm 8) fun v32 =>
  M.bind (oS (seqO [(some v31), (some v32)]) fun l => aBuiltin E .append [22, 22] l) fun v33 =>
  mv (some v33) fun v6 =>
  setF 6 v6 tm fun tm1 =>
  M.pure tm1
theorem YR_ : RegEq 63 36 AX_ Ez_ OJ_ := ⟨by kernel_rfl, fun _ _ _ _ _ _ _ _ _ => by kernel_rfl⟩
theorem Ze_ : ∃ k, HA_ = .code .ret :: k := ⟨HA_.tail, by kernel_rfl⟩
def Ou_ (E : Env) (call round : CallT) (tm : T Value) : M (T Value) :=
  M.bind (oS (T.get tm 27) fun a => oS (some (.int .i64 1)) fun b => Cl.get (aBin E .add 3 (.tmp 27) (.const (.int .i64 1))) a b) fun v34 =>
  mv (some v34) fun v27 =>
  setF 27 v27 tm fun tm1 =>
  M.pure tm1
theorem Zc_ : RegEq 63 36 AX_ Iv_ Ou_ := ⟨by kernel_rfl, fun _ _ _ _ _ _ _ _ _ => by kernel_rfl⟩
def Fe_ : Nat := globOf Try.f106
def QU_ : Code := Try.f106.body.getD .skip
theorem XN_ : envS.fn.get 106 = some Try.f106 := by kernel_rfl
theorem Alw_ {a0 a1 : Value} {n : Nat} {s : St} {Q : Value → St → Prop} (h : ∀ tm, T.get tm 0 = some a0 → T.get tm 1 = some a1 → W (runF envS n ⟨106, 27, Fe_, tm, [.code QU_], .run, .normal, none⟩) (s.cxN cxN) fun p s1 => Q p.1 (s1.cxN s.cx)) : W (callW envS (runF envS n) 106 [a0, a1]) s Q :=
 W.call (by kernel_rfl) (by kernel_rfl) XN_ (by kernel_rfl) rfl rfl (by simp) (h _ (by kernel_rfl) (by kernel_rfl))
theorem AfD_ : Try.f106.results.toList = [.tmp 4] := by kernel_rfl
def OW_ : List Item := skim 64 [.code QU_]
def KM_ : List Item := skim 64 OW_.tail
theorem Aej_ : skim 64 OW_.tail = KM_ := by kernel_rfl
def KP_ : List Item := skim 64 KM_.tail
theorem AdF_ : skim 64 KM_.tail = KP_ := by kernel_rfl
def KQ_ : List Item := skim 64 (brF KP_)
theorem Aeh_ : skim 64 (brF KP_) = KQ_ := by kernel_rfl
def KY_ : List Item := skim 64 KQ_.tail
theorem AbH_ : skim 64 KQ_.tail = KY_ := by kernel_rfl
def Hm_ : List Item := skim 64 KY_.tail
theorem AbA_ : skim 64 KY_.tail = Hm_ := by kernel_rfl
def Pa_ : List Item := skim 64 (brT Hm_)
theorem Acc_ : skim 64 (brT Hm_) = Pa_ := by kernel_rfl
def KR_ : List Item := skim 64 (brF Hm_)
theorem AbG_ : skim 64 Pa_.tail = KR_ := by kernel_rfl
def Pu_ : List Item := skim 64 KR_.tail
theorem AbV_ : skim 64 KR_.tail = Pu_ := by kernel_rfl
def XU_ (E : Env) (call round : CallT) (tm : T Value) : M (T Value) :=
  mv (some (.slice none 0 0)) fun v4 =>
  setF 4 v4 tm fun tm1 =>
  M.pure tm1
theorem AhX_ : RegEq 106 27 Fe_ OW_ XU_ := ⟨by kernel_rfl, fun _ _ _ _ _ _ _ _ _ => by kernel_rfl⟩
def XX_ (E : Env) (call round : CallT) (tm : T Value) : M (T Value) :=
  mv (T.get tm 1) fun v5 =>
  M.bind (oS (some v5) fun a => oS (some (.int .i64 0)) fun b => Cl.get (aBin E .lss 3 (.tmp 5) (.const (.int .i64 0))) a b) fun v6 =>
  setF 6 v6 tm fun tm1 =>
  M.pure tm1
theorem Aib_ : RegEq 106 27 Fe_ KM_ XX_ := ⟨by kernel_rfl, fun _ _ _ _ _ _ _ _ _ => by kernel_rfl⟩
theorem Ajv_ : condX KP_ = some 6 := by kernel_rfl
def Yi_ (E : Env) (call round : CallT) (tm : T Value) : M (T Value) :=
  mv (T.get tm 1) fun v8 =>
  mv (T.get tm 0) fun v9 =>
  M.bind (oS (seqO [(some v9)]) fun l => aBuiltin E .cap [22] l) fun v10 =>
  mv (T.get tm 0) fun v11 =>
  M.bind (oS (seqO [(some v11)]) fun l => aBuiltin E .len [22] l) fun v12 =>
  M.bind (oS (some v10) fun a => oS (some v12) fun b => Cl.get (aBin E .sub 3 (.tmp 10) (.tmp 12)) a b) fun v13 =>
  M.bind (oS (some v8) fun a => oS (some v13) fun b => Cl.get (aBin E .sub 3 (.tmp 8) (.tmp 13)) a b) fun v14 =>
  mv (some v14) fun v1 =>
  setF 1 v1 tm fun tm1 =>
  M.pure tm1
theorem AiB_ : RegEq 106 27 Fe_ KQ_ Yi_ := ⟨by kernel_rfl, fun _ _ _ _ _ _ _ _ _ => by kernel_rfl⟩
def XQ_ (E : Env) (call round : CallT) (tm : T Value) : M (T Value) :=
  mv (T.get tm 1) fun v15 =>
  M.bind (oS (some v15) fun a => oS (some (.int .i64 0)) fun b => Cl.get (aBin E .gtr 3 (.tmp 15) (.const (.int .i64 0))) a b) fun v16 =>
  setF 16 v16 tm fun tm1 =>
  M.pure tm1
theorem AhY_ : RegEq 106 27 Fe_ KY_ XQ_ := ⟨by kernel_rfl, fun _ _ _ _ _ _ _ _ _ => by kernel_rfl⟩
theorem AiT_ : condX Hm_ = some 16 := by kernel_rfl
def Ya_ (E : Env) (call round : CallT) (tm : T Value) : M (T Value) :=
  mv (T.get tm 0) fun v17 =>
  mv (T.get tm 0) fun v18 =>
  M.bind (oS (seqO [(some v18)]) fun l => aBuiltin E .cap [22] l) fun v19 =>
  M.bind (M.on (some v17) fun a => M.on (some none) fun b => M.on (onO (some v19) fun v => some (some v)) fun c => aSlice E 22 a b c) fun v20 =>
  mv (T.get tm 1) fun v21 =>
  M.bind (oS (seqO [(some v20), (some v21)]) fun l => aBuiltin E .append [22, 3] l) fun v22 =>
  mv (T.get tm 0) fun v23 =>
  M.bind (oS (seqO [(some v23)]) fun l => aBuiltin E .len [22] l) fun v24 =>
  M.bind (M.on (some v22) fun a => M.on (some none) fun b => M.on (onO (some v24) fun v => some (some v)) fun c => aSlice E 22 a b c) fun v25 =>
  mv (some v25) fun v0 =>
  setF 0 v0 tm fun tm1 =>
  M.pure tm1
theorem Ail_ : RegEq 106 27 Fe_ Pa_ Ya_ := ⟨by kernel_rfl, fun _ _ _ _ _ _ _ _ _ => by kernel_rfl⟩
def XO_ (E : Env) (call round : CallT) (tm : T Value) : M (T Value) :=
  mv (T.get tm 0) fun v26 =>
  mv (some v26) fun v4 =>
  setF 4 v4 tm fun tm1 =>
  M.pure tm1
theorem Ajz_ : RegEq 106 27 Fe_ KR_ XO_ := ⟨by kernel_rfl, fun _ _ _ _ _ _ _ _ _ => by kernel_rfl⟩
theorem AiN_ : ∃ k, Pu_ = .code .ret :: k := ⟨Pu_.tail, by kernel_rfl⟩
def Bw_ : Nat := globOf Try.f116
abbrev AeZ_ : Nat := 26
def NM_ : Code := Try.f116.body.getD .skip
theorem HL_ : envS.fn.get 116 = some Try.f116 := by kernel_rfl
theorem Aju_ {a0 a1 : Value} {n : Nat} {s : St} {Q : Value → St → Prop} (h : ∀ tm, T.get tm 0 = some a0 → T.get tm 1 = some a1 → W (runF envS n ⟨116, 26, Bw_, tm, [.code NM_], .run, .normal, none⟩) (s.cxN cxN) fun p s1 => Q p.1 (s1.cxN s.cx)) : W (callW envS (runF envS n) 116 [a0, a1]) s Q :=
 W.call (by kernel_rfl) (by kernel_rfl) HL_ (by kernel_rfl) rfl rfl (by simp) (h _ (by kernel_rfl) (by kernel_rfl))
theorem JX_ : Try.f116.results.toList = [.tmp 4] := by kernel_rfl
def Mz_ : List Item := skim 64 [.code NM_]
def HN_ : List Item := skim 64 Mz_.tail
theorem Aab_ : skim 64 Mz_.tail = HN_ := by kernel_rfl
def DL_ : List Item := skim 64 HN_.tail
theorem Ny_ : skim 64 HN_.tail = DL_ := by kernel_rfl
def Ht_ : List Item := skim 64 (brT DL_)
theorem YH_ : skim 64 (brT DL_) = Ht_ := by kernel_rfl
def Ii_ : List Item := skim 64 (brF DL_)
theorem YI_ : skim 64 (brF DL_) = Ii_ := by kernel_rfl
def My_ : List Item := skim 64 Ht_.tail
theorem AaK_ : skim 64 Ht_.tail = My_ := by kernel_rfl
def DF_ : List Item := skim 64 Ii_.tail
theorem Aan_ : skim 64 Ii_.tail = DF_ := by kernel_rfl
def DN_ : List Item := skim 64 DF_.tail
theorem NG_ : skim 64 DF_.tail = DN_ := by kernel_rfl
def HW_ : List Item := skim 64 (brT DN_)
theorem YF_ : skim 64 (brT DN_) = HW_ := by kernel_rfl
def HI_ : List Item := skim 64 (brF DN_)
theorem Zn_ : skim 64 (brF DN_) = HI_ := by kernel_rfl
def Ee_ : List Item := skim 64 HW_.tail
theorem Xr_ : skim 64 HW_.tail = Ee_ := by kernel_rfl
def JB_ : List Item := skim 64 HI_.tail
theorem Xs_ : skim 64 HI_.tail = JB_ := by kernel_rfl
def CZ_ : List Item := skim 64 Ee_.tail
theorem Kp_ : skim 64 Ee_.tail = CZ_ := by kernel_rfl
def FZ_ : List Item := skim 64 (brT CZ_)
theorem Uv_ : skim 64 (brT CZ_) = FZ_ := by kernel_rfl
def Kq_ : List Item := skim 64 (brF CZ_)
theorem TF_ : skim 64 (brF CZ_) = Kq_ := by kernel_rfl
def IN_ : List Item := skim 64 FZ_.tail
theorem Uw_ : skim 64 FZ_.tail = IN_ := by kernel_rfl
theorem Xt_ : skim 64 Kq_.tail = DF_ := by kernel_rfl
def Vd_ (E : Env) (call round : CallT) (tm : T Value) : M (T Value) :=
  mv (some (.bool false)) fun v4 =>
  setF 4 v4 tm fun tm1 =>
  M.pure tm1
theorem Aev_ : RegEq 116 26 Bw_ Mz_ Vd_ := ⟨by kernel_rfl, fun _ _ _ _ _ _ _ _ _ => by kernel_rfl⟩
def Ux_ (E : Env) (call round : CallT) (tm : T Value) : M (T Value) :=
  mv (T.get tm 0) fun v6 =>
  M.bind (oS (seqO [(some v6)]) fun l => aBuiltin E .len [22] l) fun v7 =>
  mv (T.get tm 1) fun v8 =>
  M.bind (oS (seqO [(some v8)]) fun l => aBuiltin E .len [22] l) fun v9 =>
  M.bind (oS (some v7) fun a => oS (some v9) fun b => Cl.get (aBin E .neq 3 (.tmp 7) (.tmp 9)) a b) fun v10 =>
  setF 10 v10 tm fun tm1 =>
  M.pure tm1
theorem AeY_ : RegEq 116 26 Bw_ HN_ Ux_ := ⟨by kernel_rfl, fun _ _ _ _ _ _ _ _ _ => by kernel_rfl⟩
theorem Td_ : condX DL_ = some 10 := by kernel_rfl
def UK_ (E : Env) (call round : CallT) (tm : T Value) : M (T Value) :=
  mv (some (.bool false)) fun v4 =>
  setF 4 v4 tm fun tm1 =>
  M.pure tm1
theorem Ago_ : RegEq 116 26 Bw_ Ht_ UK_ := ⟨by kernel_rfl, fun _ _ _ _ _ _ _ _ _ => by kernel_rfl⟩
def Tf_ (E : Env) (call round : CallT) (tm : T Value) : M (T Value) :=
  mv (T.get tm 0) fun v11 =>
  M.bind (oS (seqO [(some v11)]) fun l => aBuiltin E .len [22] l) fun v12 =>
  setF 12 v12 tm fun tm1 =>
  mv (some (.int .i64 0)) fun v13 =>
  setF 13 v13 tm1 fun tm2 =>
  M.pure tm2
theorem Aet_ : RegEq 116 26 Bw_ Ii_ Tf_ := ⟨by kernel_rfl, fun _ _ _ _ _ _ _ _ _ => by kernel_rfl⟩
theorem AeD_ : ∃ k, My_ = .code .ret :: k := ⟨My_.tail, by kernel_rfl⟩
def MT_ (E : Env) (call round : CallT) (tm : T Value) : M (T Value) :=
  M.bind (oS (T.get tm 13) fun a => oS (T.get tm 12) fun b => Cl.get (aBin E .lss 3 (.tmp 13) (.tmp 12)) a b) fun v14 =>
  setF 14 v14 tm fun tm1 =>
  M.pure tm1
theorem Uz_ : RegEq 116 26 Bw_ DF_ MT_ := ⟨by kernel_rfl, fun _ _ _ _ _ _ _ _ _ => by kernel_rfl⟩
theorem Vx_ : condX DN_ = some 14 := by kernel_rfl
def UH_ (E : Env) (call round : CallT) (tm : T Value) : M (T Value) :=
  mv (T.get tm 13) fun v15 =>
  mv (some v15) fun v5 =>
  setF 5 v5 tm fun tm1 =>
  M.pure tm1
theorem Agn_ : RegEq 116 26 Bw_ HW_ UH_ := ⟨by kernel_rfl, fun _ _ _ _ _ _ _ _ _ => by kernel_rfl⟩
def Tl_ (E : Env) (call round : CallT) (tm : T Value) : M (T Value) :=
  mv (some (.bool true)) fun v4 =>
  setF 4 v4 tm fun tm1 =>
  M.pure tm1
theorem Afu_ : RegEq 116 26 Bw_ HI_ Tl_ := ⟨by kernel_rfl, fun _ _ _ _ _ _ _ _ _ => by kernel_rfl⟩
def Qe_ (E : Env) (call round : CallT) (tm : T Value) : M ((Rho × T Value) × List OpLog) :=
  M.bind (apartO (oS (T.get tm 0) fun a => M.pure a)) fun p0 =>
  M.bind (apartO (oS (T.get tm 5) fun a => M.pure a)) fun p1 =>
  M.bind (apartO (oS (some p0.1) fun a => oS (some p1.1) fun b => kIdxA E 22 a b)) fun p2 =>
  M.bind (apartO (oS (some p2.1) fun a => kLoad E 5 a)) fun p3 =>
  M.bind (apartO (oS (T.get tm 1) fun a => M.pure a)) fun p4 =>
  M.bind (apartO (oS (T.get tm 5) fun a => M.pure a)) fun p5 =>
  M.bind (apartO (oS (some p4.1) fun a => oS (some p5.1) fun b => kIdxA E 22 a b)) fun p6 =>
  M.bind (apartO (oS (some p6.1) fun a => kLoad E 5 a)) fun p7 =>
  M.pure (([p7.1, p6.1, p5.1, p4.1, p3.1, p2.1, p1.1, p0.1], tm), [p7.2, p6.2, p5.2, p4.2, p3.2, p2.2, p1.2, p0.2])
theorem AcX_ : DrawEq 116 26 Bw_ Ee_ [0, 0, 3, 7, 0, 0, 48, 112, 255] Qe_ := ⟨by kernel_rfl, by kernel_rfl, fun _ _ _ _ _ _ _ _ _ => by kernel_rfl⟩
theorem Acf_ (E : Env) (call round : CallT) (x16 x17 x18 x19 x20 x21 x22 x23 : Value) (tm : T Value) (s : St) : opsIn call round (lastOps E Bw_ 26 (hdC Ee_)) [x23, x22, x21, x20, x19, x18, x17, x16] tm s = (M.bind (oS (some x19) fun a => oS (some x23) fun b => Cl.get (aBin E .neq 5 (.tmp 19) (.tmp 23)) a b) fun v24 => setT 24 v24 tm fun tm1 => M.pure tm1) s := by kernel_rfl
theorem Abp_ : ∃ k, JB_ = .code .ret :: k := ⟨JB_.tail, by kernel_rfl⟩
theorem QT_ : condX CZ_ = some 24 := by kernel_rfl
def QN_ (E : Env) (call round : CallT) (tm : T Value) : M (T Value) :=
  mv (some (.bool false)) fun v4 =>
  setF 4 v4 tm fun tm1 =>
  M.pure tm1
theorem Aed_ : RegEq 116 26 Bw_ FZ_ QN_ := ⟨by kernel_rfl, fun _ _ _ _ _ _ _ _ _ => by kernel_rfl⟩
def PL_ (E : Env) (call round : CallT) (tm : T Value) : M (T Value) :=
  M.bind (oS (T.get tm 13) fun a => oS (some (.int .i64 1)) fun b => Cl.get (aBin E .add 3 (.tmp 13) (.const (.int .i64 1))) a b) fun v25 =>
  mv (some v25) fun v13 =>
  setF 13 v13 tm fun tm1 =>
  M.pure tm1
theorem AbZ_ : RegEq 116 26 Bw_ Kq_ PL_ := ⟨by kernel_rfl, fun _ _ _ _ _ _ _ _ _ => by kernel_rfl⟩
theorem Adm_ : ∃ k, IN_ = .code .ret :: k := ⟨IN_.tail, by kernel_rfl⟩
def Lb_ : Nat := globOf Try.f117
def OS_ : Code := Try.f117.body.getD .skip
theorem Mu_ : envS.fn.get 117 = some Try.f117 := by kernel_rfl
theorem Aic_ {a0 : Value} {n : Nat} {s : St} {Q : Value → St → Prop} (h : ∀ tm, T.get tm 0 = some a0 → W (runF envS n ⟨117, 8, Lb_, tm, [.code OS_], .run, .normal, none⟩) (s.cxN cxN) fun p s1 => Q p.1 (s1.cxN s.cx)) : W (callW envS (runF envS n) 117 [a0]) s Q :=
 W.call (by kernel_rfl) (by kernel_rfl) Mu_ (by kernel_rfl) rfl rfl (by simp) (h _ (by kernel_rfl))
theorem PS_ : Try.f117.results.toList = [.tmp 2] := by kernel_rfl
def MA_ : List Item := skim 64 [.code OS_]
def Iu_ : List Item := skim 64 MA_.tail
theorem ZJ_ : skim 64 MA_.tail = Iu_ := by kernel_rfl
def HS_ : List Item := skim 64 Iu_.tail
theorem Zh_ : skim 64 Iu_.tail = HS_ := by kernel_rfl
def Ic_ : List Item := skim 64 (brF HS_)
theorem YD_ : skim 64 (brF HS_) = Ic_ := by kernel_rfl
def MB_ : List Item := skim 64 Ic_.tail
theorem No_ : skim 64 Ic_.tail = MB_ := by kernel_rfl
def UV_ (E : Env) (call round : CallT) (tm : T Value) : M (T Value) :=
  mv (some (.slice none 0 0)) fun v2 =>
  setF 2 v2 tm fun tm1 =>
  M.pure tm1
theorem AeG_ : RegEq 117 8 Lb_ MA_ UV_ := ⟨by kernel_rfl, fun _ _ _ _ _ _ _ _ _ => by kernel_rfl⟩
def Ua_ (E : Env) (call round : CallT) (tm : T Value) : M (T Value) :=
  mv (T.get tm 0) fun v3 =>
  M.bind (oS (some v3) fun a => oS (some (.slice none 0 0)) fun b => Cl.get (aBin E .eql 22 (.tmp 3) (.const (.slice none 0 0))) a b) fun v4 =>
  setF 4 v4 tm fun tm1 =>
  M.pure tm1
theorem Afi_ : RegEq 117 8 Lb_ Iu_ Ua_ := ⟨by kernel_rfl, fun _ _ _ _ _ _ _ _ _ => by kernel_rfl⟩
theorem AfX_ : condX HS_ = some 4 := by kernel_rfl
def SP_ (E : Env) (call round : CallT) (tm : T Value) : M (T Value) :=
  M.bind (oS (seqP []) fun ps => aBuildS E 22 0 ps) fun v5 =>
  mv (T.get tm 0) fun v6 =>
  M.bind (oS (seqO [(some v5), (some v6)]) fun l => aBuiltin E .append [22, 22] l) fun v7 =>
  mv (some v7) fun v2 =>
  setF 2 v2 tm fun tm1 =>
  M.pure tm1
theorem Aga_ : RegEq 117 8 Lb_ Ic_ SP_ := ⟨by kernel_rfl, fun _ _ _ _ _ _ _ _ _ => by kernel_rfl⟩
theorem TD_ : ∃ k, MB_ = .code .ret :: k := ⟨MB_.tail, by kernel_rfl⟩
end Go.Proofs.Ytofanlcjeohcjaa.Am
namespace Go.Proofs.Ytofanlcjeohcjaa.Am
open Go.RowKit
section
variable {s : St}
def Bn (s : St) (v : Value) (l : List Nat) : Prop := ∃ b o c, v = .slice (some ⟨b, o, none⟩) l.length c ∧ l.length ≤ c % capU ∧ sizeOk c 1 = true ∧ Row s b o (u8l l)
theorem Bn.bs {v : Value} {l : List Nat} (h : Bn s v l) : Bs s v l := .inr h
theorem Bn.ext {F G : Nat → Prop} {s s' : St} {v : Value} {l : List Nat} (h : Bn s v l) (e : Ext F G s s') (hG : ∀ x, BsF v x → ¬ G x) : Bn s' v l := by
 rcases h.bs.ext e hG with ⟨rfl, _⟩ | h'
 · obtain ⟨_, _, _, e, _⟩ := h; cases e
 · exact h'
theorem Bn.ext0 {F : Nat → Prop} {s s' : St} {v : Value} {l : List Nat} (h : Bn s v l) (e : Ext F Non s s') : Bn s' v l := h.ext e fun _ _ => id
def Byt (l : List Nat) : Prop := ∀ x ∈ l, x < 256
theorem AfB_ : ∀ {l : List Nat}, Byt l → u8s (u8l l) = some l
 | [], _ => rfl
 | n :: l, h => by
   have e := AfB_ (l := l) fun x hx => h x (by simp [hx])
   show (match Value.int .u8 (.ofNat n), u8s (u8l l) with | .int .u8 (.ofNat n), some ns => bif Nat.blt n 256 then some (n :: ns) else none | _, _ => none) = _
   rw [e]
   simp -implicitDefEqProofs only [Fx_ (h n (by simp)), cond_true]
theorem W.rdB {b o : Nat} {l : List Nat} {Q : List Value → St → Prop} (h : Row s b o (u8l l)) (q : ∀ s1, s1.mem = s.mem → s1.next = s.next → Ext (In b o l.length) Non s s1 → Q (u8l l) s1) : W (Am.rdL l.length ⟨b, o, none⟩) s Q := by
 have hl : l.length = (u8l l).length := (Ar_ l).symm
 rw [hl]
 refine W.rdL h fun s1 e1 e2 e3 => q s1 e1 e2 ?_
 rw [Ar_] at e3
 exact e3
theorem W.more {sum : Nat} {v : Value} {l : List Nat} {Q : Value → St → Prop} (h : Bn s v l) (hl : Byt l) (hz : l.length ≤ 4611686018427387904) (hs : sum < 4294967296)
   (q : ∀ s1, s1.mem = s.mem → s1.next = s.next → Ext (BsF v) Non s s1 → Q (.int .u32 (crcMore sum l : Nat)) s1) : W (moreM [.int .u32 (sum : Nat), v]) s Q := by
 obtain ⟨b, o, c, rfl, h1, h2, h3⟩ := h
 refine W.chk (by rw [Fx_ hs]; simpa using hz) (W.bind (W.rdB h3 fun s1 e1 e2 e3 => W.on (AfB_ hl) ?_))
 rw [SE_]
 exact W.pure (q s1 e1 e2 e3)
end
theorem LG_ {n : Nat} {s : St} {v : Value} {l : List Nat} {Q : Value → St → Prop} (hn : 10 ≤ n) (h : Bn s v l) (hl : Byt l) (hz : l.length ≤ 4611686018427387904)
   (q : ∀ s1, s1.mem = s.mem → s1.next = s.next → Ext (BsF v) Non s s1 → Q (.int .u32 (crcMore 0 l : Nat)) s1) : W (callW envS (runF envS n) 105 [v]) s Q := by
 refine Afl_ fun tm h0 => ?_
 refine Aeg_.w rfl (by omega) ?_
 simp -implicitDefEqProofs only [QV_, Aa_, W_mv, Ac_]
 refine Abd_.w Xh_ (by omega) ?_
 simp -implicitDefEqProofs only [Qi_, Ag_, W_on, Aa_, W_mv, Ac_, T.get_set, Ae_, Ah_, Ab_, AB_, reduceIte, reduceCtorEq, ↓reduceIte, h0]
 refine W.orc (m := moreM) (by kernel_rfl) ?_
 change W (moreM [.int .u32 ((0 : Nat) : Int), v]) _ _
 refine W.more (s := s.cxN cxN) h hl hz (by decide) fun s1 e1 e2 e3 => ?_
 refine W.end' (rs := [2]) (vs := [.int .u32 (crcMore 0 l : Nat)]) Wx_ (.inl AdH_) (by omega) Qg_ YB_ e3.cx (by simp [T.get_set]) ?_
 refine q _ e1 e2 ⟨e3.nxt, e3.lim, rfl, e3.mem, e3.rd, e3.wr⟩
end Go.Proofs.Ytofanlcjeohcjaa.Am
namespace Go.Proofs.Ytofanlcjeohcjaa.Am
open Go.RowKit
theorem AL_ : slN envS 22 = some 1 := by kernel_rfl
theorem Bt_ : slN envS 43 = some 1 := by kernel_rfl
theorem Kt_ : elT envS 22 = some (1, 1, [.int .u8 0]) := by kernel_rfl
theorem TI_ : appT envS 22 22 = some (1, 1, false, [.int .u8 0]) := by kernel_rfl
theorem AsU_ : appT envS 22 3 = some (1, 1, true, [.int .u8 0]) := by kernel_rfl
theorem GZ_ : tyS envS 22 = some (1, false) := by kernel_rfl
theorem MY_ : tyS envS 5 = some (1, false) := by kernel_rfl
theorem AcS_ (n : Nat) : rep n [Value.int .u8 0] = List.replicate n (Value.int .u8 0) := by
 induction n with
 | zero => rfl
 | succ n ih =>
   show [Value.int .u8 0] ++ rep n [Value.int .u8 0] = _
   rw [ih]; rfl
structure Room (s s' : St) (N : Nat) (v : Value) (b : Nat) : Prop where
  val : v = .slice (some ⟨b, 0, none⟩) 0 (capU * ((b + N * 1) * 1024 + 1) + N)
  new : s.next ≤ b
  own : OwnRow s' b 0 (List.replicate N (.int .u8 0))
theorem AdN_ {n N : Nat} {s : St} {Q : Value → St → Prop} (hbd : s.lim ≤ s.next) (hn : 20 ≤ n) (hN : 0 < N) (hN2 : N ≤ 1000000)
   (q : ∀ s1 v b, Room s s1 N v b → Ext Non Non s s1 → Q v s1) : W (callW envS (runF envS n) 106 [.slice none 0 0, .int .i64 (N : Nat)]) s Q := by
 refine Alw_ fun tm h0 h1 => ?_
 refine AhX_.w rfl (by omega) ?_
 simp -implicitDefEqProofs only [XU_, Aa_, W_mv, Ac_]
 refine Aib_.w Aej_ (by omega) ?_
 simp -implicitDefEqProofs only [XX_, Ag_, W_oS, Aa_, W_mv, Ac_, T.get_set, reduceIte, Nat.reduceEqDiff, Nat.reduceEqDiff, ↓reduceIte, Bh_, h1]
 refine W.cond (v := false) AdF_ Ajv_ (by simp [T.get_set]) (by omega) (fun h => by cases h) fun _ => ?_
 refine AiB_.w Aeh_ (by omega) ?_
 simp -implicitDefEqProofs only [Yi_, Ag_, W_oS, Aa_, W_mv, Ac_, T.get_set, Ae_, Ah_, Ab_, reduceIte, Nat.reduceEqDiff, Nat.reduceEqDiff, reduceCtorEq, ↓reduceIte, HU_, h0, h1, Agy_ AL_, Bu_ AL_]
 refine AhY_.w AbH_ (by omega) ?_
 have e1 : wrap64 ((N : Int) - wrap64 (((0 : Nat) : Int) - ((0 : Nat) : Int))) = (N : Nat) := by
   rw [AK_ (n := ((0 : Nat) : Int) - ((0 : Nat) : Int)) (by simp) (by simp), AK_] <;> simp <;> omega
 simp -implicitDefEqProofs only [XQ_, Ag_, W_oS, Aa_, W_mv, Ac_, T.get_set, reduceIte, ↓reduceIte, Er_, e1]
 refine W.cond (v := true) AbA_ AiT_ (by simp [T.get_set, hN]) (by omega) (fun _ => ?_) fun h => by cases h
 refine Ail_.w Acc_ (by omega) ?_
 simp -implicitDefEqProofs only [Ya_, Ag_, W_oS, W_on, Aa_, W_mv, Ac_, T.get_set, Ae_, Ah_, Ab_, reduceIte, Nat.reduceEqDiff, Nat.reduceEqDiff, reduceCtorEq, ↓reduceIte, h0, Agy_ AL_, AsV_ (lo := none) (hi := some (.int .i64 ((0 : Nat) : Int))) AL_ rfl rfl, Aen_]
 refine W.appNil (s := s.cxN cxN) hbd (n := N) (l := rep N [.int .u8 0]) AsU_ (AmL_ (by omega)) hN (by decide) (by decide) (by omega) (by rw [AcS_]; simp) (by rw [AcS_]; simp [oneCell]) fun s2 v b hf x2 => ?_
 obtain ⟨rfl, hnew, hown, hlen, htok, hlt⟩ := hf
 have hc := ZC_ (q := (b + N * 1) * 1024 + 1) (Bi_ (n := N) (by omega))
 simp -implicitDefEqProofs only [Bu_ AL_, AlA_ (l := 0) (h := 0) (lo := none) (hi := some (.int .i64 ((0 : Nat) : Int))) AL_ rfl rfl (Nat.le_refl _) (Nat.zero_le _) (Tt_ (m := b + N * 1) (Bi_ (n := N) (by omega)) (by decide)), reduceIte, ↓reduceIte, hc, hN]
 refine Ajz_.w AbG_ (by omega) ?_
 simp -implicitDefEqProofs only [XO_, Aa_, W_mv, Ac_, T.get_set, reduceIte, ↓reduceIte]
 refine W.end' (rs := [4]) (vs := [.slice (some ⟨b, 0, none⟩) 0 (capU * ((b + N * 1) * 1024 + 1) + N)]) AbV_ (.inl AiN_) (by omega) XN_ AfD_ x2.cx (by simp [T.get_set]) ?_
 exact q _ _ b ⟨rfl, hnew, fun i v e => (hown i v (by rw [AcS_]; exact e)).same rfl rfl⟩ ⟨x2.nxt, x2.lim, rfl, x2.mem, x2.rd, x2.wr⟩
end Go.Proofs.Ytofanlcjeohcjaa.Am
namespace Go.Proofs.Ytofanlcjeohcjaa.Am
open Go.RowKit
def tot (l : List (Value × List Nat)) : Nat := (l.map fun p => p.2.length).sum
theorem Aoc_ {l : List (Value × List Nat)} {i : Nat} {p : Value × List Nat} (h : l[i]? = some p) : tot (l.take (i + 1)) = tot (l.take i) + p.2.length := by
 unfold tot
 rw [List.take_add_one, h]
 simp
theorem AqE_ {l : List (Value × List Nat)} (i : Nat) : tot (l.take i) ≤ tot l := by
 unfold tot
 have : (l.map fun p => p.2.length).sum = ((l.take i).map fun p => p.2.length).sum + ((l.drop i).map fun p => p.2.length).sum := by
   rw [← List.sum_append, ← List.map_append, List.take_append_drop]
 omega
def PartF (b o : Nat) (l : List (Value × List Nat)) : Nat → Prop := fun x => In b o l.length x ∨ ∃ p ∈ l, BsF p.1 x
structure Parts (s : St) (b o : Nat) (l : List (Value × List Nat)) : Prop where
  row : Row s b o (l.map (·.1))
  bs : ∀ p ∈ l, Bs s p.1 p.2
theorem Parts.same {s s' : St} {b o : Nat} {l : List (Value × List Nat)} (h : Parts s b o l) (hm : s'.mem = s.mem) (hn : s'.next = s.next) : Parts s' b o l :=
 ⟨fun i v e => (h.row i v e).same hm hn, fun p hp => (h.bs p hp).same hm hn⟩
theorem Parts.ext0 {F : Nat → Prop} {s s' : St} {b o : Nat} {l : List (Value × List Nat)} (h : Parts s b o l) (e : Ext F Non s s') : Parts s' b o l := ⟨h.row.ext0 e, fun p hp => (h.bs p hp).ext0 e⟩
section
variable {b o c : Nat} {parts : List (Value × List Nat)}
theorem Parts.get {s : St} (h : Parts s b o parts) {i : Nat} (hi : i < parts.length) : At s b (o + i * 1) parts[i].1 ∧ Bs s parts[i].1 parts[i].2 := by
 refine ⟨?_, h.bs _ (List.getElem_mem hi)⟩
 rw [Nat.mul_one]
 exact h.row i _ (by simp [hi])
theorem Tx_ {i : Nat} (hi : i < parts.length) : tot (parts.take (i + 1)) = tot (parts.take i) + parts[i].2.length := Aoc_ (List.getElem?_eq_getElem hi)
theorem Aih_ (ht : tot parts ≤ 1000000) (hlen : parts.length ≤ 4611686018427387904) {F : Nat → Prop} (hF : ∀ x, PartF b o parts x → F x) {Q : Value × FrameMode → St → Prop} {s0 : St} (hb0 : s0.lim ≤ s0.next) (hp : Parts s0 b o parts) : ∀ (k i n : Nat) (tm : T Value) (s : St) (td : List Item), i + k = parts.length → 7 * k + 7 ≤ n → skim 64 td = CW_ → Ext F Non s0 s → s.mem = s0.mem → s.next = s0.next →
   T.get tm 0 = some (.slice (some ⟨b, o, none⟩) parts.length c) → T.get tm 9 = some (.slice (some ⟨b, o, none⟩) parts.length c) → T.get tm 10 = some (.int .i64 (parts.length : Nat)) → T.get tm 11 = some (.int .i64 (i : Nat)) → T.get tm 3 = some (.int .i64 (tot (parts.take i) : Nat)) →
   (∀ n' tm' s1 td', n ≤ n' + 7 * k + 2 → skim 64 td' = Ef_ → Ext F Non s0 s1 → s1.mem = s0.mem → s1.next = s0.next → T.get tm' 0 = some (.slice (some ⟨b, o, none⟩) parts.length c) → T.get tm' 3 = some (.int .i64 (tot parts : Nat)) → W (runF envS n' ⟨63, GD_, AX_, tm', td', .run, .normal, none⟩) s1 Q) →
   W (runF envS n ⟨63, GD_, AX_, tm, td, .run, .normal, none⟩) s Q := by
 intro k
 induction k with
 | zero =>
   intro i n tm s td hi hn hT hx hm hnx h0 h9 h10 h11 h3 q
   refine PZ_.w hT (by omega) ?_
   simp -implicitDefEqProofs only [Ku_, Ag_, W_oS, Aa_, Ac_, Bh_, h10, h11]
   refine W.cond (v := false) Mj_ QI_ (by simp [T.get_set]; omega) (by omega) (fun h => by cases h) fun _ => ?_
   have e : tot (parts.take i) = tot parts := by rw [show i = parts.length by omega, List.take_length]
   rw [e] at h3
   exact q _ _ _ _ (by omega) Wk_ hx hm hnx (by simp [T.get_set, h0]) (by simp [T.get_set, h3])
 | succ k ih =>
   intro i n tm s td hi hn hT hx hm hnx h0 h9 h10 h11 h3 q
   have hil : i < parts.length := by omega
   obtain ⟨g1, g2⟩ := hp.get hil
   have hlt := Tx_ hil
   have htl := AqE_ (l := parts) (i + 1)
   refine PZ_.w hT (by omega) ?_
   simp -implicitDefEqProofs only [Ku_, Ag_, W_oS, Aa_, Ac_, Bh_, h10, h11]
   refine W.cond (v := true) Mj_ QI_ (by simp [T.get_set]; omega) (by omega) (fun _ => ?_) fun h => by cases h
   refine Acd_.w Wg_ (by omega) ?_
   simp -implicitDefEqProofs only [PN_, Ag_, W_oS, Aa_, W_mv, Ac_, T.get_set, reduceIte, Nat.reduceEqDiff, Nat.reduceEqDiff, ↓reduceIte, h9, h11, Cg_ Bt_ hil]
   refine W.load1 GZ_ (g1.same hm hnx) ?_
   refine Adg_.w Xq_ (by omega) ?_
   have ew : wrap64 ((tot (parts.take i) : Nat) + (parts[i].2.length : Nat) : Int) = (tot (parts.take (i + 1)) : Nat) := by
     rw [AK_ (by omega) (by omega), hlt]; simp
   have ei : wrap64 ((i : Nat) + 1 : Int) = ((i + 1 : Nat) : Int) := by
     have : parts.length ≤ 4611686018427387904 := hlen
     rw [AK_ (by omega) (by omega)]; simp
   have hx1 : Ext F Non s0 (s.rdN (b + (o + i * 1))) := hx.trans (Ext.rdN (F := F) s _ fun _ => hF _ (.inl ⟨by omega, by omega⟩)) hb0 (fun _ _ h => h) fun _ _ h => h
   simp -implicitDefEqProofs only [QZ_, Ag_, W_oS, Aa_, W_mv, Ac_, T.get_set, Ae_, Ah_, Ab_, reduceIte, Nat.reduceEqDiff, Nat.reduceEqDiff, ↓reduceIte, BC_, h3, Bs.len (s := s.rdN (b + (o + i * 1))) (g2.same hm hnx) AL_, ew]
   refine AcT_.w WV_ (by omega) ?_
   simp -implicitDefEqProofs only [Qs_, Ag_, W_oS, Aa_, W_mv, Ac_, T.get_set, reduceIte, ↓reduceIte, Bh_]
   refine W.cond (v := false) TH_ Zf_ (by simp [T.get_set]) (by omega) (fun h => by cases h) fun _ => ?_
   refine YW_.w RK_ (by omega) ?_
   simp -implicitDefEqProofs only [OH_, Ag_, W_oS, Aa_, W_mv, Ac_, T.get_set, reduceIte, Nat.reduceEqDiff, Nat.reduceEqDiff, ↓reduceIte, BC_, h11, ei]
   exact ih (i + 1) _ _ _ _ (by omega) (by omega) VL_ hx1 hm hnx (by simp [T.get_set, h0]) (by simp [T.get_set, h9]) (by simp [T.get_set, h10]) (by simp [T.get_set]) (by simp [T.get_set]) fun n' tm' s1 td' e => q n' tm' s1 td' (by omega)
end
end Go.Proofs.Ytofanlcjeohcjaa.Am
namespace Go.Proofs.Ytofanlcjeohcjaa.Am
open Go.RowKit
section
variable {b o c : Nat} {parts : List (Value × List Nat)}
def fl (l : List (Value × List Nat)) : List Nat := (l.map (·.2)).flatten
theorem NB_ (l : List (Value × List Nat)) : (fl l).length = tot l := by
 unfold fl tot
 rw [List.length_flatten, List.map_map]
 rfl
theorem ArV_ {l : List (Value × List Nat)} {i : Nat} (h : i < l.length) : fl (l.take (i + 1)) = fl (l.take i) ++ l[i].2 := by
 unfold fl
 rw [List.take_add_one, List.getElem?_eq_getElem h, List.map_append, List.flatten_append]
 simp
theorem Ajr_ (ht : tot parts ≤ 1000000) (hlen : parts.length ≤ 4611686018427387904) {F : Nat → Prop} (hF : ∀ x, PartF b o parts x → F x) {Q : Value × FrameMode → St → Prop} {s0 : St} (hb0 : s0.lim ≤ s0.next) (hp : Parts s0 b o parts) {nb cc : Nat} (hnb : s0.next ≤ nb) (hcc : cc % capU = tot parts) : ∀ (k i n : Nat) (tm : T Value) (s : St) (td : List Item), i + k = parts.length → 6 * k + 6 ≤ n → skim 64 td = Ct_ → Ext F Non s0 s → Owned s nb 0 (tot parts) → OwnRow s nb 0 (u8l (fl (parts.take i))) →
   T.get tm 25 = some (.slice (some ⟨b, o, none⟩) parts.length c) → T.get tm 26 = some (.int .i64 (parts.length : Nat)) → T.get tm 27 = some (.int .i64 (i : Nat)) → T.get tm 6 = some (.slice (some ⟨nb, 0, none⟩) (tot (parts.take i)) cc) →
   (∀ n' tm' s1 td', n ≤ n' + 6 * k + 2 → skim 64 td' = Dh_ → Ext F Non s0 s1 → OwnRow s1 nb 0 (u8l (fl parts)) → T.get tm' 6 = some (.slice (some ⟨nb, 0, none⟩) (tot parts) cc) → W (runF envS n' ⟨63, GD_, AX_, tm', td', .run, .normal, none⟩) s1 Q) →
   W (runF envS n ⟨63, GD_, AX_, tm, td, .run, .normal, none⟩) s Q := by
 intro k
 induction k with
 | zero =>
   intro i n tm s td hi hn hT hx hown hrow h25 h26 h27 h6 q
   refine NP_.w hT (by omega) ?_
   simp -implicitDefEqProofs only [Ir_, Ag_, W_oS, Aa_, Ac_, Bh_, h26, h27]
   refine W.cond (v := false) IJ_ NA_ (by simp [T.get_set]; omega) (by omega) (fun h => by cases h) fun _ => ?_
   have e : parts.take i = parts := by rw [show i = parts.length by omega, List.take_length]
   rw [e] at h6 hrow
   exact q _ _ _ _ (by omega) RZ_ hx hrow (by simp [T.get_set, h6])
 | succ k ih =>
   intro i n tm s td hi hn hT hx hown hrow h25 h26 h27 h6 q
   have hil : i < parts.length := by omega
   obtain ⟨g1, g2⟩ := (hp.ext0 hx).get hil
   have hlt := Tx_ hil
   have htl := AqE_ (l := parts) (i + 1)
   refine NP_.w hT (by omega) ?_
   simp -implicitDefEqProofs only [Ir_, Ag_, W_oS, Aa_, Ac_, Bh_, h26, h27]
   refine W.cond (v := true) IJ_ NA_ (by simp [T.get_set]; omega) (by omega) (fun _ => ?_) fun h => by cases h
   refine Zz_.w RN_ (by omega) ?_
   simp -implicitDefEqProofs only [Oz_, Ag_, W_oS, Aa_, W_mv, Ac_, T.get_set, reduceIte, Nat.reduceEqDiff, Nat.reduceEqDiff, ↓reduceIte, h25, h27, Cg_ Bt_ hil]
   refine W.load1 GZ_ g1 ?_
   have hx1 : Ext F Non s0 (s.rdN (b + (o + i * 1))) := hx.trans (Ext.rdN (F := F) s _ fun _ => hF _ (.inl ⟨by omega, by omega⟩)) hb0 (fun _ _ h => h) fun _ _ h => h
   refine YR_.w Ss_ (by omega) ?_
   simp -implicitDefEqProofs only [OJ_, Ag_, W_oS, Aa_, W_mv, Ac_, T.get_set, Ae_, Ah_, Ab_, reduceIte, Nat.reduceEqDiff, Nat.reduceEqDiff, ↓reduceIte, h6, Aen_]
   refine W.appIn (s := s.rdN (b + (o + i * 1))) TI_ (g2.same (s' := s.rdN (b + (o + i * 1))) rfl rfl).src.g (by rw [hcc]; omega) (by rw [Ar_, Nat.mul_one]) (Br_ _) (fun j hj => ?_) fun s2 n2 x2 r2 => ?_
   · obtain ⟨u, hu⟩ := hown (tot (parts.take i) + j) (by omega)
     exact ⟨u, by rw [show 0 + tot (parts.take i) * 1 + j = 0 + (tot (parts.take i) + j) by omega]; exact hu⟩
   have ei : wrap64 ((i : Nat) + 1 : Int) = ((i + 1 : Nat) : Int) := by
     rw [AK_ (by omega) (by omega)]; simp
   have hx2 : Ext F Non s0 s2 := hx1.step x2 hb0 (fun l hl h => by
     rcases h with h | h
     · exact hF _ (.inr ⟨_, List.getElem_mem hil, h⟩)
     · exact absurd h.1 (by omega)) fun l h => by have := h.1; omega
   have el : parts[i].2.length * 1 = (u8l parts[i].2).length := by rw [Ar_, Nat.mul_one]
   rw [el] at x2
   have hown2 : Owned s2 nb 0 (tot parts) := Owned.ext (s := s.rdN (b + (o + i * 1))) (fun j hj => let ⟨u, hu⟩ := hown j hj; ⟨u, hu.same rfl rfl⟩) x2 r2
   have hrow2 : OwnRow s2 nb 0 (u8l (fl (parts.take (i + 1)))) := by
     rw [ArV_ hil]
     unfold u8l
     rw [List.map_append]
     refine OwnRow.append (OwnRow.ext (s := s.rdN (b + (o + i * 1))) (fun j v e => (hrow j v e).same rfl rfl) x2 fun j hj => ?_) ?_
     · rw [Ar_, NB_] at hj
       intro h
       have := h.1
       omega
     · rw [Ar_, NB_]
       rw [Nat.mul_one] at r2
       exact r2
   refine Zc_.w RQ_ (by omega) ?_
   simp -implicitDefEqProofs only [Ou_, Ag_, W_oS, Aa_, W_mv, Ac_, T.get_set, reduceIte, Nat.reduceEqDiff, Nat.reduceEqDiff, ↓reduceIte, BC_, h27, ei]
   exact ih (i + 1) _ _ _ _ (by omega) (by omega) Sm_ hx2 hown2 hrow2 (by simp [T.get_set, h25]) (by simp [T.get_set, h26]) (by simp [T.get_set]) (by simp [T.get_set, hlt]) fun n' tm' s1 td' e => q n' tm' s1 td' (by omega)
end
end Go.Proofs.Ytofanlcjeohcjaa.Am
namespace Go.Proofs.Ytofanlcjeohcjaa.Am
open Go.RowKit
structure New (s s' : St) (v : Value) (l : List Nat) : Prop where
  bn : Bn s' v l
  new : ∀ x, BsF v x → s.next ≤ x
theorem Ext.cx' {F G : Nat → Prop} {s s1 : St} {c : Ctx} (x : Ext F G (s.cxN c) s1) : Ext F G s (s1.cxN s.cx) := ⟨x.nxt, x.lim, rfl, x.mem, x.rd, x.wr⟩
theorem Bn.same {s s' : St} {v : Value} {l : List Nat} (h : Bn s v l) (hm : s'.mem = s.mem) (hn : s'.next = s.next) : Bn s' v l := by
 obtain ⟨b, o, c, h0, h1, h2, h3⟩ := h
 exact ⟨b, o, c, h0, h1, h2, fun i v e => (h3 i v e).same hm hn⟩
theorem GK_ {n : Nat} {s : St} {b o c : Nat} {parts : List (Value × List Nat)} {Q : Value → St → Prop} (hbd : s.lim ≤ s.next) (hp : Parts s b o parts) (h0 : 0 < tot parts) (ht : tot parts ≤ 1000000) (hlen : parts.length ≤ 4611686018427387904) (hn : 13 * parts.length + 60 ≤ n)
   (q : ∀ s1 v, Ext (PartF b o parts) Non s s1 → New s s1 v (fl parts) → Q v s1) : W (callW envS (runF envS n) 63 [.slice (some ⟨b, o, none⟩) parts.length c]) s Q := by
 refine AfF_ fun tm hk0 => ?_
 have hpc : Parts (s.cxN cxN) b o parts := hp.same rfl rfl
 refine Abu_.w rfl (by omega) ?_
 simp -implicitDefEqProofs only [RD_, Aa_, W_mv, Ac_]
 refine Adq_.w Wz_ (by omega) ?_
 simp -implicitDefEqProofs only [QL_, Aa_, W_mv, Ac_]
 refine AcH_.w Wi_ (by omega) ?_
 simp -implicitDefEqProofs only [Qo_, Ag_, W_oS, Aa_, W_mv, Ac_, T.get_set, Ae_, Ah_, Ab_, reduceIte, reduceCtorEq, ↓reduceIte, hk0, Bu_ Bt_]
 refine Aih_ (c := c) ht hlen (F := PartF b o parts) (fun _ h => h) (s0 := s.cxN cxN) hbd hpc parts.length 0 _ _ _ _ (by omega) (by omega) WD_ (Ext.refl _) rfl rfl (by simp [T.get_set, hk0]) (by simp [T.get_set]) (by simp [T.get_set]) (by simp [T.get_set]) (by simp [T.get_set, tot]) fun n1 tm1 s1 td1 hn1 hT1 hx1 hm1 hnx1 g0 g3 => ?_
 refine AcB_.w hT1 (by omega) ?_
 simp -implicitDefEqProofs only [Ra_, Ag_, W_on, Aa_, W_mv, Ac_, Ae_, Ah_, Ab_, AB_, g3]
 have hb1 : s1.lim ≤ s1.next := hx1.bnd hbd
 refine AdN_ hb1 (by omega) h0 ht fun s2 v nb hr x2 => ?_
 obtain ⟨rfl, hnew, hown⟩ := hr
 have hx2 : Ext (PartF b o parts) Non (s.cxN cxN) s2 := hx1.step x2 hbd (fun _ _ h => h.elim) fun _ h => h.elim
 have hnb : s.next ≤ nb := by
   have : s1.next = s.next := hnx1
   omega
 have hcc := ZC_ (q := (nb + tot parts * 1) * 1024 + 1) (Bi_ (n := tot parts) (by omega))
 have hok := Tt_ (m := nb + tot parts * 1) (sz := 1) (Bi_ (n := tot parts) (by omega)) (by decide)
 generalize hC : capU * ((nb + tot parts * 1) * 1024 + 1) + tot parts = C at *
 refine AcQ_.w WN_ (by omega) ?_
 simp -implicitDefEqProofs only [QH_, Ag_, W_oS, Aa_, W_mv, Ac_, T.get_set, Ae_, Ah_, Ab_, reduceIte, reduceCtorEq, ↓reduceIte, g0, Bu_ Bt_]
 refine Ajr_ (c := c) ht hlen (F := PartF b o parts) (fun _ h => h) (s0 := s.cxN cxN) hbd hpc (nb := nb) (cc := C) hnb hcc parts.length 0 _ _ _ _ (by omega) (by omega) SX_ hx2 (by have := hown.owned; rwa [List.length_replicate] at this) (fun i v e => by simp [fl] at e) (by simp [T.get_set]) (by simp [T.get_set]) (by simp [T.get_set]) (by simp [T.get_set, tot]) fun n3 tm3 s3 td3 hn3 hT3 hx3 hrow g6 => ?_
 refine Yv_.w hT3 (by omega) ?_
 simp -implicitDefEqProofs only [OK_, Aa_, W_mv, Ac_, g6]
 refine W.end' (rs := [2]) (vs := [.slice (some ⟨nb, 0, none⟩) (tot parts) C]) So_ (.inl Ze_) (by omega) PF_ AaW_ hx3.cx (by simp [T.get_set]) ?_
 refine q _ _ hx3.cx' ⟨⟨nb, 0, C, by rw [NB_]; rfl, by rw [NB_, hcc]; exact Nat.le_refl _, hok, hrow.row⟩, fun x hx => ?_⟩
 have : nb + 0 ≤ x := hx.1
 omega
end Go.Proofs.Ytofanlcjeohcjaa.Am
namespace Go.Proofs.Ytofanlcjeohcjaa.Am
open Go.RowKit
theorem Zq_ : elT envS 43 = some (1, 24, [.slice none 0 0]) := by kernel_rfl
theorem YS_ : hasT envS 51 = true := by kernel_rfl
theorem Vm_ : intK envS 5 = some .u8 := by kernel_rfl
def le4 (n : Nat) : List Nat := [n % 256, n >>> 8 % 256, n >>> 16 % 256, n >>> 24 % 256]
def gput (l : List Nat) : List Nat := l ++ le4 (crcMore 0 l)
theorem Byt.le4 (n : Nat) : Byt (le4 n) := fun x hx => by
 simp -implicitDefEqProofs only [Am.le4, List.mem_cons, List.not_mem_nil, or_false] at hx
 omega
theorem Byt.gput {l : List Nat} (h : Byt l) : Byt (gput l) := fun x hx => by
 rcases List.mem_append.1 hx with hx | hx
 · exact h x hx
 · exact Byt.le4 _ x hx
theorem Mc_ {n : Nat} {s : St} {v : Value} {l : List Nat} {Q : Value → St → Prop} (hbd : s.lim ≤ s.next) (hn : 120 ≤ n) (h : Bn s v l) (hl : Byt l) (hz : l.length ≤ 900000)
   (q : ∀ s1 w, Ext (BsF v) Non s s1 → New s s1 w (gput l) → Q w s1) : W (callW envS (runF envS n) 64 [v]) s Q := by
 refine Aex_ fun tm h0 => ?_
 have hc : Bn (s.cxN cxN) v l := h.same rfl rfl
 refine Acs_.w rfl (by omega) ?_
 simp -implicitDefEqProofs only [Rl_, Aa_, W_mv, Ac_]
 refine AbP_.w Xb_ (by omega) ?_
 simp -implicitDefEqProofs only [Rb_, Ag_, W_on, Aa_, W_mv, Ac_, T.get_set, Ae_, Ah_, Ab_, AB_, reduceIte, reduceCtorEq, ↓reduceIte, h0]
 refine LG_ (by omega) hc hl (by omega) fun s1 m1 n1 x1 => ?_
 refine Acm_.w WU_ (by omega) ?_
 generalize hS : crcMore 0 l = S
 simp -implicitDefEqProofs only [PT_, Ag_, W_oS, W_on, Aa_, W_mv, Ac_, T.get_set, Ae_, Ah_, AC_, AG_, Ab_, AB_, reduceIte, reduceCtorEq, ↓reduceIte, h0]
 simp -implicitDefEqProofs only [Ur_ YS_ Vm_, wrap_u8, Ahy_ (k := .u32) (by decide), AkT_ (k := .u32) (by decide), Akj_ (k := .u32) (by decide)]
 have hb1 : s1.lim ≤ s1.next := x1.bnd hbd
 refine W.buildS hb1 (r := u8l (le4 S)) Kt_ (by decide) rfl (Bi_ (by decide)) fun s2 n2 x2 r2 => ?_
 have hb2 : s2.lim ≤ s2.next := x2.bnd hb1
 obtain ⟨b, o, c, rfl, hv⟩ := hc
 refine W.buildS hb2 (r := [.slice (some ⟨b, o, none⟩) l.length c, .slice (some ⟨s1.next, 0, none⟩) 4 4]) Zq_ (by decide) rfl (Bi_ (by decide)) fun s3 n3 x3 r3 => ?_
 have hb3 : s3.lim ≤ s3.next := x3.bnd hb2
 have hx1 : Ext (BsF (.slice (some ⟨b, o, none⟩) l.length c)) Non (s.cxN cxN) s1 := x1
 have hx2 := hx1.step x2 hbd (fun _ _ h => h.elim) fun _ h => h.elim
 have hx3 := hx2.step x3 hbd (fun _ _ h => h.elim) fun _ h => h.elim
 have hBv : Bs s3 (.slice (some ⟨b, o, none⟩) l.length c) l := (Bn.bs ⟨b, o, c, rfl, hv⟩).ext0 hx3
 have hB4 : Bs s3 (.slice (some ⟨s1.next, 0, none⟩) 4 4) (le4 S) := (OwnRow.bn r2 (Bi_ (by simp [le4]))).ext0 x3
 have hlt : tot [((.slice (some ⟨b, o, none⟩) l.length c : Value), l), (.slice (some ⟨s1.next, 0, none⟩) 4 4, le4 S)] = l.length + 4 := by simp [tot, le4]
 refine GK_ (parts := [(.slice (some ⟨b, o, none⟩) l.length c, l), (.slice (some ⟨s1.next, 0, none⟩) 4 4, le4 S)]) hb3 ⟨r3.row, fun p hp => ?_⟩ (by rw [hlt]; omega) (by rw [hlt]; omega) (by simp) (by simp; omega) fun s4 w x4 hw => ?_
 · rcases List.mem_cons.1 hp with rfl | hp
   · exact hBv
   · rcases List.mem_cons.1 hp with rfl | hp
     · exact hB4
     · cases hp
 have hx4 := hx3.step x4 hbd (fun x hx h => by
   have hn1 : s.next ≤ s1.next := x1.nxt
   have hn2 : s1.next ≤ s2.next := x2.nxt
   have hxl : x < s.lim := hx
   rcases h with h | ⟨p, hp, h⟩
   · have := h.1; omega
   · rcases List.mem_cons.1 hp with rfl | hp
     · exact h
     · rcases List.mem_cons.1 hp with rfl | hp
       · have : s1.next + 0 ≤ x := h.1
         omega
       · cases hp) fun _ h => h.elim
 refine W.end' (rs := [2]) (vs := [w]) VX_ (.inl AcK_) (by omega) Ro_ AaN_ hx4.cx (by simp [T.get_set]) ?_
 refine q _ _ hx4.cx' ⟨?_, fun x hx => ?_⟩
 · have := hw.bn.same (s' := s4.cxN s.cx) rfl rfl
   show Bn (s4.cxN s.cx) w (gput l)
   unfold gput
   rw [hS]
   simpa [fl] using this
 · have h1 := hw.new x hx
   have h2 : s.next ≤ s3.next := hx3.nxt
   omega
end Go.Proofs.Ytofanlcjeohcjaa.Am
namespace Go.Proofs.Ytofanlcjeohcjaa.Am
open Go.RowKit
theorem Bs.at {s : St} {v : Value} {l : List Nat} (h : Bs s v l) {i : Nat} (hi : i < l.length) : ∃ b o c, v = .slice (some ⟨b, o, none⟩) l.length c ∧ At s b (o + i * 1) (u8 l[i]) ∧ (∀ x, x = b + (o + i * 1) → BsF v x) := by
 rcases h with ⟨rfl, rfl⟩ | ⟨b, o, c, rfl, _, _, h3⟩
 · simp at hi
 · refine ⟨b, o, c, rfl, ?_, fun x hx => ⟨by omega, by omega⟩⟩
   rw [Nat.mul_one]
   exact h3.at (List.getElem?_eq_getElem hi)
section
variable {va vb : Value} {la lb : List Nat}
theorem AiY_ {F : Nat → Prop} (hFa : ∀ x, BsF va x → F x) (hFb : ∀ x, BsF vb x → F x) {Q : Value × FrameMode → St → Prop} {s0 : St} (hb0 : s0.lim ≤ s0.next) (ha : Bs s0 va la) (hb : Bs s0 vb lb) (hlen : la.length = lb.length) (hz : la.length ≤ 4611686018427387904) (hcx : s0.cx = .cx none (some [])) (q : ∀ s1, Ext F Non s0 s1 → s1.mem = s0.mem → s1.next = s0.next → Q (.bool (decide (la = lb)), .run) s1) :
   ∀ (k i n : Nat) (tm : T Value) (s : St) (td : List Item), i + k = la.length → 7 * k + 20 ≤ n → skim 64 td = DF_ → Ext F Non s0 s → s.mem = s0.mem → s.next = s0.next → la.take i = lb.take i →
   T.get tm 0 = some va → T.get tm 1 = some vb → T.get tm 12 = some (.int .i64 (la.length : Nat)) → T.get tm 13 = some (.int .i64 (i : Nat)) →
   W (runF envS n ⟨116, AeZ_, Bw_, tm, td, .run, .normal, none⟩) s Q := by
 intro k
 induction k with
 | zero =>
   intro i n tm s td hi hn hT hx hm hnx heq h0 h1 h12 h13
   refine Uz_.w hT (by omega) ?_
   simp -implicitDefEqProofs only [MT_, Ag_, W_oS, Aa_, Ac_, Bh_, h12, h13]
   refine W.cond (v := false) NG_ Vx_ (by simp [T.get_set]; omega) (by omega) (fun h => by cases h) fun _ => ?_
   refine Afu_.w Zn_ (by omega) ?_
   simp -implicitDefEqProofs only [Tl_, Aa_, W_mv, Ac_]
   have e : la = lb := by
     rw [show i = la.length by omega, List.take_length, hlen, List.take_length] at heq
     exact heq
   refine W.end' (rs := [4]) (vs := [.bool true]) Xs_ (.inl Abp_) (by omega) HL_ JX_ (hx.cx.trans hcx) (by simp [T.get_set]) ?_
   have := q s hx hm hnx
   rw [decide_eq_true e] at this
   exact this
 | succ k ih =>
   intro i n tm s td hi hn hT hx hm hnx heq h0 h1 h12 h13
   have hia : i < la.length := by omega
   have hib : i < lb.length := by omega
   obtain ⟨ba, oa, ca, rfl, ga, fa⟩ := ha.at hia
   obtain ⟨bb, ob, cb, rfl, gb, fb⟩ := hb.at hib
   refine Uz_.w hT (by omega) ?_
   simp -implicitDefEqProofs only [MT_, Ag_, W_oS, Aa_, Ac_, Bh_, h12, h13]
   refine W.cond (v := true) NG_ Vx_ (by simp [T.get_set]; omega) (by omega) (fun _ => ?_) fun h => by cases h
   refine Agn_.w YF_ (by omega) ?_
   simp -implicitDefEqProofs only [UH_, Aa_, W_mv, Ac_, T.get_set, reduceIte, Nat.reduceEqDiff, Nat.reduceEqDiff, ↓reduceIte, h13]
   refine AcX_.w Xr_ (by omega) ?_
   simp -implicitDefEqProofs only [Qe_, T.get_set, Nat.reduceEqDiff, ↓reduceIte, h0, h1, Ce_, AV_]
   rw [W_dq fun s Q => Cg_ (s := s) AL_ hia Q]
   refine W.dload MY_ (ga.same hm hnx) fun rd1 hr1 => ?_
   simp -implicitDefEqProofs only [AV_]
   rw [W_dq fun s Q => Cg_ (s := s) AL_ hib Q]
   refine W.dload MY_ (gb.same hm hnx) fun rd2 hr2 => ?_
   rw [Aa_]
   refine ⟨Ge_ (by simp) (by simp), ?_⟩
   refine W.cast (Acf_ _ _ _ _ _ _ _ _ _ _ _ _ _) ?_
   simp -implicitDefEqProofs only [Ag_, W_oS, Aa_, Bl_, Arw_]
   generalize hs' : (⟨(dSt s.mem s.next).mem, (dSt s.mem s.next).next, s.lim, _, _, s.cx⟩ : St) = s'
   have hx' : Ext F Non s0 s' := by
     rw [← hs']
     refine hx.trans (Ext.draw (F := F) (Nat.le_refl _) (fun _ _ => rfl) (by simp) (by
       simp -implicitDefEqProofs only [List.mem_cons, List.not_mem_nil, or_false]
       rintro m (rfl | rfl | rfl | rfl | rfl | rfl | rfl | rfl) x hx _ <;> first | (exact hFa _ (fa _ (hr1 _ hx))) | (exact hFb _ (fb _ (hr2 _ hx))) | (cases hx))) hb0 (fun _ _ h => h) fun _ _ h => h
   have hm' : s'.mem = s0.mem := by rw [← hs']; exact hm
   have hn' : s'.next = s0.next := by rw [← hs']; exact hnx
   by_cases he : la[i] = lb[i]
   · refine W.cond (v := false) Kp_ QT_ (by simp [T.get_set, he]) (by omega) (fun h => by cases h) fun _ => ?_
     refine AbZ_.w TF_ (by omega) ?_
     have ei : wrap64 ((i : Nat) + 1 : Int) = ((i + 1 : Nat) : Int) := by
       rw [AK_ (by omega) (by omega)]; simp
     simp -implicitDefEqProofs only [PL_, Ag_, W_oS, Aa_, W_mv, Ac_, T.get_set, reduceIte, Nat.reduceEqDiff, Nat.reduceEqDiff, ↓reduceIte, BC_, h13, ei]
     refine ih (i + 1) _ _ _ _ (by omega) (by omega) Xt_ hx' hm' hn' ?_ (by simp [T.get_set, h0]) (by simp [T.get_set, h1]) (by simp [T.get_set, h12]) (by simp [T.get_set])
     rw [List.take_add_one, List.take_add_one, heq, List.getElem?_eq_getElem hia, List.getElem?_eq_getElem hib, he]
   · refine W.cond (v := true) Kp_ QT_ (by simp [T.get_set, he]) (by omega) (fun _ => ?_) fun h => by cases h
     refine Aed_.w Uv_ (by omega) ?_
     simp -implicitDefEqProofs only [QN_, Aa_, W_mv, Ac_]
     have e : la ≠ lb := by
       intro e
       subst e
       exact he rfl
     refine W.end' (rs := [4]) (vs := [.bool false]) Uw_ (.inl Adm_) (by omega) HL_ JX_ (hx'.cx.trans hcx) (by simp [T.get_set]) ?_
     have := q s' hx' hm' hn'
     rw [decide_eq_false e] at this
     exact this
theorem YO_ {n : Nat} {s : St} {Q : Value → St → Prop} (hbd : s.lim ≤ s.next) (ha : Bs s va la) (hb : Bs s vb lb) (hz : la.length ≤ 4611686018427387904) (hn : 7 * la.length + 40 ≤ n)
   (q : ∀ s1, Ext (fun x => BsF va x ∨ BsF vb x) Non s s1 → s1.mem = s.mem → s1.next = s.next → Q (.bool (decide (la = lb))) s1) : W (callW envS (runF envS n) 116 [va, vb]) s Q := by
 refine Aju_ fun tm h0 h1 => ?_
 have ha' : Bs (s.cxN cxN) va la := ha.same rfl rfl
 have hb' : Bs (s.cxN cxN) vb lb := hb.same rfl rfl
 refine Aev_.w rfl (by omega) ?_
 simp -implicitDefEqProofs only [Vd_, Aa_, W_mv, Ac_]
 refine AeY_.w Aab_ (by omega) ?_
 simp -implicitDefEqProofs only [Ux_, Ag_, W_oS, Aa_, W_mv, Ac_, T.get_set, Ae_, Ah_, Ab_, reduceIte, Nat.reduceEqDiff, Nat.reduceEqDiff, reduceCtorEq, ↓reduceIte, HH_, h0, h1, ha'.len AL_, hb'.len AL_]
 by_cases hlen : la.length = lb.length
 · refine W.cond (v := false) Ny_ Td_ (by simp [T.get_set, hlen]) (by omega) (fun h => by cases h) fun _ => ?_
   refine Aet_.w YI_ (by omega) ?_
   simp -implicitDefEqProofs only [Tf_, Ag_, W_oS, Aa_, W_mv, Ac_, T.get_set, Ae_, Ah_, Ab_, reduceIte, reduceCtorEq, ↓reduceIte, h0, ha'.len AL_]
   exact AiY_ (s0 := s.cxN cxN) (F := fun x => BsF va x ∨ BsF vb x) (fun _ h => .inl h) (fun _ h => .inr h) hbd ha' hb' hlen hz rfl (fun s1 x1 m1 n1 => q _ x1.cx' m1 n1) la.length 0 _ _ _ _ (by omega) (by omega) Aan_ (Ext.refl _) rfl rfl (by simp) (by simp [T.get_set, h0]) (by simp [T.get_set, h1]) (by simp [T.get_set]) (by simp [T.get_set])
 · refine W.cond (v := true) Ny_ Td_ (by simp [T.get_set]; omega) (by omega) (fun _ => ?_) fun h => by cases h
   refine Ago_.w YH_ (by omega) ?_
   simp -implicitDefEqProofs only [UK_, Aa_, W_mv, Ac_]
   have e : la ≠ lb := fun e => hlen (by rw [e])
   refine W.end' (rs := [4]) (vs := [.bool false]) AaK_ (.inl AeD_) (by omega) HL_ JX_ rfl (by simp [T.get_set]) ?_
   have := q _ (Ext.refl s) rfl rfl
   rw [decide_eq_false e] at this
   exact this
end
end Go.Proofs.Ytofanlcjeohcjaa.Am
namespace Go.Proofs.Ytofanlcjeohcjaa.Am
open Go.RowKit
theorem Fresh1.toNew {s s' : St} {v : Value} {b : Nat} {l : List Nat} (h : Fresh1 s s' 1 l.length (u8l l) v b) (hl : l.length < capU) : New s s' v l := by
 obtain ⟨rfl, hnew, hown, _, _, _⟩ := h
 refine ⟨⟨b, 0, _, rfl, by rw [ZC_ hl]; exact Nat.le_refl _, Tt_ hl (by decide), hown.row⟩, fun x hx => ?_⟩
 have : b + 0 ≤ x := hx.1
 omega
theorem YG_ {n : Nat} {s : St} {v : Value} {l : List Nat} {Q : Value → St → Prop} (hbd : s.lim ≤ s.next) (h : Bn s v l) (hz : l.length ≤ 1000000) (hn : 30 ≤ n)
   (q : ∀ s1 w, Ext (BsF v) Non s s1 → New s s1 w l → Q w s1) : W (callW envS (runF envS n) 117 [v]) s Q := by
 refine Aic_ fun tm h0 => ?_
 have hc : Bn (s.cxN cxN) v l := h.same rfl rfl
 refine AeG_.w rfl (by omega) ?_
 simp -implicitDefEqProofs only [UV_, Aa_, W_mv, Ac_]
 refine Afi_.w ZJ_ (by omega) ?_
 obtain ⟨b, o, c, rfl, hv⟩ := hc
 simp -implicitDefEqProofs only [Ua_, Ag_, W_oS, Aa_, W_mv, Ac_, T.get_set, reduceIte, reduceCtorEq, ↓reduceIte, h0, Asj_ AL_]
 refine W.cond (v := false) Zh_ AfX_ (by simp [T.get_set]) (by omega) (fun h => by cases h) fun _ => ?_
 refine Aga_.w YD_ (by omega) ?_
 simp -implicitDefEqProofs only [SP_, Ag_, W_oS, Aa_, W_mv, Ac_, T.get_set, Ae_, Ah_, AG_, Ab_, reduceIte, reduceCtorEq, ↓reduceIte, h0]
 refine W.buildS (s := s.cxN cxN) hbd (r := []) Kt_ (by decide) rfl (Bi_ (by decide)) fun s1 n1 x1 r1 => ?_
 have hb1 : s1.lim ≤ s1.next := x1.bnd hbd
 have hx1 : Ext (BsF (.slice (some ⟨b, o, none⟩) l.length c)) Non (s.cxN cxN) s1 := x1.weak hbd (fun _ _ h => h.elim) fun _ _ h => h
 have hv1 : Bs s1 (.slice (some ⟨b, o, none⟩) l.length c) l := (Bn.bs ⟨b, o, c, rfl, hv⟩).ext0 hx1
 rw [Aen_]
 by_cases hl : 0 < l.length
 · refine W.appEmp hb1 TI_ hv1.src.g hl (by decide) (by decide) (by omega) (by rw [Ar_, Nat.mul_one]) (Br_ _) fun s2 w nb hf x2 => ?_
   have hx2 := hx1.step x2 hbd (fun _ _ h => h) fun _ h => h.elim
   refine W.end' (rs := [2]) (vs := [w]) No_ (.inl TD_) (by omega) Mu_ PS_ hx2.cx (by simp [T.get_set]) ?_
   have hN := hf.toNew (Bi_ (by omega))
   refine q _ _ hx2.cx' ⟨hN.bn.same rfl rfl, fun x hx => ?_⟩
   have h1 := hN.new x hx
   have h2 : s.next ≤ s1.next := hx1.nxt
   omega
 · have h0l : l = [] := List.eq_nil_of_length_eq_zero (by omega)
   subst h0l
   refine W.appIn (s := s1) (n := 0) (len := 0) (c := 0) (l := []) TI_ hv1.src.g (by simp) rfl rfl (fun i hi => absurd hi (by omega)) fun s2 n2 x2 r2 => ?_
   have hx2 := hx1.step x2 hbd (fun _ _ h => by
     rcases h with h | h
     · exact h
     · have h3 := h.1; have h4 := h.2; omega) fun l h => by have h3 := h.1; have h4 := h.2; omega
   refine W.end' (rs := [2]) (vs := [.slice (some ⟨s.next, 0, none⟩) (0 + 0) 0]) No_ (.inl TD_) (by omega) Mu_ PS_ hx2.cx (by simp [T.get_set]; rfl) ?_
   refine q _ _ hx2.cx' ⟨⟨s.next, 0, 0, rfl, by simp, FG_ (by unfold capU; decide), fun i v e => by simp at e⟩, fun x hx => ?_⟩
   have h3 : s.next + 0 ≤ x := hx.1
   have h4 : x < s.next + 0 + (0 + 0) := hx.2
   omega
end Go.Proofs.Ytofanlcjeohcjaa.Am
namespace Go.Proofs.Ytofanlcjeohcjaa.Am
open Go.RowKit
theorem W.cut {E : Env} {t : Nat} {s : St} {v : Value} {l : List Nat} {i j : Nat} {lo hi : Option Value} {Q : Value → St → Prop} (h : Bn s v l) (ht : slN E t = some 1) (hlo : bndV lo 0 = some i) (hhi : bndV hi l.length = some j) (hij : i ≤ j) (hj : j ≤ l.length)
   (q : ∀ v', Bn s v' ((l.take j).drop i) → (∀ x, BsF v' x → BsF v x) → Q v' s) : W (aSlice E t v lo hi) s Q := by
 obtain ⟨b, o, c, rfl, h1, h2, h3⟩ := h
 rw [AlA_ ht hlo hhi hij (by omega) h2]
 obtain ⟨o', e1, e2, e3, e4, e5⟩ := Bs.sub' hij hj h1 h2 h3
 rw [e1]
 refine q _ ⟨b, o', c - i, rfl, e2, e3, e4⟩ fun x hx => ?_
 have hlen : ((l.take j).drop i).length = j - i := by rw [List.length_drop, List.length_take]; omega
 have h6 : b + o' ≤ x := hx.1
 have h7 : x < b + o' + ((l.take j).drop i).length := hx.2
 rw [hlen] at h7
 rcases e5 with rfl | e5
 · exact ⟨by omega, by omega⟩
 · rw [hlen] at e5; omega
def GOk (l : List Nat) : Prop := 4 ≤ l.length ∧ gput (l.take (l.length - 4)) = l
instance (l : List Nat) : Decidable (GOk l) := by unfold GOk; infer_instance
theorem Cm_ (l : List Nat) : (gput l).length = l.length + 4 := by simp [gput, le4]
theorem Sk_ {n : Nat} {s : St} {v : Value} {l : List Nat} {Q : Value → St → Prop} (hbd : s.lim ≤ s.next) (h : Bn s v l) (hb : Byt l) (hz : l.length ≤ 900000) (hn : 7 * l.length + 200 ≤ n)
   (q1 : GOk l → ∀ s1 w, Ext (BsF v) Non s s1 → New s s1 w (l.take (l.length - 4)) → Q (.tuple #[w, .int .i64 0]) s1) (q2 : ¬ GOk l → ∀ s1, Ext (BsF v) Non s s1 → Q (.tuple #[.slice none 0 0, .int .i64 4]) s1) : W (callW envS (runF envS n) 81 [v]) s Q := by
 refine AaF_ fun tm h0 => ?_
 have hc : Bn (s.cxN cxN) v l := h.same rfl rfl
 refine Xp_.w rfl (by omega) ?_
 simp -implicitDefEqProofs only [LI_, Aa_, W_mv, Ac_]
 refine We_.w Sn_ (by omega) ?_
 simp -implicitDefEqProofs only [LK_, Ag_, W_oS, Aa_, W_mv, Ac_, T.get_set, Ae_, Ah_, Ab_, reduceIte, reduceCtorEq, ↓reduceIte, HU_, h0, hc.bs.len AL_]
 refine VY_.w Sa_ (by omega) ?_
 by_cases h4 : 4 ≤ l.length
 · have ek : wrap64 ((l.length : Nat) - 4 : Int) = ((l.length - 4 : Nat) : Int) := by
     rw [AK_ (by omega) (by omega)]; omega
   have ed : decide (((l.length - 4 : Nat) : Int) < 0) = false := by simp
   simp -implicitDefEqProofs only [GG_, Ag_, W_oS, W_on, Aa_, W_mv, Ac_, T.get_set, Ae_, Ah_, Ab_, AB_, reduceIte, Aw_, Bm_, Bx_, BR_, AQ_, reduceCtorEq, ↓reduceIte, Bh_, h0, ek, ed]
   have hcut : (l.take (l.length - 4)).drop 0 = l.take (l.length - 4) := rfl
   refine W.cut hc AL_ (i := 0) (j := l.length - 4) rfl rfl (Nat.zero_le _) (by omega) fun v1 hv1 hF1 => ?_
   rw [hcut] at hv1
   have hB1 : Byt (l.take (l.length - 4)) := fun x hx => hb x (List.mem_of_mem_take hx)
   have hl1 : (l.take (l.length - 4)).length = l.length - 4 := by rw [List.length_take]; omega
   refine Mc_ (s := s.cxN cxN) hbd (by omega) hv1 hB1 (by omega) fun s1 w1 x1 hw1 => ?_
   have hb1 : s1.lim ≤ s1.next := x1.bnd hbd
   have hx1 : Ext (BsF v) Non (s.cxN cxN) s1 := x1.weak hbd (fun x _ hx => hF1 x hx) fun _ _ h => h
   refine YO_ hb1 hw1.bn.bs (hc.ext0 hx1).bs (by rw [Cm_]; omega) (by rw [Cm_]; omega) fun s2 x2 m2 n2 => ?_
   have hx2 : Ext (BsF v) Non (s.cxN cxN) s2 := hx1.step x2 hbd (fun x hx h => by
     rcases h with h | h
     · have h5 : s.next ≤ x := hw1.new x h
       have h6 : x < s.lim := hx
       omega
     · exact h) fun _ h => h.elim
   have hb2 : s2.lim ≤ s2.next := hx2.bnd hbd
   simp -implicitDefEqProofs only [Un_]
   by_cases hg : gput (l.take (l.length - 4)) = l
   · refine W.cond (v := false) Eq_ GT_ (by simp [T.get_set, hg]) (by omega) (fun h => by cases h) fun _ => ?_
     refine XD_.w RY_ (by omega) ?_
     simp -implicitDefEqProofs only [LF_, Ag_, W_on, Aa_, W_mv, Ac_, T.get_set, Ae_, Ah_, Ab_, AB_, reduceIte, Nat.reduceEqDiff, Nat.reduceEqDiff, reduceCtorEq, ↓reduceIte, h0]
     refine W.cut (hc.ext0 hx2) AL_ (i := 0) (j := l.length - 4) rfl rfl (Nat.zero_le _) (by omega) fun v3 hv3 hF3 => ?_
     rw [hcut] at hv3
     refine YG_ hb2 hv3 (by omega) (by omega) fun s3 w x3 hw3 => ?_
     have hx3 : Ext (BsF v) Non (s.cxN cxN) s3 := hx2.step x3 hbd (fun x _ hx => hF3 x hx) fun _ h => h.elim
     refine W.end' (rs := [2, 3]) (vs := [w, .int .i64 0]) Sp_ (.inl Xu_) (by omega) DS_ EV_ hx3.cx (by simp [T.get_set]) ?_
     refine q1 ⟨h4, hg⟩ _ w hx3.cx' ⟨hw3.bn.same rfl rfl, fun x hx => ?_⟩
     have h5 := hw3.new x hx
     have h6 : s.next ≤ s2.next := hx2.nxt
     omega
   · refine W.cond (v := true) Eq_ GT_ (by simp [T.get_set, hg]) (by omega) (fun _ => ?_) fun h => by cases h
     refine LV_.w IL_ (by omega) ?_
     simp -implicitDefEqProofs only [GQ_, Aa_, W_mv, Ac_]
     refine W.end' (rs := [2, 3]) (vs := [.slice none 0 0, .int .i64 4]) Ix_ (.inl LY_) (by omega) DS_ EV_ hx2.cx (by simp [T.get_set]) ?_
     exact q2 (fun h => hg h.2) _ hx2.cx'
 · have ed : decide (wrap64 ((l.length : Nat) - 4 : Int) < 0) = true := by
     rw [AK_ (by omega) (by omega)]; simp; omega
   simp -implicitDefEqProofs only [GG_, Ag_, W_oS, W_on, Aa_, W_mv, Ac_, T.get_set, Ae_, Ah_, Ab_, reduceIte, Aw_, Bp_, Bx_, CD_, AQ_, reduceCtorEq, ↓reduceIte, Bh_, h0, ed]
   refine W.cond (v := true) Eq_ GT_ (by simp [T.get_set]) (by omega) (fun _ => ?_) fun h => by cases h
   refine LV_.w IL_ (by omega) ?_
   simp -implicitDefEqProofs only [GQ_, Aa_, W_mv, Ac_]
   refine W.end' (rs := [2, 3]) (vs := [.slice none 0 0, .int .i64 4]) Ix_ (.inl LY_) (by omega) DS_ EV_ rfl (by simp [T.get_set]) ?_
   exact q2 (fun h => h4 h.1) _ (Ext.refl s)
end Go.Proofs.Ytofanlcjeohcjaa.Am
namespace Go.Proofs.Ytofanlcjeohcjaa.Am
open Go.RowKit
def Jp_ : Nat := globOf Try.f110
def IR_ : Code := Try.f110.body.getD .skip
theorem Om_ : envS.fn.get 110 = some Try.f110 := by kernel_rfl
theorem AbE_ {n : Nat} {s : St} {Q : Value → St → Prop} (h : ∀ tm, W (runF envS n ⟨110, 4, Jp_, tm, [.code IR_], .run, .normal, none⟩) (s.cxN cxN) fun p s1 => Q p.1 (s1.cxN s.cx)) : W (callW envS (runF envS n) 110 []) s Q :=
 W.call (by kernel_rfl) (by kernel_rfl) Om_ (by kernel_rfl) rfl rfl (by simp) (h _ )
theorem Xi_ : Try.f110.results.toList = [.tmp 0] := by kernel_rfl
def HF_ : List Item := skim 64 [.code IR_]
def EI_ : List Item := skim 64 HF_.tail
theorem UY_ : skim 64 HF_.tail = EI_ := by kernel_rfl
def It_ : List Item := skim 64 EI_.tail
theorem Vt_ : skim 64 EI_.tail = It_ := by kernel_rfl
def Oc_ (E : Env) (call round : CallT) (tm : T Value) : M (T Value) :=
  mv (some (.pointer none)) fun v0 =>
  setF 0 v0 tm fun tm1 =>
  M.pure tm1
theorem ZL_ : RegEq 110 4 Jp_ HF_ Oc_ := ⟨by kernel_rfl, fun _ _ _ _ _ _ _ _ _ => by kernel_rfl⟩
def NV_ (E : Env) (call round : CallT) (tm : T Value) : M (T Value) :=
  M.bind (M.on (some (.func (.func 133) #[] #[])) fun f => M.on (seqO []) fun l => callV call round f l) fun v1 =>
  M.bind (oS (seqP [(0, (some (.bool true))), (1, (some v1))]) fun ps => aBuild E 167 ps) fun v2 =>
  M.bind (oS (some v2) fun a => kBox a) fun v3 =>
  mv (some v3) fun v0 =>
  setF 0 v0 tm fun tm1 =>
  M.pure tm1
theorem Yz_ : RegEq 110 4 Jp_ EI_ NV_ := ⟨by kernel_rfl, fun _ _ _ _ _ _ _ _ _ => by kernel_rfl⟩
theorem AaI_ : ∃ k, It_ = .code .ret :: k := ⟨It_.tail, by kernel_rfl⟩
def GF_ : Nat := globOf Try.f133
def Hd_ : Code := Try.f133.body.getD .skip
theorem JJ_ : envS.fn.get 133 = some Try.f133 := by kernel_rfl
theorem Xd_ {n : Nat} {s : St} {Q : Value → St → Prop} (h : ∀ tm, W (runF envS n ⟨133, 2, GF_, tm, [.code Hd_], .run, .normal, none⟩) (s.cxN cxN) fun p s1 => Q p.1 (s1.cxN s.cx)) : W (callW envS (runF envS n) 133 []) s Q :=
 W.call (by kernel_rfl) (by kernel_rfl) JJ_ (by kernel_rfl) rfl rfl (by simp) (h _ )
theorem Sl_ : Try.f133.results.toList = [.cell 0 163] := by kernel_rfl
def Fh_ : List Item := skim 64 [.code Hd_]
def Du_ : List Item := skim 64 Fh_.tail
theorem OZ_ : skim 64 Fh_.tail = Du_ := by kernel_rfl
def Fc_ : List Item := skim 64 Du_.tail
theorem Ps_ : skim 64 Du_.tail = Fc_ := by kernel_rfl
def IW_ (E : Env) (call round : CallT) (tm : T Value) : M (T Value) :=
  M.bind (kAlloc E 163) fun v0 =>
  setF 0 v0 tm fun tm1 =>
  M.pure tm1
theorem TC_ : RegEq 133 2 GF_ Fh_ IW_ := ⟨by kernel_rfl, fun _ _ _ _ _ _ _ _ _ => by kernel_rfl⟩
def JY_ (E : Env) (call round : CallT) (tm : T Value) : M (T Value) :=
  M.bind (oS (seqP [(0, (some (.int .u32 1779033703))), (1, (some (.int .u32 3144134277))), (2, (some (.int .u32 1013904242))), (3, (some (.int .u32 2773480762))), (4, (some (.int .u32 1359893119))), (5, (some (.int .u32 2600822924))), (6, (some (.int .u32 528734635))), (7, (some (.int .u32 1541459225)))]) fun ps => aBuild E 163 ps) fun v1 =>
  M.bind (oS (T.get tm 0) fun a => oS (some v1) fun b => kStore E 163 a b) fun _ =>
  M.pure tm
theorem Ve_ : RegEq 133 2 GF_ Du_ JY_ := ⟨by kernel_rfl, fun _ _ _ _ _ _ _ _ _ => by kernel_rfl⟩
theorem UZ_ : ∃ k, Fc_ = .code .ret :: k := ⟨Fc_.tail, by kernel_rfl⟩
def Bf_ : Nat := globOf Try.f111
abbrev Ud_ : Nat := 57
def Hi_ : Code := Try.f111.body.getD .skip
theorem Fn_ : envS.fn.get 111 = some Try.f111 := by kernel_rfl
theorem Wh_ {a0 a1 : Value} {n : Nat} {s : St} {Q : Value → St → Prop} (h : ∀ tm, T.get tm 0 = some a0 → T.get tm 1 = some a1 → W (runF envS n ⟨111, 57, Bf_, tm, [.code Hi_], .run, .normal, none⟩) (s.cxN cxN) fun p s1 => Q p.1 (s1.cxN s.cx)) : W (callW envS (runF envS n) 111 [a0, a1]) s Q :=
 W.call (by kernel_rfl) (by kernel_rfl) Fn_ (by kernel_rfl) rfl rfl (by simp) (h _ (by kernel_rfl) (by kernel_rfl))
theorem Iy_ : Try.f111.results.toList = [] := by kernel_rfl
def Ff_ : List Item := skim 64 [.code Hi_]
def Dw_ : List Item := skim 64 Ff_.tail
theorem Pf_ : skim 64 Ff_.tail = Dw_ := by kernel_rfl
def BA_ : List Item := skim 64 (brF Dw_)
theorem PB_ : skim 64 (brF Dw_) = BA_ := by kernel_rfl
def BQ_ : List Item := skim 64 BA_.tail
theorem DI_ : skim 64 BA_.tail = BQ_ := by kernel_rfl
def Dv_ : List Item := skim 64 (brT BQ_)
theorem OT_ : skim 64 (brT BQ_) = Dv_ := by kernel_rfl
def VR_ : List Item := skim 64 (brF BQ_)
theorem Hl_ : skim 64 (brF BQ_) = VR_ := by kernel_rfl
def Df_ : List Item := skim 64 Dv_.tail
theorem Pz_ : skim 64 Dv_.tail = Df_ := by kernel_rfl
def Ds_ : List Item := skim 64 Df_.tail
theorem Pl_ : skim 64 Df_.tail = Ds_ := by kernel_rfl
def Dk_ : List Item := skim 64 Ds_.tail
theorem OV_ : skim 64 Ds_.tail = Dk_ := by kernel_rfl
def CH_ : List Item := skim 64 Dk_.tail
theorem Nn_ : skim 64 Dk_.tail = CH_ := by kernel_rfl
def BX_ : List Item := skim 64 CH_.tail
theorem Fd_ : skim 64 CH_.tail = BX_ := by kernel_rfl
def CF_ : List Item := skim 64 (brT BX_)
theorem MQ_ : skim 64 (brT BX_) = CF_ := by kernel_rfl
theorem Oy_ : skim 64 (brF BX_) = BA_ := by kernel_rfl
theorem OP_ : skim 64 CF_.tail = BA_ := by kernel_rfl
def Kn_ (E : Env) (call round : CallT) (tm : T Value) : M (T Value) :=
  mv (T.get tm 0) fun v6 =>
  M.bind (oS (some v6) fun a => oS (some (.pointer none)) fun b => Cl.get (aBin E .eql 145 (.tmp 6) (.const (.pointer none))) a b) fun v7 =>
  mv (some v7) fun v8 =>
  M.bind (M.chk (isK v8) (M.if (isB v8 false) (oS (T.get tm 0) fun a => M.pure a) (M.pure undef))) fun v9 =>
  M.bind (M.chk (isK v8) (M.if (isB v8 false) (oS (some v9) fun a => kNil a) (M.pure undef))) fun v10 =>
  M.bind (M.chk (isK v8) (M.if (isB v8 false) (oS (some v10) fun a => kFld E 167 a 0) (M.pure undef))) fun v11 =>
  M.bind (M.chk (isK v8) (M.if (isB v8 false) (oS (some v11) fun a => kLoad E 4 a) (M.pure undef))) fun v12 =>
  M.bind (M.chk (isK v8) (M.if (isB v8 false) (oS (some v12) fun a => kUn E.P .not a) (M.pure undef))) fun v13 =>
  M.bind (M.on (some v8) fun a => M.on (some (.bool true)) fun b => M.on (some v13) fun c => kPick a b c) fun v14 =>
  setF 14 v14 tm fun tm1 =>
  M.pure tm1
theorem Tr_ : RegEq 111 57 Bf_ Ff_ Kn_ := ⟨by kernel_rfl, fun _ _ _ _ _ _ _ _ _ => by kernel_rfl⟩
theorem Vu_ : condX Dw_ = some 14 := by kernel_rfl
def Dr_ (E : Env) (call round : CallT) (tm : T Value) : M (T Value) :=
  mv (T.get tm 1) fun v15 =>
  M.bind (oS (seqO [(some v15)]) fun l => aBuiltin E .len [22] l) fun v16 =>
  M.bind (oS (some v16) fun a => oS (some (.int .i64 0)) fun b => Cl.get (aBin E .gtr 3 (.tmp 16) (.const (.int .i64 0))) a b) fun v17 =>
  setF 17 v17 tm fun tm1 =>
  M.pure tm1
theorem EZ_ : RegEq 111 57 Bf_ BA_ Dr_ := ⟨by kernel_rfl, fun _ _ _ _ _ _ _ _ _ => by kernel_rfl⟩
theorem Fw_ : condX BQ_ = some 17 := by kernel_rfl
def Jm_ (E : Env) (call round : CallT) (tm : T Value) : M (T Value) :=
  mv (T.get tm 0) fun v18 =>
  M.bind (oS (some v18) fun a => kNil a) fun v19 =>
  M.bind (oS (some v19) fun a => kFld E 167 a 3) fun v20 =>
  M.bind (oS (some v20) fun a => kLoad E 3 a) fun v21 =>
  M.bind (oS (some v21) fun a => oS (some (.int .i64 64)) fun b => Cl.get (aBin E .rem 3 (.tmp 21) (.const (.int .i64 64))) a b) fun v22 =>
  mv (some v22) fun v4 =>
  setF 4 v4 tm fun tm1 =>
  M.pure tm1
theorem UG_ : RegEq 111 57 Bf_ Dv_ Jm_ := ⟨by kernel_rfl, fun _ _ _ _ _ _ _ _ _ => by kernel_rfl⟩
def IP_ (E : Env) (call round : CallT) (tm : T Value) : M (T Value) :=
  mv (T.get tm 0) fun v23 =>
  M.bind (oS (some v23) fun a => kNil a) fun v24 =>
  M.bind (oS (some v24) fun a => kFld E 167 a 2) fun v25 =>
  mv (T.get tm 4) fun v26 =>
  M.bind (M.on (some v25) fun a => M.on (onO (some v26) fun v => some (some v)) fun b => M.on (some none) fun c => aSlice E 165 a b c) fun v27 =>
  mv (T.get tm 1) fun v28 =>
  M.bind (oS (seqO [(some v27), (some v28)]) fun l => aBuiltin E .copy [22, 22] l) fun v29 =>
  mv (some v29) fun v5 =>
  setF 5 v5 tm fun tm1 =>
  M.pure tm1
theorem Tw_ : RegEq 111 57 Bf_ Df_ IP_ := ⟨by kernel_rfl, fun _ _ _ _ _ _ _ _ _ => by kernel_rfl⟩
def Kd_ (E : Env) (call round : CallT) (tm : T Value) : M (T Value) :=
  mv (T.get tm 1) fun v30 =>
  mv (T.get tm 5) fun v31 =>
  M.bind (M.on (some v30) fun a => M.on (onO (some v31) fun v => some (some v)) fun b => M.on (some none) fun c => aSlice E 22 a b c) fun v32 =>
  mv (some v32) fun v1 =>
  setF 1 v1 tm fun tm1 =>
  M.pure tm1
theorem UQ_ : RegEq 111 57 Bf_ Ds_ Kd_ := ⟨by kernel_rfl, fun _ _ _ _ _ _ _ _ _ => by kernel_rfl⟩
def JR_ (E : Env) (call round : CallT) (tm : T Value) : M (T Value) :=
  mv (T.get tm 0) fun v33 =>
  M.bind (oS (some v33) fun a => kNil a) fun v34 =>
  M.bind (oS (some v34) fun a => kFld E 167 a 3) fun v35 =>
  M.bind (oS (some v35) fun a => kLoad E 3 a) fun v36 =>
  mv (T.get tm 5) fun v37 =>
  M.bind (oS (some v36) fun a => oS (some v37) fun b => Cl.get (aBin E .add 3 (.tmp 36) (.tmp 37)) a b) fun v38 =>
  M.bind (oS (some v33) fun a => kNil a) fun v39 =>
  M.bind (oS (some v39) fun a => kFld E 167 a 3) fun v40 =>
  M.bind (oS (some v40) fun a => oS (some v38) fun b => kStore E 3 a b) fun _ =>
  M.pure tm
theorem TM_ : RegEq 111 57 Bf_ Dk_ JR_ := ⟨by kernel_rfl, fun _ _ _ _ _ _ _ _ _ => by kernel_rfl⟩
def IF_ (E : Env) (call round : CallT) (tm : T Value) : M (T Value) :=
  mv (T.get tm 4) fun v41 =>
  mv (T.get tm 5) fun v42 =>
  M.bind (oS (some v41) fun a => oS (some v42) fun b => Cl.get (aBin E .add 3 (.tmp 41) (.tmp 42)) a b) fun v43 =>
  M.bind (oS (some v43) fun a => oS (some (.int .i64 64)) fun b => Cl.get (aBin E .eql 3 (.tmp 43) (.const (.int .i64 64))) a b) fun v44 =>
  setF 44 v44 tm fun tm1 =>
  M.pure tm1
theorem Se_ : RegEq 111 57 Bf_ CH_ IF_ := ⟨by kernel_rfl, fun _ _ _ _ _ _ _ _ _ => by kernel_rfl⟩
theorem Iz_ : condX BX_ = some 44 := by kernel_rfl
def IA_ (E : Env) (call round : CallT) (tm : T Value) : M ((Rho × T Value) × List OpLog) :=
  M.bind (apartO (oS (T.get tm 0) fun a => M.pure a)) fun p0 =>
  M.bind (apartO (oS (T.get tm 0) fun a => M.pure a)) fun p1 =>
  M.bind (apartO (oS (some p1.1) fun a => kNil a)) fun p2 =>
  M.bind (apartO (oS (some p2.1) fun a => kFld E 167 a 1)) fun p3 =>
  M.bind (apartO (oS (some p3.1) fun a => kLoad E 163 a)) fun p4 =>
  M.bind (apartO (oS (T.get tm 0) fun a => M.pure a)) fun p5 =>
  M.bind (apartO (oS (some p5.1) fun a => kNil a)) fun p6 =>
  M.bind (apartO (oS (some p6.1) fun a => kFld E 167 a 2)) fun p7 =>
  M.bind (apartO (M.on (some p7.1) fun a => M.on (some none) fun b => M.on (some none) fun c => aSlice E 165 a b c)) fun p8 =>
  M.bind (apartO (M.on (some (.func (.func 134) #[] #[])) fun f => M.on (seqO [(some p4.1), (some p8.1)]) fun l => callV call round f l)) fun p9 =>
  M.bind (apartO (oS (some p0.1) fun a => kNil a)) fun p10 =>
  M.bind (apartO (oS (some p10.1) fun a => kFld E 167 a 1)) fun p11 =>
  M.pure (([p11.1, p10.1, p9.1, p8.1, p7.1, p6.1, p5.1, p4.1, p3.1, p2.1, p1.1, p0.1], tm), [p11.2, p10.2, p9.2, p8.2, p7.2, p6.2, p5.2, p4.2, p3.2, p2.2, p1.2, p0.2])
theorem RU_ : DrawEq 111 57 Bf_ CF_ [0, 0, 2, 6, 14, 0, 32, 96, 224, 510, 1023, 2047, 4095] IA_ := ⟨by kernel_rfl, by kernel_rfl, fun _ _ _ _ _ _ _ _ _ => by kernel_rfl⟩
theorem RM_ (E : Env) (call round : CallT) (x45 x46 x47 x48 x49 x50 x51 x52 x53 x54 x55 x56 : Value) (tm : T Value) (s : St) : opsIn call round (lastOps E Bf_ 57 (hdC CF_)) [x56, x55, x54, x53, x52, x51, x50, x49, x48, x47, x46, x45] tm s = (M.bind (oS (some x56) fun a => oS (some x54) fun b => kStore E 163 a b) fun _ => M.pure tm) s := by kernel_rfl
def Az_ : Nat := globOf Try.f112
abbrev Ca_ : Nat := 74
def IG_ : Code := Try.f112.body.getD .skip
theorem LU_ : envS.fn.get 112 = some Try.f112 := by kernel_rfl
theorem YJ_ {a0 : Value} {n : Nat} {s : St} {Q : Value → St → Prop} (h : ∀ tm, T.get tm 0 = some a0 → W (runF envS n ⟨112, 74, Az_, tm, [.code IG_], .run, .normal, none⟩) (s.cxN cxN) fun p s1 => Q p.1 (s1.cxN s.cx)) : W (callW envS (runF envS n) 112 [a0]) s Q :=
 W.call (by kernel_rfl) (by kernel_rfl) LU_ (by kernel_rfl) rfl rfl (by simp) (h _ (by kernel_rfl))
theorem Uf_ : Try.f112.results.toList = [.cell 2 101] := by kernel_rfl
def GN_ : List Item := skim 64 [.code IG_]
def DQ_ : List Item := skim 64 GN_.tail
theorem RS_ : skim 64 GN_.tail = DQ_ := by kernel_rfl
def DX_ : List Item := skim 64 DQ_.tail
theorem RO_ : skim 64 DQ_.tail = DX_ := by kernel_rfl
def Eb_ : List Item := skim 64 DX_.tail
theorem RJ_ : skim 64 DX_.tail = Eb_ := by kernel_rfl
def DP_ : List Item := skim 64 (brF Eb_)
theorem Sq_ : skim 64 (brF Eb_) = DP_ := by kernel_rfl
def CE_ : List Item := skim 64 DP_.tail
theorem RR_ : skim 64 DP_.tail = CE_ := by kernel_rfl
def DY_ : List Item := skim 64 CE_.tail
theorem Sh_ : skim 64 CE_.tail = DY_ := by kernel_rfl
def DV_ : List Item := skim 64 DY_.tail
theorem RX_ : skim 64 DY_.tail = DV_ := by kernel_rfl
def BS_ : List Item := skim 64 DV_.tail
theorem Px_ : skim 64 DV_.tail = BS_ := by kernel_rfl
def BM_ : List Item := skim 64 BS_.tail
theorem FH_ : skim 64 BS_.tail = BM_ := by kernel_rfl
def Di_ : List Item := skim 64 (brT BM_)
theorem Nv_ : skim 64 (brT BM_) = Di_ := by kernel_rfl
def Cj_ : List Item := skim 64 (brF BM_)
theorem NQ_ : skim 64 (brF BM_) = Cj_ := by kernel_rfl
def Fu_ : List Item := skim 64 Di_.tail
theorem NC_ : skim 64 Di_.tail = Fu_ := by kernel_rfl
def Cr_ : List Item := skim 64 Cj_.tail
theorem Ol_ : skim 64 Cj_.tail = Cr_ := by kernel_rfl
theorem NH_ : skim 64 Fu_.tail = BS_ := by kernel_rfl
def BP_ : List Item := skim 64 Cr_.tail
theorem Oq_ : skim 64 Cr_.tail = BP_ := by kernel_rfl
def BT_ : List Item := skim 64 BP_.tail
theorem Gs_ : skim 64 BP_.tail = BT_ := by kernel_rfl
def Dt_ : List Item := skim 64 (brT BT_)
theorem Ox_ : skim 64 (brT BT_) = Dt_ := by kernel_rfl
def Cq_ : List Item := skim 64 (brF BT_)
theorem NJ_ : skim 64 (brF BT_) = Cq_ := by kernel_rfl
def Dy_ : List Item := skim 64 Dt_.tail
theorem Ng_ : skim 64 Dt_.tail = Dy_ := by kernel_rfl
def Fr_ : List Item := skim 64 Cq_.tail
theorem Nh_ : skim 64 Cq_.tail = Fr_ := by kernel_rfl
def Fa_ : List Item := skim 64 Dy_.tail
theorem NK_ : skim 64 Dy_.tail = Fa_ := by kernel_rfl
theorem NS_ : skim 64 Fa_.tail = BP_ := by kernel_rfl
def Mf_ (E : Env) (call round : CallT) (tm : T Value) : M (T Value) :=
  M.bind (kAlloc E 101) fun v2 =>
  setF 2 v2 tm fun tm1 =>
  M.pure tm1
theorem XA_ : RegEq 112 74 Az_ GN_ Mf_ := ⟨by kernel_rfl, fun _ _ _ _ _ _ _ _ _ => by kernel_rfl⟩
def Mh_ (E : Env) (call round : CallT) (tm : T Value) : M (T Value) :=
  M.bind (kAlloc E 101) fun v3 =>
  setF 3 v3 tm fun tm1 =>
  M.pure tm1
theorem WR_ : RegEq 112 74 Az_ DQ_ Mh_ := ⟨by kernel_rfl, fun _ _ _ _ _ _ _ _ _ => by kernel_rfl⟩
def Lu_ (E : Env) (call round : CallT) (tm : T Value) : M (T Value) :=
  mv (T.get tm 0) fun v9 =>
  M.bind (oS (some v9) fun a => oS (some (.pointer none)) fun b => Cl.get (aBin E .eql 145 (.tmp 9) (.const (.pointer none))) a b) fun v10 =>
  mv (some v10) fun v11 =>
  M.bind (M.chk (isK v11) (M.if (isB v11 false) (oS (T.get tm 0) fun a => M.pure a) (M.pure undef))) fun v12 =>
  M.bind (M.chk (isK v11) (M.if (isB v11 false) (oS (some v12) fun a => kNil a) (M.pure undef))) fun v13 =>
  M.bind (M.chk (isK v11) (M.if (isB v11 false) (oS (some v13) fun a => kFld E 167 a 0) (M.pure undef))) fun v14 =>
  M.bind (M.chk (isK v11) (M.if (isB v11 false) (oS (some v14) fun a => kLoad E 4 a) (M.pure undef))) fun v15 =>
  M.bind (M.chk (isK v11) (M.if (isB v11 false) (oS (some v15) fun a => kUn E.P .not a) (M.pure undef))) fun v16 =>
  M.bind (M.on (some v11) fun a => M.on (some (.bool true)) fun b => M.on (some v16) fun c => kPick a b c) fun v17 =>
  setF 17 v17 tm fun tm1 =>
  M.pure tm1
theorem WX_ : RegEq 112 74 Az_ DX_ Lu_ := ⟨by kernel_rfl, fun _ _ _ _ _ _ _ _ _ => by kernel_rfl⟩
theorem Wc_ : condX Eb_ = some 17 := by kernel_rfl
def Mi_ (E : Env) (call round : CallT) (tm : T Value) : M (T Value) :=
  mv (T.get tm 0) fun v19 =>
  M.bind (oS (some v19) fun a => kNil a) fun v20 =>
  M.bind (oS (some v20) fun a => kLoad E 167 a) fun v21 =>
  M.bind (kAlloc E 167) fun v4 =>
  setF 4 v4 tm fun tm1 =>
  M.bind (oS (some v4) fun a => oS (some v21) fun b => kStore E 167 a b) fun _ =>
  M.pure tm1
theorem WQ_ : RegEq 112 74 Az_ DP_ Mi_ := ⟨by kernel_rfl, fun _ _ _ _ _ _ _ _ _ => by kernel_rfl⟩
def Mn_ (E : Env) (call round : CallT) (tm : T Value) : M (T Value) :=
  mv (T.get tm 0) fun v22 =>
  M.bind (oS (some v22) fun a => kNil a) fun v23 =>
  M.bind (oS (some v23) fun a => kFld E 167 a 3) fun v24 =>
  M.bind (oS (some v24) fun a => kLoad E 3 a) fun v25 =>
  M.bind (oS (some v25) fun a => oS (some (.int .i64 64)) fun b => Cl.get (aBin E .rem 3 (.tmp 25) (.const (.int .i64 64))) a b) fun v26 =>
  M.bind (oS (some (.int .i64 119)) fun a => oS (some v26) fun b => Cl.get (aBin E .sub 3 (.const (.int .i64 119)) (.tmp 26)) a b) fun v27 =>
  M.bind (oS (some v27) fun a => oS (some (.int .i64 64)) fun b => Cl.get (aBin E .rem 3 (.tmp 27) (.const (.int .i64 64))) a b) fun v28 =>
  M.bind (oS (some (.int .i64 1)) fun a => oS (some v28) fun b => Cl.get (aBin E .add 3 (.const (.int .i64 1)) (.tmp 28)) a b) fun v29 =>
  M.bind (oS (some v29) fun a => oS (some (.int .i64 80)) fun b => kMkSl E 22 a b) fun v30 =>
  mv (some v30) fun v5 =>
  setF 5 v5 tm fun tm1 =>
  M.pure tm1
theorem XB_ : RegEq 112 74 Az_ CE_ Mn_ := ⟨by kernel_rfl, fun _ _ _ _ _ _ _ _ _ => by kernel_rfl⟩
def LZ_ (E : Env) (call round : CallT) (tm : T Value) : M (T Value) :=
  mv (T.get tm 5) fun v31 =>
  M.bind (oS (some v31) fun a => oS (some (.int .i64 0)) fun b => kIdxA E 22 a b) fun v32 =>
  M.bind (oS (some v32) fun a => oS (some (.int .u8 128)) fun b => kStore E 5 a b) fun _ =>
  M.pure tm
theorem WE_ : RegEq 112 74 Az_ DY_ LZ_ := ⟨by kernel_rfl, fun _ _ _ _ _ _ _ _ _ => by kernel_rfl⟩
def Md_ (E : Env) (call round : CallT) (tm : T Value) : M (T Value) :=
  mv (some (.int .i64 56)) fun v6 =>
  setF 6 v6 tm fun tm1 =>
  M.pure tm1
theorem Xl_ : RegEq 112 74 Az_ DV_ Md_ := ⟨by kernel_rfl, fun _ _ _ _ _ _ _ _ _ => by kernel_rfl⟩
def Fk_ (E : Env) (call round : CallT) (tm : T Value) : M (T Value) :=
  mv (T.get tm 6) fun v33 =>
  M.bind (oS (some v33) fun a => oS (some (.int .i64 0)) fun b => Cl.get (aBin E .geq 3 (.tmp 33) (.const (.int .i64 0))) a b) fun v34 =>
  setF 34 v34 tm fun tm1 =>
  M.pure tm1
theorem JI_ : RegEq 112 74 Az_ BS_ Fk_ := ⟨by kernel_rfl, fun _ _ _ _ _ _ _ _ _ => by kernel_rfl⟩
theorem Js_ : condX BM_ = some 34 := by kernel_rfl
def JU_ (E : Env) (call round : CallT) (tm : T Value) : M (T Value) :=
  mv (T.get tm 5) fun v37 =>
  mv (T.get tm 0) fun v38 =>
  M.bind (oS (some v38) fun a => kNil a) fun v39 =>
  M.bind (oS (some v39) fun a => kFld E 167 a 3) fun v40 =>
  M.bind (oS (some v40) fun a => kLoad E 3 a) fun v41 =>
  M.bind (oS (some (.int .i64 8)) fun a => oS (some v41) fun b => Cl.get (aBin E .mul 3 (.const (.int .i64 8)) (.tmp 41)) a b) fun v42 =>
  mv (T.get tm 6) fun v43 =>
  M.bind (oS (some v42) fun a => oS (some v43) fun b => Cl.get (aBin E .shr 3 (.tmp 42) (.tmp 43)) a b) fun v44 =>
  M.bind (oS (some v44) fun a => kConvB E 3 5 a) fun v45 =>
  M.bind (oS (seqP [(0, (some v45))]) fun ps => aBuildS E 22 1 ps) fun v46 =>
  M.bind (oS (seqO [(some v37), (some v46)]) fun l => aBuiltin E .append [22, 22] l) fun v47 =>
  mv (some v47) fun v5 =>
  setF 5 v5 tm fun tm1 =>
  M.pure tm1
theorem TV_ : RegEq 112 74 Az_ Di_ JU_ := ⟨by kernel_rfl, fun _ _ _ _ _ _ _ _ _ => by kernel_rfl⟩
def KA_ (E : Env) (call round : CallT) (tm : T Value) : M (T Value) :=
  mv (T.get tm 5) fun v48 =>
  M.bind (M.on (some (.func (.func 111) #[] #[])) fun f => M.on (seqO [(T.get tm 4), (some v48)]) fun l => callV call round f l) fun v49 =>
  M.pure tm
theorem Ts_ : RegEq 112 74 Az_ Cj_ KA_ := ⟨by kernel_rfl, fun _ _ _ _ _ _ _ _ _ => by kernel_rfl⟩
def Jh_ (E : Env) (call round : CallT) (tm : T Value) : M (T Value) :=
  mv (T.get tm 6) fun v35 =>
  M.bind (oS (some v35) fun a => oS (some (.int .i64 8)) fun b => Cl.get (aBin E .sub 3 (.tmp 35) (.const (.int .i64 8))) a b) fun v36 =>
  mv (some v36) fun v6 =>
  setF 6 v6 tm fun tm1 =>
  M.pure tm1
theorem UO_ : RegEq 112 74 Az_ Fu_ Jh_ := ⟨by kernel_rfl, fun _ _ _ _ _ _ _ _ _ => by kernel_rfl⟩
def Jw_ (E : Env) (call round : CallT) (tm : T Value) : M (T Value) :=
  M.bind (oS (T.get tm 4) fun a => kFld E 167 a 1) fun v50 =>
  M.bind (oS (some v50) fun a => kLoad E 163 a) fun v51 =>
  setF 51 v51 tm fun tm1 =>
  mv (some (.int .i64 0)) fun v52 =>
  setF 52 v52 tm1 fun tm2 =>
  M.pure tm2
theorem Vo_ : RegEq 112 74 Az_ Cr_ Jw_ := ⟨by kernel_rfl, fun _ _ _ _ _ _ _ _ _ => by kernel_rfl⟩
def Ft_ (E : Env) (call round : CallT) (tm : T Value) : M (T Value) :=
  M.bind (oS (T.get tm 52) fun a => oS (some (.int .i64 8)) fun b => Cl.get (aBin E .lss 3 (.tmp 52) (.const (.int .i64 8))) a b) fun v53 =>
  setF 53 v53 tm fun tm1 =>
  M.pure tm1
theorem Jr_ : RegEq 112 74 Az_ BP_ Ft_ := ⟨by kernel_rfl, fun _ _ _ _ _ _ _ _ _ => by kernel_rfl⟩
theorem JF_ : condX BT_ = some 53 := by kernel_rfl
def Ky_ (E : Env) (call round : CallT) (tm : T Value) : M (T Value) :=
  mv (T.get tm 52) fun v54 =>
  M.bind (oS (T.get tm 51) fun a => oS (T.get tm 52) fun b => kIdx E 163 a b) fun v55 =>
  mv (some v54) fun v7 =>
  setF 7 v7 tm fun tm1 =>
  mv (some v55) fun v8 =>
  setF 8 v8 tm1 fun tm2 =>
  M.pure tm2
theorem ST_ : RegEq 112 74 Az_ Dt_ Ky_ := ⟨by kernel_rfl, fun _ _ _ _ _ _ _ _ _ => by kernel_rfl⟩
def JA_ (E : Env) (call round : CallT) (tm : T Value) : M (T Value) :=
  M.bind (oS (T.get tm 3) fun a => kLoad E 101 a) fun v73 =>
  M.bind (oS (T.get tm 2) fun a => oS (some v73) fun b => kStore E 101 a b) fun _ =>
  M.pure tm
theorem Vq_ : RegEq 112 74 Az_ Cq_ JA_ := ⟨by kernel_rfl, fun _ _ _ _ _ _ _ _ _ => by kernel_rfl⟩
def JE_ (E : Env) (call round : CallT) (tm : T Value) : M (T Value) :=
  mv (T.get tm 7) fun v56 =>
  M.bind (oS (some (.int .i64 4)) fun a => oS (some v56) fun b => Cl.get (aBin E .mul 3 (.const (.int .i64 4)) (.tmp 56)) a b) fun v57 =>
  M.bind (M.on (T.get tm 3) fun a => M.on (onO (some v57) fun v => some (some v)) fun b => M.on (some none) fun c => aSlice E 101 a b c) fun v58 =>
  mv (T.get tm 8) fun v59 =>
  M.bind (oS (some v59) fun a => oS (some (.int .u64 24)) fun b => Cl.get (aBin E .shr 51 (.tmp 59) (.const (.int .u64 24))) a b) fun v60 =>
  M.bind (oS (some v60) fun a => kConvB E 51 5 a) fun v61 =>
  mv (T.get tm 8) fun v62 =>
  M.bind (oS (some v62) fun a => oS (some (.int .u64 16)) fun b => Cl.get (aBin E .shr 51 (.tmp 62) (.const (.int .u64 16))) a b) fun v63 =>
  M.bind (oS (some v63) fun a => kConvB E 51 5 a) fun v64 =>
  mv (T.get tm 8) fun v65 =>
  M.bind (oS (some v65) fun a => oS (some (.int .u64 8)) fun b => Cl.get (aBin E .shr 51 (.tmp 65) (.const (.int .u64 8))) a b) fun v66 =>
  M.bind (oS (some v66) fun a => kConvB E 51 5 a) fun v67 =>
  mv (T.get tm 8) fun v68 =>
  M.bind (oS (some v68) fun a => kConvB E 51 5 a) fun v69 =>
  M.bind (oS (seqP [(0, (some v61)), (1, (some v64)), (2, (some v67)), (3, (some v69))]) fun ps => aBuildS E 22 4 ps) fun v70 =>
  M.bind (oS (seqO [(some v58), (some v70)]) fun l => aBuiltin E .copy [22, 22] l) fun v71 =>
  M.pure tm
theorem Uk_ : RegEq 112 74 Az_ Dy_ JE_ := ⟨by kernel_rfl, fun _ _ _ _ _ _ _ _ _ => by kernel_rfl⟩
theorem TW_ : ∃ k, Fr_ = .code .ret :: k := ⟨Fr_.tail, by kernel_rfl⟩
def Jl_ (E : Env) (call round : CallT) (tm : T Value) : M (T Value) :=
  M.bind (oS (T.get tm 52) fun a => oS (some (.int .i64 1)) fun b => Cl.get (aBin E .add 3 (.tmp 52) (.const (.int .i64 1))) a b) fun v72 =>
  mv (some v72) fun v52 =>
  setF 52 v52 tm fun tm1 =>
  M.pure tm1
theorem Uj_ : RegEq 112 74 Az_ Fa_ Jl_ := ⟨by kernel_rfl, fun _ _ _ _ _ _ _ _ _ => by kernel_rfl⟩
def Eh_ : Nat := globOf Try.f73
def Jk_ : Code := Try.f73.body.getD .skip
theorem Np_ : envS.fn.get 73 = some Try.f73 := by kernel_rfl
theorem Aba_ {a0 : Value} {n : Nat} {s : St} {Q : Value → St → Prop} (h : ∀ tm, T.get tm 0 = some a0 → W (runF envS n ⟨73, 10, Eh_, tm, [.code Jk_], .run, .normal, none⟩) (s.cxN cxN) fun p s1 => Q p.1 (s1.cxN s.cx)) : W (callW envS (runF envS n) 73 [a0]) s Q :=
 W.call (by kernel_rfl) (by kernel_rfl) Np_ (by kernel_rfl) rfl rfl (by simp) (h _ (by kernel_rfl))
theorem WI_ : Try.f73.results.toList = [.cell 2 101] := by kernel_rfl
def Im_ : List Item := skim 64 [.code Jk_]
def EJ_ : List Item := skim 64 Im_.tail
theorem Tb_ : skim 64 Im_.tail = EJ_ := by kernel_rfl
def Et_ : List Item := skim 64 EJ_.tail
theorem Uo_ : skim 64 EJ_.tail = Et_ := by kernel_rfl
def EC_ : List Item := skim 64 Et_.tail
theorem UA_ : skim 64 Et_.tail = EC_ := by kernel_rfl
def Ih_ : List Item := skim 64 EC_.tail
theorem UF_ : skim 64 EC_.tail = Ih_ := by kernel_rfl
def Oo_ (E : Env) (call round : CallT) (tm : T Value) : M (T Value) :=
  M.bind (kAlloc E 101) fun v2 =>
  setF 2 v2 tm fun tm1 =>
  M.pure tm1
theorem AaP_ : RegEq 73 10 Eh_ Im_ Oo_ := ⟨by kernel_rfl, fun _ _ _ _ _ _ _ _ _ => by kernel_rfl⟩
def OR_ (E : Env) (call round : CallT) (tm : T Value) : M (T Value) :=
  M.bind (M.on (some (.func (.func 110) #[] #[])) fun f => M.on (seqO []) fun l => callV call round f l) fun v4 =>
  mv (some v4) fun v3 =>
  setF 3 v3 tm fun tm1 =>
  M.pure tm1
theorem ZH_ : RegEq 73 10 Eh_ EJ_ OR_ := ⟨by kernel_rfl, fun _ _ _ _ _ _ _ _ _ => by kernel_rfl⟩
def NF_ (E : Env) (call round : CallT) (tm : T Value) : M (T Value) :=
  mv (T.get tm 3) fun v5 =>
  mv (T.get tm 0) fun v6 =>
  M.bind (M.on (some (.func (.func 111) #[] #[])) fun f => M.on (seqO [(some v5), (some v6)]) fun l => callV call round f l) fun v7 =>
  M.pure tm
theorem AaV_ : RegEq 73 10 Eh_ Et_ NF_ := ⟨by kernel_rfl, fun _ _ _ _ _ _ _ _ _ => by kernel_rfl⟩
def Oa_ (E : Env) (call round : CallT) (tm : T Value) : M (T Value) :=
  mv (T.get tm 3) fun v8 =>
  M.bind (M.on (some (.func (.func 112) #[] #[])) fun f => M.on (seqO [(some v8)]) fun l => callV call round f l) fun v9 =>
  M.bind (oS (T.get tm 2) fun a => oS (some v9) fun b => kStore E 101 a b) fun _ =>
  M.pure tm
theorem ZN_ : RegEq 73 10 Eh_ EC_ Oa_ := ⟨by kernel_rfl, fun _ _ _ _ _ _ _ _ _ => by kernel_rfl⟩
theorem Aah_ : ∃ k, Ih_ = .code .ret :: k := ⟨Ih_.tail, by kernel_rfl⟩
def HG_ : Nat := globOf Try.f32
def Lx_ : Code := Try.f32.body.getD .skip
theorem PI_ : envS.fn.get 32 = some Try.f32 := by kernel_rfl
theorem Aft_ {a0 : Value} {n : Nat} {s : St} {Q : Value → St → Prop} (h : ∀ tm, T.get tm 0 = some a0 → W (runF envS n ⟨32, 9, HG_, tm, [.code Lx_], .run, .normal, none⟩) (s.cxN cxN) fun p s1 => Q p.1 (s1.cxN s.cx)) : W (callW envS (runF envS n) 32 [a0]) s Q :=
 W.call (by kernel_rfl) (by kernel_rfl) PI_ (by kernel_rfl) rfl rfl (by simp) (h _ (by kernel_rfl))
theorem YL_ : Try.f32.results.toList = [.cell 2 26] := by kernel_rfl
def JD_ : List Item := skim 64 [.code Lx_]
def Gm_ : List Item := skim 64 JD_.tail
theorem WJ_ : skim 64 JD_.tail = Gm_ := by kernel_rfl
def Gv_ : List Item := skim 64 Gm_.tail
theorem Wl_ : skim 64 Gm_.tail = Gv_ := by kernel_rfl
def Jf_ : List Item := skim 64 Gv_.tail
theorem WF_ : skim 64 Gv_.tail = Jf_ := by kernel_rfl
def QC_ (E : Env) (call round : CallT) (tm : T Value) : M (T Value) :=
  M.bind (kAlloc E 26) fun v2 =>
  setF 2 v2 tm fun tm1 =>
  M.pure tm1
theorem Adb_ : RegEq 32 9 HG_ JD_ QC_ := ⟨by kernel_rfl, fun _ _ _ _ _ _ _ _ _ => by kernel_rfl⟩
def Qb_ (E : Env) (call round : CallT) (tm : T Value) : M (T Value) :=
  mv (T.get tm 0) fun v4 =>
  M.bind (M.on (some (.func (.func 73) #[] #[])) fun f => M.on (seqO [(some v4)]) fun l => callV call round f l) fun v5 =>
  M.bind (kAlloc E 101) fun v3 =>
  setF 3 v3 tm fun tm1 =>
  M.bind (oS (some v3) fun a => oS (some v5) fun b => kStore E 101 a b) fun _ =>
  M.pure tm1
theorem AbC_ : RegEq 32 9 HG_ Gm_ Qb_ := ⟨by kernel_rfl, fun _ _ _ _ _ _ _ _ _ => by kernel_rfl⟩
def Rg_ (E : Env) (call round : CallT) (tm : T Value) : M (T Value) :=
  M.bind (M.on (T.get tm 3) fun a => M.on (some none) fun b => M.on (onO (some (.int .i64 16)) fun v => some (some v)) fun c => aSlice E 101 a b c) fun v6 =>
  M.bind (oS (some v6) fun a => kSlArr E 26 a) fun v7 =>
  M.bind (oS (some v7) fun a => kLoad E 26 a) fun v8 =>
  M.bind (oS (T.get tm 2) fun a => oS (some v8) fun b => kStore E 26 a b) fun _ =>
  M.pure tm
theorem Act_ : RegEq 32 9 HG_ Gv_ Rg_ := ⟨by kernel_rfl, fun _ _ _ _ _ _ _ _ _ => by kernel_rfl⟩
theorem AcO_ : ∃ k, Jf_ = .code .ret :: k := ⟨Jf_.tail, by kernel_rfl⟩
end Go.Proofs.Ytofanlcjeohcjaa.Am
namespace Go.Proofs.Ytofanlcjeohcjaa.Am
open Go.RowKit
structure DS where
  st : Sha.St8
  w : List Nat
  n : Nat
def DS.k (d : DS) (b : List Nat) : Nat := Nat.min (64 - d.n % 64) b.length
def DS.w' (d : DS) (b : List Nat) : List Nat := d.w.take (d.n % 64) ++ (b.take (d.k b) ++ d.w.drop (d.n % 64 + d.k b))
def DS.step (d : DS) (b : List Nat) : DS := ⟨if d.n % 64 + d.k b = 64 then Sha.next d.st (fun j => (d.w' b).getD j 0) else d.st, d.w' b, d.n + d.k b⟩
def DS.write : Nat → DS → List Nat → DS
  | 0, d, _ => d
  | f + 1, d, b => if b.length = 0 then d else DS.write f (d.step b) (b.drop (d.k b))
structure Dig (s : St) (D : Nat) (d : DS) : Prop where
  made : Own s D 0 (.bool true)
  st : OwnRow s D 1 (st8V d.st).toList
  w : OwnRow s D 9 (u8l d.w)
  n : Own s D 73 (.int .i64 (d.n : Nat))
  len : d.w.length = 64
  byt : Byt d.w
  ok : d.st.Ok
theorem Fi_ (r : Sha.St8) : (st8V r).toList.length = 8 := rfl
theorem Dig.ext0 {F : Nat → Prop} {s s' : St} {D : Nat} {d : DS} (h : Dig s D d) (e : Ext F Non s s') : Dig s' D d := ⟨h.made.ext0 e, h.st.ext0 e, h.w.ext0 e, h.n.ext0 e, h.len, h.byt, h.ok⟩
theorem Dig.same {s s' : St} {D : Nat} {d : DS} (h : Dig s D d) (hm : s'.mem = s.mem) (hn : s'.next = s.next) : Dig s' D d :=
 ⟨h.made.same hm hn, fun i v e => (h.st i v e).same hm hn, fun i v e => (h.w i v e).same hm hn, h.n.same hm hn, h.len, h.byt, h.ok⟩
theorem Aqp_ {r : Sha.St8} (h : r.Ok) : u32s (st8V r).toList = some [r.a, r.b, r.c, r.d, r.e, r.f, r.g, r.h] := by
 have e : ∀ (n : Nat) (l : List Value) (ns : List Nat), n < 4294967296 → u32s l = some ns → u32s (.int .u32 (n : Int) :: l) = some (n :: ns) := fun n l ns hn hl => by
   show (match Value.int .u32 (.ofNat n), u32s l with | .int .u32 (.ofNat n), some ns => bif Nat.blt n 4294967296 then some (n :: ns) else none | _, _ => none) = _
   rw [hl]
   simp -implicitDefEqProofs only [Fx_ hn, cond_true]
 exact e _ _ _ h.a (e _ _ _ h.b (e _ _ _ h.c (e _ _ _ h.d (e _ _ _ h.e (e _ _ _ h.f (e _ _ _ h.g (e _ _ _ h.h rfl)))))))
theorem W.next {s : St} {r : Sha.St8} {b o c : Nat} {l : List Nat} {Q : Value → St → Prop} (hr : r.Ok) (h : Row s b o (u8l l)) (hl : l.length = 64) (hb : Byt l)
   (q : ∀ s1, s1.mem = s.mem → s1.next = s.next → Ext (In b o 64) Non s s1 → Q (.agg (st8V (Sha.next r fun j => l.getD j 0))) s1) : W (nextM [.agg (st8V r), .slice (some ⟨b, o, none⟩) 64 c]) s Q := by
 refine W.on (Aqp_ hr) (W.chk (by decide) (W.bind ?_))
 have h2 : l.length = (u8l l).length := (Ar_ l).symm
 show W (Am.rdL 64 ⟨b, o, none⟩) s _
 rw [← hl]
 refine W.rdB h fun s1 e1 e2 e3 => W.on (AfB_ hb) ?_
 show W (nextK r l st8M) s1 Q
 rw [SD_, AaQ_]
 rw [hl] at e3
 exact W.pure (q s1 e1 e2 e3)
end Go.Proofs.Ytofanlcjeohcjaa.Am
namespace Go.Proofs.Ytofanlcjeohcjaa.Am
open Go.RowKit
theorem AtO_ : fldN envS 167 0 = some (0, 1, false) := by kernel_rfl
theorem AsA_ : fldN envS 167 1 = some (1, 8, true) := by kernel_rfl
theorem Aui_ : fldN envS 167 2 = some (9, 64, true) := by kernel_rfl
theorem ApV_ : fldN envS 167 3 = some (73, 1, false) := by kernel_rfl
theorem Auf_ : ptrT envS 145 = true := by kernel_rfl
theorem Abr_ : tyS envS 4 = some (1, false) := by kernel_rfl
theorem OG_ : tyS envS 3 = some (1, false) := by kernel_rfl
theorem AqC_ : arrN envS 165 = some (64, 1) := by kernel_rfl
theorem AkA_ : tyS envS 163 = some (8, true) := by kernel_rfl
theorem Bs.srcK {s : St} {v : Value} {l : List Nat} (h : Bs s v l) {k : Nat} (hk : k ≤ l.length) : ∃ s1, srcL 1 v k s = .some (u8l (l.take k)) s1 ∧ s1.mem = s.mem ∧ s1.next = s.next ∧ Ext (BsF v) Non s s1 := by
 rcases h with ⟨rfl, rfl⟩ | ⟨b, o, c, rfl, _, _, h3⟩
 · simp at hk
   subst hk
   exact ⟨s, rfl, rfl, rfl, Ext.refl s⟩
 · have h4 : Row s b o (u8l (l.take k)) := by
     have := h3.take (n := k)
     rw [← List.map_take] at this
     exact this
   have hl : (l.take k).length = k := by rw [List.length_take]; omega
   obtain ⟨a, s1, e, rfl, h1, h2, h5⟩ := W.rdB (Q := fun a s1 => a = u8l (l.take k) ∧ s1.mem = s.mem ∧ s1.next = s.next ∧ Ext (In b o (l.take k).length) Non s s1) h4 fun s1 e1 e2 e3 => ⟨rfl, e1, e2, e3⟩
   rw [hl] at e h5
   refine ⟨s1, ?_, h1, h2, ?_⟩
   · show Am.rdL (k * 1) ⟨b, o, none⟩ s = _
     rw [Nat.mul_one]
     exact e
   · refine ⟨h5.nxt, h5.lim, h5.cx, h5.mem, ?_, h5.wr⟩
     obtain ⟨d, p1, p2⟩ := h5.rd
     exact ⟨d, p1, fun x hx => ⟨(p2 x hx).1, by have := (p2 x hx).2; exact ⟨this.1, by have := this.2; omega⟩⟩⟩
theorem DS.k_le (d : DS) (b : List Nat) : d.k b ≤ b.length ∧ d.n % 64 + d.k b ≤ 64 := by
 unfold DS.k
 have h1 : Nat.min (64 - d.n % 64) b.length ≤ 64 - d.n % 64 := Nat.min_le_left _ _
 have h2 : Nat.min (64 - d.n % 64) b.length ≤ b.length := Nat.min_le_right _ _
 have h3 : d.n % 64 < 64 := Nat.mod_lt _ (by decide)
 exact ⟨h2, by omega⟩
theorem DS.w'_len (d : DS) (b : List Nat) (h : d.w.length = 64) : (d.w' b).length = 64 := by
 obtain ⟨h1, h2⟩ := d.k_le b
 unfold DS.w'
 rw [List.length_append, List.length_append, List.length_take, List.length_take, List.length_drop, h]
 omega
theorem DS.w'_byt (d : DS) (b : List Nat) (h : Byt d.w) (hb : Byt b) : Byt (d.w' b) := fun x hx => by
 unfold DS.w' at hx
 rcases List.mem_append.1 hx with hx | hx
 · exact h x (List.mem_of_mem_take hx)
 · rcases List.mem_append.1 hx with hx | hx
   · exact hb x (List.mem_of_mem_take hx)
   · exact h x (List.mem_of_mem_drop hx)
theorem Dig.lay {F : Nat → Prop} {s s2 : St} {D : Nat} {d : DS} {b : List Nat} (h : Dig s D d) (x : Ext F (In D (0 + 9 + d.n % 64 * 1) (d.k b * 1)) s s2) (r : OwnRow s2 D (0 + 9 + d.n % 64 * 1) (u8l (b.take (d.k b)))) (hb : Byt b) : Dig s2 D ⟨d.st, d.w' b, d.n⟩ := by
 obtain ⟨h1, h2⟩ := d.k_le b
 have hm : d.n % 64 < 64 := Nat.mod_lt _ (by decide)
 have hkl : (b.take (d.k b)).length = d.k b := by rw [List.length_take]; omega
 refine ⟨h.made.ext x fun q => by have := q.1; omega, h.st.ext x fun i hi q => ?_, ?_, h.n.ext x fun q => by have := q.2; omega, d.w'_len b h.len, d.w'_byt b h.byt hb, h.ok⟩
 · have h3 : i < 8 := hi
   have := q.1; omega
 · show OwnRow s2 D 9 (u8l (d.w' b))
   have e : u8l (d.w' b) = u8l (d.w.take (d.n % 64)) ++ (u8l (b.take (d.k b)) ++ u8l (d.w.drop (d.n % 64 + d.k b))) := by
     unfold DS.w' u8l
     rw [List.map_append, List.map_append]
   have hl1 : (u8l (d.w.take (d.n % 64))).length = d.n % 64 := by rw [Ar_, List.length_take, h.len]; omega
   have hw1 : OwnRow s D 9 (u8l (d.w.take (d.n % 64))) := by
     have := h.w.take (n := d.n % 64)
     rw [← List.map_take] at this
     exact this
   have hw3 : OwnRow s D (9 + (d.n % 64 + d.k b)) (u8l (d.w.drop (d.n % 64 + d.k b))) := by
     have := h.w.drop (n := d.n % 64 + d.k b)
     rw [← List.map_drop] at this
     exact this
   rw [e]
   refine OwnRow.append (hw1.ext x fun i hi q => ?_) (OwnRow.append ?_ ?_)
   · rw [hl1] at hi
     have := q.1; omega
   · rw [hl1, show 9 + d.n % 64 = 0 + 9 + d.n % 64 * 1 by omega]
     exact r
   · rw [hl1, Ar_, hkl, Nat.add_assoc]
     refine hw3.ext x fun i hi q => ?_
     have := q.2; omega
end Go.Proofs.Ytofanlcjeohcjaa.Am
end
