import Derived.Test.YtchnfdaebboaeaaGreatDoorSFl20
import Derived.Test.YtchnfdaebboaeaaGreatDoorSFl09
import Derived.KernelRfl
import Derived.Test.YtchnfdaebboaeaaGreatDoorSFl14
import Derived.Test.YtchnfdaebboaeaaGreatDoorSFl08
import Derived.Test.YtchnfdaebboaeaaGreatDoorSFl07
noncomputable section
namespace Go.Proofs.YtchnfdaebboaeaaGreatDoor.Am
open Go.RowKit
def K5 : Nat := BK Tryz.f59
def OJ : Code := Tryz.f59.body.getD .skip
theorem NG : envS.fn.get 59 = some Tryz.f59 := by kernel_rfl
theorem WX {a0 : Value} {n : Nat} {s : St} {Q : Value → St → Prop} (h : ∀ tm, T.get tm 0 = some a0 → W (runF envS n ⟨59, 12, K5, tm, [.code OJ], .run, .normal, none⟩) (s.cxN cxN) fun p s1 => Q p.1 (s1.cxN s.cx)) : W (AJ envS (runF envS n) 59 [a0]) s Q :=
 W.call (by kernel_rfl) (by kernel_rfl) NG (by kernel_rfl) rfl rfl (by simp) (h _ (by kernel_rfl))
theorem AV_ : Tryz.f59.results.toList = [.tmp 2] := by kernel_rfl
def KK : List Item := skim 64 [.code OJ]
def Hz : List Item := skim 64 KK.tail
theorem V6 : skim 64 KK.tail = Hz := by kernel_rfl
def K3 : List Item := skim 64 Hz.tail
theorem Xr : skim 64 Hz.tail = K3 := by kernel_rfl
def QN (E : Env) (call round : Ae) (tm : T Value) : M (T Value) :=
  mv (some (.bool false)) fun v2 =>
  setF 2 v2 tm fun tm1 =>
  M.pure tm1
theorem En_ : RegEq 59 12 K5 KK QN := ⟨by kernel_rfl, fun _ _ _ _ _ _ _ _ _ => by kernel_rfl⟩
def NZ (E : Env) (call round : Ae) (tm : T Value) : M (T Value) :=
  mv (T.get tm 0) fun v3 =>
  M.bind (oS (some v3) fun a => oS (some (.pointer none)) fun b => Cl.get (aBin E .eql 25 (.tmp 3) (.const (.pointer none))) a b) fun v4 =>
  mv (some v4) fun v5 =>
  M.bind (M.chk (isK v5) (M.if (isB v5 false) (oS (T.get tm 0) fun a => M.pure a) (M.pure undef))) fun v6 =>
  M.bind (M.chk (isK v5) (M.if (isB v5 false) (oS (some v6) fun a => kNil a) (M.pure undef))) fun v7 =>
  M.bind (M.chk (isK v5) (M.if (isB v5 false) (oS (some v7) fun a => kFld E 119 a 0) (M.pure undef))) fun v8 =>
  M.bind (M.chk (isK v5) (M.if (isB v5 false) (oS (some v8) fun a => A6 E 4 a) (M.pure undef))) fun v9 =>
  M.bind (M.chk (isK v5) (M.if (isB v5 false) (oS (some v9) fun a => kUn E.P .not a) (M.pure undef))) fun v10 =>
  M.bind (M.on (some v5) fun a => M.on (some (.bool true)) fun b => M.on (some v10) fun c => Cd a b c) fun v11 =>
  mv (some v11) fun v2 =>
  setF 2 v2 tm fun tm1 =>
  M.pure tm1
theorem CS_ : RegEq 59 12 K5 Hz NZ := ⟨by kernel_rfl, fun _ _ _ _ _ _ _ _ _ => by kernel_rfl⟩
theorem AB_ : ∃ k, K3 = .code .ret :: k := ⟨K3.tail, by kernel_rfl⟩
def Cu : Nat := BK Tryz.f22
def Si : Code := Tryz.f22.body.getD .skip
theorem PB : envS.fn.get 22 = some Tryz.f22 := by kernel_rfl
theorem X1 {a0 a1 a2 : Value} {n : Nat} {s : St} {Q : Value → St → Prop} (h : ∀ tm, T.get tm 0 = some a0 → T.get tm 1 = some a1 → T.get tm 2 = some a2 → W (runF envS n ⟨22, 58, Cu, tm, [.code Si], .run, .normal, none⟩) (s.cxN cxN) fun p s1 => Q p.1 (s1.cxN s.cx)) : W (AJ envS (runF envS n) 22 [a0, a1, a2]) s Q :=
 W.call (by kernel_rfl) (by kernel_rfl) PB (by kernel_rfl) rfl rfl (by simp) (h _ (by kernel_rfl) (by kernel_rfl) (by kernel_rfl))
theorem GS_ : Tryz.f22.results.toList = [.tmp 6] := by kernel_rfl
def KR : List Item := skim 64 [.code Si]
def IN : List Item := skim 64 KR.tail
theorem Bg_ : skim 64 KR.tail = IN := by kernel_rfl
def JT : List Item := skim 64 IN.tail
theorem FA_ : skim 64 IN.tail = JT := by kernel_rfl
def Jc : List Item := skim 64 (brF JT)
theorem Xt : skim 64 (brF JT) = Jc := by kernel_rfl
def Io : List Item := skim 64 Jc.tail
theorem SZ : skim 64 Jc.tail = Io := by kernel_rfl
def ID : List Item := skim 64 Io.tail
theorem Wx : skim 64 Io.tail = ID := by kernel_rfl
def JV : List Item := skim 64 (brF ID)
theorem Co_ : skim 64 (brF ID) = JV := by kernel_rfl
def Hy : List Item := skim 64 JV.tail
theorem GU_ : skim 64 JV.tail = Hy := by kernel_rfl
def G0 : List Item := skim 64 (brF Hy)
theorem ST : skim 64 (brF Hy) = G0 := by kernel_rfl
def H8 : List Item := skim 64 G0.tail
theorem Bj_ : skim 64 G0.tail = H8 := by kernel_rfl
def JQ : List Item := skim 64 H8.tail
theorem WN : skim 64 H8.tail = JQ := by kernel_rfl
def Hr : List Item := skim 64 (brF JQ)
theorem Ze : skim 64 (brF JQ) = Hr := by kernel_rfl
def Ke : List Item := skim 64 Hr.tail
theorem VQ : skim 64 Hr.tail = Ke := by kernel_rfl
def My : List Item := skim 64 Ke.tail
theorem YF : skim 64 Ke.tail = My := by kernel_rfl
def Nn (E : Env) (call round : Ae) (tm : T Value) : M (T Value) :=
  mv (some (.int .i64 0)) fun v6 =>
  setF 6 v6 tm fun tm1 =>
  M.pure tm1
theorem FI_ : RegEq 22 58 Cu KR Nn := ⟨by kernel_rfl, fun _ _ _ _ _ _ _ _ _ => by kernel_rfl⟩
def Sq (E : Env) (call round : Ae) (tm : T Value) : M (T Value) :=
  mv (T.get tm 0) fun v10 =>
  M.bind (M.on (some (.func (.func 59) #[] #[])) fun f => M.on (seqO [(some v10)]) fun l => B3 call round f l) fun v11 =>
  setF 11 v11 tm fun tm1 =>
  M.pure tm1
theorem FD_ : RegEq 22 58 Cu IN Sq := ⟨by kernel_rfl, fun _ _ _ _ _ _ _ _ _ => by kernel_rfl⟩
theorem CY_ : B5 JT = some 11 := by kernel_rfl
def Pq (E : Env) (call round : Ae) (tm : T Value) : M (T Value) :=
  mv (T.get tm 0) fun v12 =>
  M.bind (oS (some v12) fun a => kNil a) fun v13 =>
  M.bind (oS (some v13) fun a => kFld E 119 a 1) fun v14 =>
  M.bind (oS (some v14) fun a => A6 E 112 a) fun v15 =>
  mv (T.get tm 1) fun v16 =>
  M.bind (oS (some v15) fun a => oS (some v16) fun b => DL E 112 false a b) fun v17 =>
  mv (some v17) fun v7 =>
  setF 7 v7 tm fun tm1 =>
  M.pure tm1
theorem Vd : RegEq 22 58 Cu Jc Pq := ⟨by kernel_rfl, fun _ _ _ _ _ _ _ _ _ => by kernel_rfl⟩
def QF (E : Env) (call round : Ae) (tm : T Value) : M (T Value) :=
  mv (T.get tm 7) fun v19 =>
  M.bind (oS (some v19) fun a => oS (some (.pointer none)) fun b => Cl.get (aBin E .eql 111 (.tmp 19) (.const (.pointer none))) a b) fun v20 =>
  mv (some v20) fun v18 =>
  setF 18 v18 tm fun tm1 =>
  M.pure tm1
theorem Y9 : RegEq 22 58 Cu Io QF := ⟨by kernel_rfl, fun _ _ _ _ _ _ _ _ _ => by kernel_rfl⟩
theorem Dw_ : B5 ID = some 18 := by kernel_rfl
def PA (E : Env) (call round : Ae) (tm : T Value) : M (T Value) :=
  mv (T.get tm 2) fun v22 =>
  M.bind (oS (some v22) fun a => oS (some (.int .i64 0)) fun b => Cl.get (aBin E .lss 3 (.tmp 22) (.const (.int .i64 0))) a b) fun v23 =>
  mv (some v23) fun v24 =>
  M.bind (M.chk (isK v24) (M.if (isB v24 false) (oS (T.get tm 2) fun a => M.pure a) (M.pure undef))) fun v25 =>
  M.bind (M.chk (isK v24) (M.if (isB v24 false) (oS (some v25) fun a => oS (some (.int .i64 8)) fun b => Cl.get (aBin E .quo 3 (.tmp 25) (.const (.int .i64 8))) a b) (M.pure undef))) fun v26 =>
  M.bind (M.chk (isK v24) (M.if (isB v24 false) (oS (T.get tm 7) fun a => M.pure a) (M.pure undef))) fun v27 =>
  M.bind (M.chk (isK v24) (M.if (isB v24 false) (M.on (some (.func (.func 60) #[] #[])) fun f => M.on (seqO [(some v27)]) fun l => B3 call round f l) (M.pure undef))) fun v28 =>
  M.bind (M.chk (isK v24) (M.if (isB v24 false) (oS (some v26) fun a => oS (some v28) fun b => Cl.get (aBin E .geq 3 (.tmp 26) (.tmp 28)) a b) (M.pure undef))) fun v29 =>
  M.bind (M.on (some v24) fun a => M.on (some (.bool true)) fun b => M.on (some v29) fun c => Cd a b c) fun v30 =>
  mv (some v30) fun v21 =>
  setF 21 v21 tm fun tm1 =>
  M.pure tm1
theorem Uc : RegEq 22 58 Cu JV PA := ⟨by kernel_rfl, fun _ _ _ _ _ _ _ _ _ => by kernel_rfl⟩
theorem Fo_ : B5 Hy = some 21 := by kernel_rfl
def Sm (E : Env) (call round : Ae) (tm : T Value) : M ((Rho × T Value) × List OpLog) :=
  M.bind (apartO (oS (T.get tm 2) fun a => M.pure a)) fun p0 =>
  M.bind (apartO (oS (some p0.1) fun a => oS (some (.int .i64 8)) fun b => Cl.get (aBin E .quo 3 (.tmp 31) (.const (.int .i64 8))) a b)) fun p1 =>
  M.bind (apartO (oS (T.get tm 7) fun a => M.pure a)) fun p2 =>
  M.bind (apartO (oS (some p2.1) fun a => kNil a)) fun p3 =>
  M.bind (apartO (oS (some p3.1) fun a => kFld E 122 a 0)) fun p4 =>
  M.bind (apartO (oS (some p4.1) fun a => A6 E 54 a)) fun p5 =>
  M.bind (apartO (oS (some p1.1) fun a => M.pure a)) fun p6 =>
  setT 8 p6.1 tm fun tm1 =>
  M.pure (([p6.1, p5.1, p4.1, p3.1, p2.1, p1.1, p0.1], tm1), [p6.2, p5.2, p4.2, p3.2, p2.2, p1.2, p0.2])
theorem Dz_ : DrawEq 22 58 Cu G0 [0, 1, 0, 4, 12, 28, 3, 127] Sm := ⟨by kernel_rfl, by kernel_rfl, fun _ _ _ _ _ _ _ _ _ => by kernel_rfl⟩
theorem At_ (E : Env) (call round : Ae) (x31 x32 x33 x34 x35 x36 x8 : Value) (tm : T Value) (s : St) : Bd call round (DE E Cu 58 (hdC G0)) [x8, x36, x35, x34, x33, x32, x31] tm s = (M.bind (oS (some x36) fun a => M.pure a) fun v9 => setT 9 v9 tm fun tm1 => M.pure tm1) s := by kernel_rfl
def PG (E : Env) (call round : Ae) (tm : T Value) : M (T Value) :=
  mv (T.get tm 8) fun v37 =>
  mv (T.get tm 9) fun v38 =>
  M.bind (oS (seqO [(some v38)]) fun l => Bt E .len [54] l) fun v39 =>
  M.bind (oS (some v37) fun a => oS (some v39) fun b => Cl.get (aBin E .geq 3 (.tmp 37) (.tmp 39)) a b) fun v40 =>
  setF 40 v40 tm fun tm1 =>
  M.pure tm1
theorem DF_ : RegEq 22 58 Cu H8 PG := ⟨by kernel_rfl, fun _ _ _ _ _ _ _ _ _ => by kernel_rfl⟩
theorem TC : B5 JQ = some 40 := by kernel_rfl
def Q2 (E : Env) (call round : Ae) (tm : T Value) : M ((Rho × T Value) × List OpLog) :=
  M.bind (apartO (oS (T.get tm 9) fun a => M.pure a)) fun p0 =>
  M.bind (apartO (oS (T.get tm 8) fun a => M.pure a)) fun p1 =>
  M.bind (apartO (oS (some p0.1) fun a => oS (some p1.1) fun b => Cj E 54 a b)) fun p2 =>
  M.bind (apartO (oS (some p2.1) fun a => A6 E 5 a)) fun p3 =>
  M.bind (apartO (oS (T.get tm 2) fun a => M.pure a)) fun p4 =>
  M.bind (apartO (oS (some p4.1) fun a => oS (some (.int .i64 8)) fun b => Cl.get (aBin E .rem 3 (.tmp 53) (.const (.int .i64 8))) a b)) fun p5 =>
  M.bind (apartO (oS (some (.int .u8 1)) fun a => oS (some p5.1) fun b => Cl.get (aBin E .shl 5 (.const (.int .u8 1)) (.tmp 54)) a b)) fun p6 =>
  M.bind (apartO (oS (some p3.1) fun a => oS (some p6.1) fun b => Cl.get (aBin E .xor 5 (.tmp 52) (.tmp 55)) a b)) fun p7 =>
  M.bind (apartO (oS (some p0.1) fun a => oS (some p1.1) fun b => Cj E 54 a b)) fun p8 =>
  M.pure (([p8.1, p7.1, p6.1, p5.1, p4.1, p3.1, p2.1, p1.1, p0.1], tm), [p8.2, p7.2, p6.2, p5.2, p4.2, p3.2, p2.2, p1.2, p0.2])
theorem AY_ : DrawEq 22 58 Cu Hr [0, 0, 3, 7, 0, 16, 48, 127, 255, 511] Q2 := ⟨by kernel_rfl, by kernel_rfl, fun _ _ _ _ _ _ _ _ _ => by kernel_rfl⟩
theorem Yi (E : Env) (call round : Ae) (x49 x50 x51 x52 x53 x54 x55 x56 x57 : Value) (tm : T Value) (s : St) : Bd call round (DE E Cu 58 (hdC Hr)) [x57, x56, x55, x54, x53, x52, x51, x50, x49] tm s = (M.bind (oS (some x57) fun a => oS (some x56) fun b => Bp E 5 a b) fun _ => M.pure tm) s := by kernel_rfl
def Ru (E : Env) (call round : Ae) (tm : T Value) : M (T Value) :=
  mv (some (.int .i64 0)) fun v6 =>
  setF 6 v6 tm fun tm1 =>
  M.pure tm1
theorem Vm : RegEq 22 58 Cu Ke Ru := ⟨by kernel_rfl, fun _ _ _ _ _ _ _ _ _ => by kernel_rfl⟩
theorem TH : ∃ k, My = .code .ret :: k := ⟨My.tail, by kernel_rfl⟩
def IQ : Nat := BK Tryz.f60
def Se : Code := Tryz.f60.body.getD .skip
theorem Na : envS.fn.get 60 = some Tryz.f60 := by kernel_rfl
theorem W5 {a0 : Value} {n : Nat} {s : St} {Q : Value → St → Prop} (h : ∀ tm, T.get tm 0 = some a0 → W (runF envS n ⟨60, 14, IQ, tm, [.code Se], .run, .normal, none⟩) (s.cxN cxN) fun p s1 => Q p.1 (s1.cxN s.cx)) : W (AJ envS (runF envS n) 60 [a0]) s Q :=
 W.call (by kernel_rfl) (by kernel_rfl) Na (by kernel_rfl) rfl rfl (by simp) (h _ (by kernel_rfl))
theorem Zi : Tryz.f60.results.toList = [.tmp 2] := by kernel_rfl
def Mq : List Item := skim 64 [.code Se]
def Hq : List Item := skim 64 Mq.tail
theorem GC_ : skim 64 Mq.tail = Hq := by kernel_rfl
def Ls : List Item := skim 64 Hq.tail
theorem YA : skim 64 Hq.tail = Ls := by kernel_rfl
def QL (E : Env) (call round : Ae) (tm : T Value) : M (T Value) :=
  mv (some (.int .i64 0)) fun v2 =>
  setF 2 v2 tm fun tm1 =>
  M.pure tm1
theorem Dx_ : RegEq 60 14 IQ Mq QL := ⟨by kernel_rfl, fun _ _ _ _ _ _ _ _ _ => by kernel_rfl⟩
def SK (E : Env) (call round : Ae) (tm : T Value) : M ((Rho × T Value) × List OpLog) :=
  M.bind (apartO (oS (T.get tm 0) fun a => M.pure a)) fun p0 =>
  M.bind (apartO (oS (some p0.1) fun a => kNil a)) fun p1 =>
  M.bind (apartO (oS (some p1.1) fun a => kFld E 122 a 0)) fun p2 =>
  M.bind (apartO (oS (some p2.1) fun a => A6 E 54 a)) fun p3 =>
  M.bind (apartO (oS (seqO [(some p3.1)]) fun l => Bt E .len [54] l)) fun p4 =>
  M.bind (apartO (oS (T.get tm 0) fun a => M.pure a)) fun p5 =>
  M.bind (apartO (oS (some p5.1) fun a => kNil a)) fun p6 =>
  M.bind (apartO (oS (some p6.1) fun a => kFld E 122 a 1)) fun p7 =>
  M.bind (apartO (oS (some p7.1) fun a => A6 E 54 a)) fun p8 =>
  M.bind (apartO (oS (seqO [(some p8.1)]) fun l => Bt E .len [54] l)) fun p9 =>
  M.bind (apartO (oS (some p4.1) fun a => oS (some p9.1) fun b => Cl.get (aBin E .add 3 (.tmp 7) (.tmp 12)) a b)) fun p10 =>
  M.pure (([p10.1, p9.1, p8.1, p7.1, p6.1, p5.1, p4.1, p3.1, p2.1, p1.1, p0.1], tm), [p10.2, p9.2, p8.2, p7.2, p6.2, p5.2, p4.2, p3.2, p2.2, p1.2, p0.2])
theorem Yx : DrawEq 60 14 IQ Hq [0, 1, 3, 7, 15, 0, 32, 96, 224, 480, 1023, 2047] SK := ⟨by kernel_rfl, by kernel_rfl, fun _ _ _ _ _ _ _ _ _ => by kernel_rfl⟩
theorem Ws (E : Env) (call round : Ae) (x3 x4 x5 x6 x7 x8 x9 x10 x11 x12 x13 : Value) (tm : T Value) (s : St) : Bd call round (DE E IQ 14 (hdC Hq)) [x13, x12, x11, x10, x9, x8, x7, x6, x5, x4, x3] tm s = (M.bind (oS (some x13) fun a => M.pure a) fun v2 => setT 2 v2 tm fun tm1 => M.pure tm1) s := by kernel_rfl
theorem DL_ : ∃ k, Ls = .code .ret :: k := ⟨Ls.tail, by kernel_rfl⟩
def LN : Nat := BK Tryz.f24
def M2 : Code := Tryz.f24.body.getD .skip
theorem SA : envS.fn.get 24 = some Tryz.f24 := by kernel_rfl
theorem TG {a0 a1 : Value} {n : Nat} {s : St} {Q : Value → St → Prop} (h : ∀ tm, T.get tm 0 = some a0 → T.get tm 1 = some a1 → W (runF envS n ⟨24, 10, LN, tm, [.code M2], .run, .normal, none⟩) (s.cxN cxN) fun p s1 => Q p.1 (s1.cxN s.cx)) : W (AJ envS (runF envS n) 24 [a0, a1]) s Q :=
 W.call (by kernel_rfl) (by kernel_rfl) SA (by kernel_rfl) rfl rfl (by simp) (h _ (by kernel_rfl) (by kernel_rfl))
theorem Al_ : Tryz.f24.results.toList = [.tmp 4] := by kernel_rfl
def LE : List Item := skim 64 [.code M2]
def IX : List Item := skim 64 LE.tail
theorem DN_ : skim 64 LE.tail = IX := by kernel_rfl
def LM : List Item := skim 64 IX.tail
theorem ZH : skim 64 IX.tail = LM := by kernel_rfl
def QZ (E : Env) (call round : Ae) (tm : T Value) : M (T Value) :=
  mv (some (.bool false)) fun v4 =>
  setF 4 v4 tm fun tm1 =>
  M.pure tm1
theorem Xz : RegEq 24 10 LN LE QZ := ⟨by kernel_rfl, fun _ _ _ _ _ _ _ _ _ => by kernel_rfl⟩
def Nc (E : Env) (call round : Ae) (tm : T Value) : M (T Value) :=
  mv (T.get tm 0) fun v5 =>
  M.bind (oS (some v5) fun a => Bz E 54 9 a) fun v6 =>
  mv (T.get tm 1) fun v7 =>
  M.bind (oS (some v7) fun a => Bz E 54 9 a) fun v8 =>
  M.bind (oS (some v6) fun a => oS (some v8) fun b => Cl.get (aBin E .eql 9 (.tmp 6) (.tmp 8)) a b) fun v9 =>
  mv (some v9) fun v4 =>
  setF 4 v4 tm fun tm1 =>
  M.pure tm1
theorem Uk : RegEq 24 10 LN IX Nc := ⟨by kernel_rfl, fun _ _ _ _ _ _ _ _ _ => by kernel_rfl⟩
theorem CV_ : ∃ k, LM = .code .ret :: k := ⟨LM.tail, by kernel_rfl⟩
theorem Ext.on {G F' G' : Nat → Prop} {s s1 s2 : St} (h : Ext Any G s s1) (k : Ext F' G' s1 s2) (hb : s.lim ≤ s.next) (hG : ∀ x, x < s.next → G' x → G x) : Ext Any G s s2 := h.trans k hb (fun _ _ _ => trivial) hG
theorem BM_ : fldN envS 119 0 = some (0, 1, false) := by kernel_rfl
theorem Hj_ : fldN envS 119 1 = some (1, 1, false) := by kernel_rfl
theorem Nv : fldN envS 122 0 = some (0, 1, false) := by kernel_rfl
theorem UM : fldN envS 122 1 = some (1, 1, false) := by kernel_rfl
theorem Aa_ : tyS envS 4 = some (1, false) := by kernel_rfl
theorem Au_ : tyS envS 112 = some (1, false) := by kernel_rfl
theorem Tj : ptrT envS 25 = true := by kernel_rfl
theorem Bq_ : ptrT envS 111 = true := by kernel_rfl
theorem Bu_ (s : St) : mapT envS 112 s = .some (9, 111) s := by kernel_rfl
theorem Gz_ : envS.P.underlying 9 = some .string := by kernel_rfl
section
variable {D n : Nat} {s : St} {Q : Value → St → Prop}
theorem Yv (hb : s.lim ≤ s.next) (h0 : Own s D 0 (.bool true)) (hn : 20 ≤ n) (q : ∀ s1, s1.mem = s.mem → s1.next = s.next → Ext Any Non s s1 → Q (.bool false) s1) : W (AJ envS (runF envS n) 59 [.pointer (some ⟨D, 0, none⟩)]) s Q := by
 refine WX fun tm h => ?_
 refine En_.w rfl (by omega) ?_
 simp only [QN, AI, W_mv, AM]
 refine CS_.w V6 (by omega) ?_
 simp only [NZ, AK, W_oS, W_on, AI, W_mv, AM, T.get_set, reduceIte, Dr, Di, Do, Df, Dk, Br, reduceCtorEq, ↓reduceIte, h, I2 Tj, BW BM_ (by decide)]
 refine W.load1 Aa_ (h0.same (s' := s.cxN cxN) rfl rfl).at' ?_
 simp only [MU, Bool.not_true]
 refine W.end' (rs := [2]) (vs := [.bool false]) Xr (.inl AB_) (by omega) NG AV_ rfl (by simp [T.get_set]) ?_
 exact q _ rfl rfl ((Ext.refl (F := Any) (G := Non) (s.cxN cxN)).thenRd hb _).cx'
end
def DH : Nat := BK Tryz.f18
abbrev TN : Nat := 16
def OL : Code := Tryz.f18.body.getD .skip
theorem QK : envS.fn.get 18 = some Tryz.f18 := by kernel_rfl
theorem WR {a0 a1 : Value} {n : Nat} {s : St} {Q : Value → St → Prop} (h : ∀ tm, T.get tm 0 = some a0 → T.get tm 1 = some a1 → W (runF envS n ⟨18, 16, DH, tm, [.code OL], .run, .normal, none⟩) (s.cxN cxN) fun p s1 => Q p.1 (s1.cxN s.cx)) : W (AJ envS (runF envS n) 18 [a0, a1]) s Q :=
 W.call (by kernel_rfl) (by kernel_rfl) QK (by kernel_rfl) rfl rfl (by simp) (h _ (by kernel_rfl) (by kernel_rfl))
theorem DP_ : Tryz.f18.results.toList = [.tmp 4] := by kernel_rfl
def Lp : List Item := skim 64 [.code OL]
def Jh : List Item := skim 64 Lp.tail
theorem SV : skim 64 Lp.tail = Jh := by kernel_rfl
def Iz : List Item := skim 64 Jh.tail
theorem Dc_ : skim 64 Jh.tail = Iz := by kernel_rfl
def I8 : List Item := skim 64 (brF Iz)
theorem Wf : skim 64 (brF Iz) = I8 := by kernel_rfl
def HW : List Item := skim 64 I8.tail
theorem Vv : skim 64 I8.tail = HW := by kernel_rfl
def F7 : List Item := skim 64 HW.tail
theorem SL : skim 64 HW.tail = F7 := by kernel_rfl
def Mc : List Item := skim 64 (brT F7)
theorem Bd_ : skim 64 (brT F7) = Mc := by kernel_rfl
def FO : List Item := skim 64 (brF F7)
theorem Zb : skim 64 (brF F7) = FO := by kernel_rfl
theorem Aw_ : skim 64 Mc.tail = FO := by kernel_rfl
def Lt : List Item := skim 64 FO.tail
theorem DO_ : skim 64 FO.tail = Lt := by kernel_rfl
def Qi (E : Env) (call round : Ae) (tm : T Value) : M (T Value) :=
  mv (some (.int .i64 0)) fun v4 =>
  setF 4 v4 tm fun tm1 =>
  M.pure tm1
theorem Zq : RegEq 18 16 DH Lp Qi := ⟨by kernel_rfl, fun _ _ _ _ _ _ _ _ _ => by kernel_rfl⟩
def Ss (E : Env) (call round : Ae) (tm : T Value) : M (T Value) :=
  mv (T.get tm 1) fun v5 =>
  M.bind (oS (some v5) fun a => oS (some (.int .i64 1)) fun b => Cl.get (aBin E .lss 3 (.tmp 5) (.const (.int .i64 1))) a b) fun v6 =>
  setF 6 v6 tm fun tm1 =>
  M.pure tm1
theorem GD_ : RegEq 18 16 DH Jh Ss := ⟨by kernel_rfl, fun _ _ _ _ _ _ _ _ _ => by kernel_rfl⟩
theorem UR : B5 Iz = some 6 := by kernel_rfl
def Oy (E : Env) (call round : Ae) (tm : T Value) : M (T Value) :=
  mv (T.get tm 0) fun v7 =>
  mv (T.get tm 1) fun v8 =>
  M.bind (oS (some v7) fun a => oS (some v8) fun b => Cl.get (aBin E .rem 3 (.tmp 7) (.tmp 8)) a b) fun v9 =>
  mv (some v9) fun v0 =>
  setF 0 v0 tm fun tm1 =>
  M.pure tm1
theorem ZW : RegEq 18 16 DH I8 Oy := ⟨by kernel_rfl, fun _ _ _ _ _ _ _ _ _ => by kernel_rfl⟩
def Q6 (E : Env) (call round : Ae) (tm : T Value) : M (T Value) :=
  mv (T.get tm 0) fun v10 =>
  M.bind (oS (some v10) fun a => oS (some (.int .i64 0)) fun b => Cl.get (aBin E .lss 3 (.tmp 10) (.const (.int .i64 0))) a b) fun v11 =>
  setF 11 v11 tm fun tm1 =>
  M.pure tm1
theorem UJ : RegEq 18 16 DH HW Q6 := ⟨by kernel_rfl, fun _ _ _ _ _ _ _ _ _ => by kernel_rfl⟩
theorem SM : B5 F7 = some 11 := by kernel_rfl
def NK (E : Env) (call round : Ae) (tm : T Value) : M (T Value) :=
  mv (T.get tm 0) fun v12 =>
  mv (T.get tm 1) fun v13 =>
  M.bind (oS (some v12) fun a => oS (some v13) fun b => Cl.get (aBin E .add 3 (.tmp 12) (.tmp 13)) a b) fun v14 =>
  mv (some v14) fun v0 =>
  setF 0 v0 tm fun tm1 =>
  M.pure tm1
theorem Xh : RegEq 18 16 DH Mc NK := ⟨by kernel_rfl, fun _ _ _ _ _ _ _ _ _ => by kernel_rfl⟩
def RD (E : Env) (call round : Ae) (tm : T Value) : M (T Value) :=
  mv (T.get tm 0) fun v15 =>
  mv (some v15) fun v4 =>
  setF 4 v4 tm fun tm1 =>
  M.pure tm1
theorem Ei_ : RegEq 18 16 DH FO RD := ⟨by kernel_rfl, fun _ _ _ _ _ _ _ _ _ => by kernel_rfl⟩
theorem Yy : ∃ k, Lt = .code .ret :: k := ⟨Lt.tail, by kernel_rfl⟩
section
variable {E : Env} {s : St} {t : Nat} {xo yo : Operand}
theorem Gx_ (m n : Nat) (hn : 1 ≤ n) : Cl.get (aBin E .rem t xo yo) (.int .i64 (.negSucc m)) (.int .i64 (n : Nat)) s = .some (.int .i64 ((Int.negSucc m).tmod (n : Nat))) s := by
 show AV E .rem t xo yo (.int .i64 (.negSucc m)) (.int .i64 (n : Nat)) s = _
 show M.on (semP E.P (do eqGuard .rem t xo yo (.int .i64 (.negSucc m)) (.int .i64 (n : Nat)); binOp .rem t (.int .i64 (.negSucc m)) (.int .i64 (n : Nat)))) pV s = _
 have e : semP E.P (do eqGuard .rem t xo yo (.int .i64 (.negSucc m)) (.int .i64 (n : Nat)); binOp .rem t (.int .i64 (.negSucc m)) (.int .i64 (n : Nat))) = some (.int .i64 ((Int.negSucc m).tmod (n : Nat))) := by
   show semP E.P (Op.intDiv .rem .i64 (.negSucc m) (n : Nat)) = _
   unfold Op.intDiv
   rw [if_neg (by omega)]
   rfl
 rw [e]
 generalize (Int.negSucc m).tmod (n : Nat) = y
 have hp : ∀ y : Int, pV (.int .i64 y) s = .some (.int .i64 y) s := fun y => by
   cases y with
   | ofNat k => first | rfl | (cases k <;> rfl)
   | negSucc k => first | rfl | (cases k <;> rfl)
 exact hp y
theorem Vr {x : Int} {n : Nat} (hn : 1 ≤ n) (Q : Value → St → Prop) : W (Cl.get (aBin E .rem t xo yo) (.int .i64 x) (.int .i64 (n : Nat))) s Q = Q (.int .i64 (x.tmod (n : Nat))) s := by
 cases x with
 | ofNat m => exact A5 (Ot m n hn xo yo)
 | negSucc m => exact A5 (Gx_ m n hn)
theorem BD_ {k : Nat} (hk : k < 8) (Q : Value → St → Prop) : W (Cl.get (aBin E .shl t xo yo) (.int .u8 1) (.int .i64 (k : Nat))) s Q = Q (.int .u8 (2 ^ k : Nat)) s := by
 refine A5 ?_
 match k, hk with
 | 0, _ => rfl
 | 1, _ => rfl
 | 2, _ => rfl
 | 3, _ => rfl
 | 4, _ => rfl
 | 5, _ => rfl
 | 6, _ => rfl
 | 7, _ => rfl
theorem Ab_ {m n : Nat} (h : m ^^^ n < 256) (Q : Value → St → Prop) : W (Cl.get (aBin E .xor t xo yo) (.int .u8 (m : Nat)) (.int .u8 (n : Nat))) s Q = Q (.int .u8 (m ^^^ n : Nat)) s := by
 refine A5 ?_
 show int3 xorK (AV E .xor t xo yo) (.int .u8 (.ofNat m)) (.int .u8 (.ofNat n)) s = _
 show Option.rec (motive := fun _ => R Value) _ (fun v => .some v s) (xorK .u8 .u8 m n) = _
 have e : xorK .u8 .u8 m n = some (.int .u8 (m ^^^ n : Nat)) := by
   unfold xorK B2
   rw [Nat.beq_refl]
   show fitI .u8 (m ^^^ n) = _
   unfold fitI
   rw [Nat.ble_eq_true_of_le (show m ^^^ n ≤ mxOf .u8 by show m ^^^ n ≤ 255; omega)]
   show mkI .u8 (m ^^^ n) = _
   unfold mkI
   rw [AG]
   rfl
 rw [e]
end
theorem Tk {x : Int} {m : Nat} (hm : 1 ≤ m) : x % (m : Nat) = if x.tmod (m : Nat) < 0 then x.tmod (m : Nat) + (m : Nat) else x.tmod (m : Nat) := by
 have b1 : x.tmod (m : Nat) < (m : Nat) := Int.tmod_lt_of_pos x (by omega)
 have b2 : -(m : Nat) < x.tmod (m : Nat) := by
   have := Int.lt_tmod_of_pos x (b := (m : Nat)) (by omega)
   omega
 have e : x = x.tmod (m : Nat) + (m : Nat) * x.tdiv (m : Nat) := (Int.tmod_add_mul_tdiv x (m : Nat)).symm
 have e1 : x % (m : Nat) = x.tmod (m : Nat) % (m : Nat) := by
   conv => lhs; rw [e]
   rw [Int.add_mul_emod_self_left]
 rw [e1]
 generalize x.tmod (m : Nat) = y at *
 by_cases h : y < 0
 · rw [if_pos h, ← Int.add_emod_right, Int.emod_eq_of_lt (by omega) (by omega)]
 · rw [if_neg h, Int.emod_eq_of_lt (by omega) (by omega)]
theorem Y7 {n m : Nat} {x : Int} {s : St} {Q : Value → St → Prop} (hm : 1 ≤ m) (hm2 : m ≤ 1000000) (hn : 20 ≤ n) (q : Q (.int .i64 (x % (m : Nat))) s) : W (AJ envS (runF envS n) 18 [.int .i64 x, .int .i64 (m : Nat)]) s Q := by
 refine WR fun tm h0 h1 => ?_
 refine Zq.w rfl (by omega) ?_
 simp only [Qi, AI, W_mv, AM]
 refine GD_.w SV (by omega) ?_
 simp only [Ss, AK, W_oS, AI, W_mv, AM, T.get_set, reduceIte, Nat.reduceEqDiff, ↓reduceIte, Hp, h1]
 refine W.cond (v := false) Dc_ UR (by simp [T.get_set]; omega) (by omega) (fun h => by cases h) fun _ => ?_
 refine ZW.w Wf (by omega) ?_
 simp only [Oy, AK, W_oS, AI, W_mv, AM, T.get_set, reduceIte, Nat.reduceEqDiff, reduceCtorEq, ↓reduceIte, h0, h1, Vr hm]
 have b1 : x.tmod (m : Nat) < (m : Nat) := Int.tmod_lt_of_pos x (by omega)
 have b2 : -(m : Nat) < x.tmod (m : Nat) := by
   have := Int.lt_tmod_of_pos x (b := (m : Nat)) (by omega)
   omega
 rw [Tk hm] at q
 generalize x.tmod (m : Nat) = y at *
 refine UJ.w Vv (by omega) ?_
 simp only [Q6, AK, W_oS, AI, W_mv, AM, T.get_set, reduceIte, ↓reduceIte, Hp]
 have fin : ∀ (n1 : Nat) (tm1 : T Value) (td : List Item) (r : Int), 10 ≤ n1 → r = (if y < 0 then y + (m : Nat) else y) → skim 64 td = FO → T.get tm1 0 = some (.int .i64 r) → W (runF envS n1 ⟨18, TN, DH, tm1, td, .run, .normal, none⟩) (s.cxN cxN) fun p s1 => Q p.1 (s1.cxN s.cx) := fun n1 tm1 td r hn1 hr hT g0 => by
   refine Ei_.w hT (by omega) ?_
   simp only [RD, AI, W_mv, AM, g0]
   refine W.end' (rs := [4]) (vs := [.int .i64 r]) DO_ (.inl Yy) (by omega) QK DP_ rfl (by simp [T.get_set]) ?_
   rw [hr]
   exact q
 by_cases hy : y < 0
 · refine W.cond (v := true) SL SM (by simp [T.get_set]; exact hy) (by omega) (fun _ => ?_) fun h => by cases h
   refine Xh.w Bd_ (by omega) ?_
   simp only [NK, AK, W_oS, AI, W_mv, AM, T.get_set, reduceIte, Nat.reduceEqDiff, reduceCtorEq, ↓reduceIte, Gw, h1]
   rw [Eb (by omega) (by omega)]
   exact fin _ _ _ _ (by omega) (by rw [if_pos hy]) Aw_ (by simp [T.get_set])
 · refine W.cond (v := false) SL SM (by simp [T.get_set]; omega) (by omega) (fun h => by cases h) fun _ => ?_
   exact fin _ _ _ _ (by omega) (by rw [if_neg hy]) Zb (by simp [T.get_set])
theorem V7 : OrcOK Tryz.prog 18 CT :=
 Qa (E := envS) (fuel := 100) IZ (by kernel_rfl) Bh_ GH_ Wt fun nv hs args s v s' hm hb => by
   obtain ⟨m, x, h1, h2, h3, h4⟩ := ZJ hs hm
   rw [h1]
   exact Y7 h2 h3 (by decide) ⟨h4, rfl, rfl⟩
theorem PN : tyS envS 5 = some (1, false) := by kernel_rfl
theorem MM : tyS envS 54 = some (1, false) := by kernel_rfl
theorem Gb : slN envS 54 = some 1 := by kernel_rfl
section
variable {E : Env} {s : St} {t : Nat} {xo yo : Operand}
theorem EQ_ (m n : Nat) (hn : 1 ≤ n) (hm : m ≤ 9223372036854775807) : Cl.get (aBin E .quo t xo yo) (.int .i64 (m : Nat)) (.int .i64 (n : Nat)) s = .some (.int .i64 (m / n : Nat)) s := by
 show int3 quoK (AV E .quo t xo yo) (.int .i64 (.ofNat m)) (.int .i64 (.ofNat n)) s = _
 show Option.rec (motive := fun _ => R Value) _ (fun v => .some v s) (quoK .i64 .i64 m n) = _
 have : quoK .i64 .i64 m n = some (.int .i64 (m / n : Nat)) := by
   unfold quoK B2
   rw [Nat.beq_refl, Nat.ble_eq_true_of_le hn]
   exact CX_ (Nat.le_trans (Nat.div_le_self m n) hm)
 rw [this]
theorem PS {m : Nat} (hm : m ≤ 9223372036854775807) (Q : Value → St → Prop) : W (Cl.get (aBin E .quo t xo yo) (.int .i64 (m : Nat)) (.int .i64 8)) s Q = Q (.int .i64 (m / 8 : Nat)) s := A5 (EQ_ m 8 (by decide) hm)
theorem Hb_ {m : Nat} (Q : Value → St → Prop) : W (Cl.get (aBin E .rem t xo yo) (.int .i64 (m : Nat)) (.int .i64 8)) s Q = Q (.int .i64 (m % 8 : Nat)) s := Nd (n := 8) (by decide) Q
theorem Uj (a b : Int) (Q : Value → St → Prop) : W (Cl.get (aBin E .add t xo yo) (.int .i64 a) (.int .i64 b)) s Q = Q (.int .i64 (wrap64 (a + b))) s := A5 (OV _ a b)
theorem W.storeX {b o : Nat} {g : Bool} {u v : Value} {Q : Value → St → Prop} (ht : tyS E t = some (1, g)) (hv : oneCell v = true) (h : Own s b o u)
   (q : ∀ s1, s1.next = s.next → s1.mem = T.set s.mem (b + o) (.C b v) → s1.cx = s.cx → Q undef s1) : W (Bp E t (.pointer (some ⟨b, o, none⟩)) v) s Q := by
 obtain ⟨i, g1, g2, g3⟩ := Gt ht
 have hl : (cellsOf v).length = 1 := by rw [Ho hv]; rfl
 refine W.bind (W.pure (W.bind (W.bind (W.ti g1 (W.chk (by rw [g2, hl]; rfl) ?_)))))
 rw [Ho hv]
 show W (Am.fA (⟨b, o, none⟩ : Addr) fun a => M.bind (Am.wrV a v) fun _ => M.pure ()) s _
 exact W.fA (W.bind (W.wrV h hv (W.pure (W.pure (q _ rfl rfl rfl)))))
end
section
variable {B n : Nat} {s : St} {Q : Value → St → Prop}
theorem TR {p1 p2 : Option Addr} {m1 m2 c1 c2 : Nat} (hb : s.lim ≤ s.next) (f0 : Own s B 0 (.slice p1 m1 c1)) (f1 : Own s B 1 (.slice p2 m2 c2)) (hz : m1 + m2 ≤ 5000000) (hn : 20 ≤ n) (q : ∀ s1, Ext Any Non s s1 → s1.mem = s.mem → s1.next = s.next → Q (.int .i64 (m1 + m2 : Nat)) s1) : W (AJ envS (runF envS n) 60 [.pointer (some ⟨B, 0, none⟩)]) s Q := by
 have hb0 : (s.cxN cxN).lim ≤ (s.cxN cxN).next := hb
 have f0' : Own (s.cxN cxN) B 0 (.slice p1 m1 c1) := f0.same rfl rfl
 have f1' : Own (s.cxN cxN) B 1 (.slice p2 m2 c2) := f1.same rfl rfl
 have hm0 : (s.cxN cxN).mem = s.mem := rfl
 have hn0 : (s.cxN cxN).next = s.next := rfl
 refine W5 fun tm t0 => ?_
 refine Dx_.w rfl (by omega) ?_
 simp only [QL, AI, W_mv, AM]
 refine Yx.w GC_ (by omega) ?_
 generalize hs0 : s.cxN cxN = s0 at *
 simp only [SK, T.get_set, Nat.reduceEqDiff, reduceIte, t0, BD, CX]
 rw [W_dq fun s Q => Br (s := s) _ Q]
 dsimp only
 try simp only [BD]
 rw [W_dq fun s Q => BW (s := s) Nv (by decide) Q]
 dsimp only
 try simp only [BD]
 refine W.dload MM ((f0'.same (s' := dSt s0.mem s0.next) rfl rfl).at') fun rd3 hr3 => ?_
 try simp only [BD, By, Bo, Bg]
 rw [W_dq fun s Q => Ga (s := s) Gb Q]
 dsimp only
 try simp only [CX]
 rw [W_dq fun s Q => Br (s := s) _ Q]
 dsimp only
 try simp only [BD]
 rw [W_dq fun s Q => BW (s := s) UM (by decide) Q]
 dsimp only
 try simp only [BD]
 refine W.dload MM ((f1'.same (s' := dSt s0.mem s0.next) rfl rfl).at') fun rd8 hr8 => ?_
 try simp only [BD]
 rw [W_dq fun s Q => Ga (s := s) Gb Q]
 dsimp only
 try simp only [BD]
 rw [W_dq fun s Q => Uj (s := s) _ _ Q, AI]
 have e : wrap64 (((m1 : Nat) : Int) + ((m2 : Nat) : Int)) = ((m1 + m2 : Nat) : Int) := by
   rw [Eb (by omega) (by omega)]; omega
 rw [e]
 refine ⟨Jw (by simp) (by simp), ?_⟩
 refine W.cast (Ws _ _ _ _ _ _ _ _ _ _ _ _ _ _ _ _) ?_
 simp only [AK, W_oS, AI, DM]
 generalize hs' : (⟨(dSt s0.mem s0.next).mem, (dSt s0.mem s0.next).next, s0.lim, _, _, s0.cx⟩ : St) = s7
 have x7 : Ext Any Non s0 s7 := by
   rw [← hs']
   exact Ext.draw (F := Any) (Nat.le_refl _) (fun _ _ => rfl) (by simp) fun _ _ _ _ _ => trivial
 have m7 : s7.mem = s0.mem := by rw [← hs']; rfl
 have n7 : s7.next = s0.next := by rw [← hs']; rfl
 rw [← hs0] at x7
 refine W.end' (rs := [2]) (vs := [.int .i64 (m1 + m2 : Nat)]) YA (.inl DL_) (by omega) Na Zi x7.cx (by simp [T.get_set]) ?_
 exact q _ x7.cx' (m7.trans hm0) (n7.trans hn0)
end
section
variable {n D M B b c j m mx : Nat} {s : St} {a : ByteArray} {es : List MapEntry} {ns : List ByteArray} {e : MapEntry} {l : List Nat} {Q : Value → St → Prop}
theorem Ex_ (hb : s.lim ≤ s.next) (h0 : Own s D 0 (.bool true)) (h1 : Own s D 1 (.map (some M))) (ho : Obj s M (.map es mx)) (he : es.map (·.key) = ns.map Value.string) (hj : (ns.findIdx? fun x => a == x) = some j) (hej : es[j]? = some e) (hev : e.val = .pointer (some ⟨B, 0, none⟩))
   (f0 : Own s B 0 (.slice (some ⟨b, 0, none⟩) l.length c)) (f1 : Own s B 1 (.slice none 0 0)) (hr : Al s b 0 (u8l l)) (hby : ∀ y ∈ l, y < 256) (hm : m / 8 < l.length) (hz : l.length ≤ 1000) (hn : 400 ≤ n)
   (q : ∀ s1, s1.next = s.next → s1.mem = T.set s.mem (b + m / 8) (.C b (.int .u8 (l.getD (m / 8) 0 ^^^ 2 ^ (m % 8) : Nat))) → Q (.int .i64 0) s1) :
   W (AJ envS (runF envS n) 22 [.pointer (some ⟨D, 0, none⟩), .string a, .int .i64 (m : Nat)]) s Q := by
 have hb0 : (s.cxN cxN).lim ≤ (s.cxN cxN).next := hb
 have h00 : Own (s.cxN cxN) D 0 (.bool true) := h0.same rfl rfl
 refine X1 fun tm t0 t1 t2 => ?_
 refine FI_.w rfl (by omega) ?_
 simp only [Nn, AI, W_mv, AM]
 refine FD_.w Bg_ (by omega) ?_
 simp only [Sq, AK, W_on, AI, W_mv, AM, T.get_set, By, Bo, Bg, B4, reduceIte, reduceCtorEq, ↓reduceIte, t0]
 refine Yv hb0 h00 (by omega) fun s1 m1 n1 x1 => ?_
 have y1 := x1
 have m1' : s1.mem = s.mem := m1
 have n1' : s1.next = s.next := n1
 try simp only [AK, W_oS, W_on, AI, W_mv, AM, DM, T.get_set, By, Bo, Dm, C9, Bg, B4, reduceIte, Dr, Hj, Gn, Gp, Di, Do, Df, G4, Dk, Br, Nat.reduceEqDiff, reduceCtorEq, ↓reduceIte]
 refine W.cond (v := false) FA_ CY_ (by simp [T.get_set]) (by omega) (fun h => by cases h) fun _ => ?_
 refine Vd.w Xt (by omega) ?_
 simp only [Pq, AK, W_oS, AI, W_mv, AM, T.get_set, reduceIte, Br, Nat.reduceEqDiff, reduceCtorEq, ↓reduceIte, t0, t1, BW Hj_ (by decide)]
 refine W.load1 Au_ (h1.same m1' n1').at' ?_
 try simp only [AK, W_oS, W_on, AI, W_mv, AM, DM, T.get_set, By, Bo, Dm, C9, Bg, B4, reduceIte, Dr, Hj, Gn, Gp, Di, Do, Df, G4, Dk, Br, Nat.reduceEqDiff, reduceCtorEq, ↓reduceIte]
 refine W.lookS1 (j := j) (e := e) Bu_ Gz_ he hj hej (ho.same m1' n1') ?_
 try simp only [AK, W_oS, W_on, AI, W_mv, AM, DM, T.get_set, By, Bo, Dm, C9, Bg, B4, reduceIte, Dr, Hj, Gn, Gp, Di, Do, Df, G4, Dk, Br, Nat.reduceEqDiff, reduceCtorEq, ↓reduceIte]
 have y2 := (y1.thenRd hb0 (D + (0 + 1))).thenRd hb0 M
 have n2 : ((s1.rdN (D + (0 + 1))).rdN M).next = s.next := n1'
 have m2 : ((s1.rdN (D + (0 + 1))).rdN M).mem = s.mem := m1'
 generalize (s1.rdN (D + (0 + 1))).rdN M = s2 at *
 refine Y9.w SZ (by omega) ?_
 simp only [QF, AK, W_oS, AI, W_mv, AM, T.get_set, reduceIte, ↓reduceIte, hev, I2 Bq_]
 refine W.cond (v := false) Wx Dw_ (by simp [T.get_set]) (by omega) (fun h => by cases h) fun _ => ?_
 refine Uc.w Co_ (by omega) ?_
 have e1 : decide (((m : Nat) : Int) < 0) = false := decide_eq_false (by omega)
 simp only [PA, AK, W_oS, W_on, AI, W_mv, AM, T.get_set, By, Bo, Bg, B4, reduceIte, Dr, Di, Do, Df, Dk, Nat.reduceEqDiff, reduceCtorEq, ↓reduceIte, Hp, t2, e1, PS (m := m) (by omega)]
 refine TR (y2.bnd hb0) (f0.same m2 n2) (f1.same m2 n2) (by omega) (by omega) fun s3 x3 m3 n3 => ?_
 have y3 := y2.on x3 hb0 fun _ _ h => h
 have m3' : s3.mem = s.mem := m3.trans m2
 have n3' : s3.next = s.next := n3.trans n2
 simp only [JR]
 have e2 : decide (((l.length + 0 : Nat) : Int) ≤ ((m / 8 : Nat) : Int)) = false := decide_eq_false (by omega)
 simp only [e2]
 refine W.cond (v := false) GU_ Fo_ (by simp [T.get_set]) (by omega) (fun h => by cases h) fun _ => ?_
 refine Dz_.w ST (by omega) ?_
 simp only [Sm, T.get_set, Nat.reduceEqDiff, reduceIte, t2, BD, CX]
 rw [W_dq fun s Q => PS (s := s) (m := m) (by omega) Q]
 dsimp only
 try simp only [CX]
 rw [W_dq fun s Q => Br (s := s) _ Q]
 dsimp only
 try simp only [BD]
 rw [W_dq fun s Q => BW (s := s) Nv (by decide) Q]
 dsimp only
 try simp only [BD]
 refine W.dload MM (((f0.same m3' n3').same (s' := dSt s3.mem s3.next) rfl rfl).at') fun rd5 hr5 => ?_
 try simp only [BD]
 refine Eq.mpr (CX _ _ _ _ _) ?_
 dsimp only
 try simp only [DM]
 rw [AI]
 refine ⟨Jw (by simp) (by simp), ?_⟩
 refine W.cast (At_ _ _ _ _ _ _ _ _ _ _ _ _) ?_
 simp only [AK, W_oS, AI, DM]
 generalize hs' : (⟨(dSt s3.mem s3.next).mem, (dSt s3.mem s3.next).next, s3.lim, _, _, s3.cx⟩ : St) = s4
 have m4 : s4.mem = s.mem := by rw [← hs']; exact m3'
 have n4 : s4.next = s.next := by rw [← hs']; exact n3'
 have x4 : Ext Any Non s3 s4 := by
   rw [← hs']
   exact Ext.draw (F := Any) (Nat.le_refl _) (fun _ _ => rfl) (by simp) fun _ _ _ _ _ => trivial
 have y4 := y3.on x4 hb0 fun _ _ h => h
 refine DF_.w Bj_ (by omega) ?_
 have hcx4 : s4.cx = cxN := y4.cx
 have e3 : decide (((l.length : Nat) : Int) ≤ ((m / 8 : Nat) : Int)) = false := decide_eq_false (by omega)
 simp only [PG, AK, W_oS, AI, W_mv, AM, T.get_set, By, Bo, Bg, reduceIte, Nat.reduceEqDiff, ↓reduceIte, JR, Ga Gb, e3]
 refine W.cond (v := false) WN TC (by simp [T.get_set]) (by omega) (fun h => by cases h) fun _ => ?_
 refine AY_.w Ze (by omega) ?_
 have ob : Own s b (m / 8) (.int .u8 (l.getD (m / 8) 0 : Nat)) := by
   have hh := hr (m / 8) (.int .u8 (l.getD (m / 8) 0 : Nat)) (by
     show (l.map fun x => Value.int .u8 ((x : Nat) : Int))[m / 8]? = _
     rw [List.getElem?_map, List.getElem?_eq_getElem hm, List.getD_eq_getElem?_getD, List.getElem?_eq_getElem hm]
     rfl)
   rwa [Nat.zero_add] at hh
 have hbv : l.getD (m / 8) 0 < 256 := by
   rw [List.getD_eq_getElem?_getD, List.getElem?_eq_getElem hm]
   exact hby _ (List.getElem_mem hm)
 have hpw : 2 ^ (m % 8) < 2 ^ 8 := Nat.pow_lt_pow_right (by decide) (Nat.mod_lt _ (by decide))
 have hx8 : l.getD (m / 8) 0 ^^^ 2 ^ (m % 8) < 256 := Nat.xor_lt_two_pow (n := 8) hbv hpw
 simp only [Q2, T.get_set, Nat.reduceEqDiff, reduceIte, t2, BD, CX]
 rw [W_dq fun s Q => KJ (s := s) Gb hm Q]
 dsimp only
 try simp only [BD]
 refine W.dload PN (((show Own s4 b (0 + m / 8 * 1) _ by rw [Nat.mul_one, Nat.zero_add]; exact ob.same m4 n4).same (s' := dSt s4.mem s4.next) rfl rfl).at') fun rd3 hr3 => ?_
 try simp only [CX]
 rw [W_dq fun s Q => Hb_ (s := s) (m := m) Q]
 dsimp only
 try simp only [BD]
 rw [W_dq fun s Q => BD_ (s := s) (k := m % 8) (Nat.mod_lt _ (by decide)) Q]
 dsimp only
 try simp only [BD]
 rw [W_dq fun s Q => Ab_ (s := s) hx8 Q]
 dsimp only
 try simp only [BD]
 rw [W_dq fun s Q => KJ (s := s) Gb hm Q, AI]
 refine ⟨Jw (by simp) (by simp), ?_⟩
 refine W.cast (Yi _ _ _ _ _ _ _ _ _ _ _ _ _ _) ?_
 simp only [AK, W_oS, AI]
 generalize hs' : (⟨(dSt s4.mem s4.next).mem, (dSt s4.mem s4.next).next, s4.lim, _, _, s4.cx⟩ : St) = s5
 have m5 : s5.mem = s.mem := by rw [← hs']; exact m4
 have n5 : s5.next = s.next := by rw [← hs']; exact n4
 have x5 : Ext Any Non s4 s5 := by
   rw [← hs']
   exact Ext.draw (F := Any) (Nat.le_refl _) (fun _ _ => rfl) (by simp) fun _ _ _ _ _ => trivial
 have ob5 : Own s5 b (0 + m / 8 * 1) (.int .u8 (l.getD (m / 8) 0 : Nat)) := by rw [Nat.mul_one, Nat.zero_add]; exact ob.same m5 n5
 refine W.storeX PN rfl ob5 fun s6 n6 m6 x6 => ?_
 rw [Nat.mul_one, Nat.zero_add] at m6
 try simp only [AK, W_oS, W_on, AI, W_mv, AM, DM, T.get_set, By, Bo, Dm, C9, Bg, B4, reduceIte, Dr, Hj, Gn, Gp, Di, Do, Df, G4, Dk, Br, Nat.reduceEqDiff, reduceCtorEq, ↓reduceIte]
 refine Vm.w VQ (by omega) ?_
 simp only [Ru, AI, W_mv, AM]
 refine W.end' (rs := [6]) (vs := [.int .i64 0]) YF (.inl TH) (by omega) PB GS_ (x6.trans (x5.cx.trans hcx4)) (by simp [T.get_set]) ?_
 exact q _ (n6.trans n5) (by rw [show (s6.cxN s.cx).mem = s6.mem from rfl, m6, m5])
end
theorem Re : ∀ {l m : List Nat}, (∀ x ∈ l, x < 256) → (∀ x ∈ m, x < 256) → l.map UInt8.ofNat = m.map UInt8.ofNat → l = m
 | [], [], _, _, _ => rfl
 | [], _ :: _, _, _, e => by cases e
 | _ :: _, [], _, _, e => by cases e
 | a :: l, b :: m, h1, h2, e => by
   have e1 : UInt8.ofNat a = UInt8.ofNat b := (List.cons.inj e).1
   have e2 : l.map UInt8.ofNat = m.map UInt8.ofNat := (List.cons.inj e).2
   have ha := h1 a (by simp)
   have hb := h2 b (by simp)
   have e3 := congrArg UInt8.toNat e1
   rw [UInt8.toNat_ofNat', UInt8.toNat_ofNat'] at e3
   have : a = b := by
     rw [Nat.mod_eq_of_lt ha, Nat.mod_eq_of_lt hb] at e3
     exact e3
   rw [this, Re (fun x hx => h1 x (by simp [hx])) (fun x hx => h2 x (by simp [hx])) e2]
theorem He_ {l m : List Nat} (h1 : ∀ x ∈ l, x < 256) (h2 : ∀ x ∈ m, x < 256) : ((txt l).data.toList == (txt m).data.toList) = decide (l = m) := by
 unfold txt
 show (((l.map UInt8.ofNat).toArray).toList == ((m.map UInt8.ofNat).toArray).toList) = _
 by_cases h : l = m
 · rw [h, decide_eq_true rfl, beq_self_eq_true]
 · rw [decide_eq_false h]
   exact beq_eq_false_iff_ne.2 fun e => h (Re h1 h2 (by simpa using e))
theorem Zt : KF envS 54 = true := by kernel_rfl
theorem ED_ : Mb envS 9 = true := by kernel_rfl
theorem Ur (s : St) : Bz envS 54 9 (.slice none 0 0) s = .some (.string (txt [])) s := by kernel_rfl
theorem W.strF {v : Value} {l : List Nat} {s : St} {Q : Value → St → Prop} (h : Bs s v l) (q : ∀ s1, s1.mem = s.mem → s1.next = s.next → Ext (BsF v) Non s s1 → Q (.string (txt l)) s1) : W (Bz envS 54 9 v) s Q := by
 rcases h with ⟨rfl, rfl⟩ | ⟨b, o, c, rfl, h1, h2, h3⟩
 · exact W.of (Ur s) (q s rfl rfl (Ext.refl _))
 · exact W.str (.inr ⟨b, o, c, rfl, h1, h2, h3⟩) (.inr ⟨b, o, c, rfl⟩) Zt ED_ q
theorem FG_ {va vb : Value} {l m : List Nat} {n : Nat} {s : St} {Q : Value → St → Prop} (hbd : s.lim ≤ s.next) (ha : Bs s va l) (hb : Bs s vb m) (hl : ∀ x ∈ l, x < 256) (hm : ∀ x ∈ m, x < 256) (hn : 20 ≤ n)
   (q : ∀ s1, Ext (fun x => BsF va x ∨ BsF vb x) Non s s1 → s1.mem = s.mem → s1.next = s.next → Q (.bool (decide (l = m))) s1) : W (AJ envS (runF envS n) 24 [va, vb]) s Q := by
 refine TG fun tm h0 h1 => ?_
 have ha' : Bs (s.cxN cxN) va l := ha.same rfl rfl
 have hb' : Bs (s.cxN cxN) vb m := hb.same rfl rfl
 refine Xz.w rfl (by omega) ?_
 simp only [QZ, AI, W_mv, AM]
 refine Uk.w DN_ (by omega) ?_
 simp only [Nc, AK, W_oS, AI, W_mv, AM, T.get_set, reduceIte, Nat.reduceEqDiff, reduceCtorEq, ↓reduceIte, h0, h1]
 refine W.strF ha' fun sa ma na xa => ?_
 try simp only [AK, W_oS, W_on, AI, W_mv, AM, DM, T.get_set, By, Bo, Dm, C9, Bg, B4, reduceIte, Dr, Hj, Gn, Gp, Di, Do, Df, G4, Dk, Br, Nat.reduceEqDiff, reduceCtorEq, ↓reduceIte]
 refine W.strF (hb'.same ma na) fun sb mb nb xb => ?_
 have hx : Ext (fun x => BsF va x ∨ BsF vb x) Non (s.cxN cxN) sb := (xa.weak hbd (fun _ _ h => .inl h) fun _ _ h => h).step xb hbd (fun _ _ h => .inr h) fun _ h => h.elim
 simp only [El_]
 rw [He_ hl hm]
 refine W.end' (rs := [4]) (vs := [.bool (decide (l = m))]) ZH (.inl CV_) (by omega) SA Al_ hx.cx (by simp [T.get_set]) ?_
 exact q _ hx.cx' (mb.trans ma) (nb.trans na)
theorem OH : ∀ (l : List Nat), ∀ x ∈ outs l, x < 256
 | [], x, hx => by cases hx
 | y :: l, x, hx => by
   have hx' : x ∈ be4 y ++ outs l := hx
   rcases List.mem_append.1 hx' with h | h
   · unfold be4 at h
     simp only [List.mem_cons, List.not_mem_nil, or_false] at h
     rcases h with rfl | rfl | rfl | rfl <;> exact Nat.mod_lt _ (by decide)
   · exact OH l x h
theorem Pd (b : List Nat) : ∀ x ∈ idB b, x < 256 := fun x hx => by
 unfold idB sumB DS.sum at hx
 exact OH _ x (List.mem_of_mem_take hx)
theorem Er {l : List Nat} (h : ∀ x ∈ l, x < 256) (j : Nat) : l.getD j 0 < 256 := by
 rw [List.getD_eq_getElem?_getD]
 cases e : l[j]? with
 | none => show 0 < 256; decide
 | some x => exact h x (List.mem_of_getElem? e)
theorem Gk (k : Nat) (hk : k < 6) (b : Nat) : ∀ x ∈ AO (AT k) b, x < 256 := fun x hx => by
 have hf : ∀ x ∈ AT k, x < 256 := fun x hx => by
   unfold AT Be at hx
   rcases List.mem_append.1 hx with h | h
   · simp only [List.mem_cons, List.not_mem_nil, or_false] at h
     rcases h with rfl | rfl | rfl | rfl | rfl <;> omega
   · exact Pd _ x h
 unfold AO at hx
 rcases List.mem_or_eq_of_mem_set hx with h | h
 · exact hf x h
 · rw [h]
   exact Nat.xor_lt_two_pow (n := 8) (Er hf _) (Nat.pow_lt_pow_right (by decide) (Nat.mod_lt _ (by decide)))
theorem Bv_ {nv : Nat → IntKind × Int} {l m : List Nat} (hs : BU nv) (e : neN l m = true) : ∀ i ∈ l ++ m, ∃ x : Nat, nv i = (.u8, (x : Int)) ∧ x < 256 := fun i hi => by
 unfold neN at e
 rw [List.any_eq_true] at e
 obtain ⟨k, hk, e⟩ := e
 rw [Bool.and_eq_true, beq_iff_eq, beq_iff_eq] at e
 obtain ⟨rfl, rfl⟩ := e
 obtain ⟨bit, g1, g2, g3, g4, g5, g6⟩ := hs.1 k (List.mem_range.1 hk)
 rcases List.mem_append.1 hi with h | h
 · unfold Bc at h
   obtain ⟨h1, h2⟩ := List.mem_range'_1.1 h
   have := g5 (i - (50000 + 100 * k)) (by omega)
   rw [show 50000 + 100 * k + (i - (50000 + 100 * k)) = i by omega] at this
   exact ⟨_, this, Er (Pd _) _⟩
 · unfold Bc at h
   obtain ⟨h1, h2⟩ := List.mem_range'_1.1 h
   have := g4 (i - (40000 + 100 * k)) (by omega)
   rw [show 40000 + 100 * k + (i - (40000 + 100 * k)) = i by omega] at this
   exact ⟨_, this, Er (Gk k (List.mem_range.1 hk) _) _⟩
def N2 (v : Value) : Option Nat := match v with
  | .int .u8 (.ofNat n) => if Nat.blt n 256 = true then some n else none
  | _ => none
def CD : List Value → Option (List Nat)
  | [] => some []
  | v :: l => match N2 v, CD l with
    | some n, some m => some (n :: m)
    | _, _ => none
theorem Fb {nv : Nat → IntKind × Int} : ∀ {l : List Value} {x : List Nat}, CD l = some x → l.map (cV nv) = u8l x ∧ ∀ y ∈ x, y < 256
 | [], x, e => by
   cases e
   exact ⟨rfl, fun y hy => by cases hy⟩
 | v :: l, x, e => by
   unfold CD at e
   split at e
   · rename_i n m e1 e2
     cases e
     obtain ⟨h1, h2⟩ := Fb (nv := nv) e2
     unfold N2 at e1
     split at e1
     · rename_i q
       split at e1
       · rename_i hq
         cases e1
         refine ⟨?_, fun y hy => ?_⟩
         · rw [List.map_cons, h1]
           rfl
         · rcases List.mem_cons.1 hy with rfl | hy
           · exact Nat.lt_of_lt_of_le (Nat.lt_succ_self _) (Nat.le_of_ble_eq_true hq)
           · exact h2 y hy
       · cases e1
     · cases e1
   · cases e
theorem Hd {nv : Nat → IntKind × Int} : ∀ {l : List Value} {a : List Nat}, tokL l = some a → (∀ i ∈ a, ∃ x : Nat, nv i = (.u8, (x : Int)) ∧ x < 256) → l.map (cV nv) = u8l (a.map fun i => (nv i).2.toNat) ∧ ∀ y ∈ a.map (fun i => (nv i).2.toNat), y < 256
 | [], a, e, _ => by
   unfold tokL at e
   cases e
   exact ⟨rfl, fun y hy => by cases hy⟩
 | v :: l, a, e, h => by
   unfold tokL at e
   split at e
   · rename_i b m e1 e2
     cases e
     obtain ⟨h1, h2⟩ := Hd (nv := nv) e2 fun i hi => h i (List.mem_cons_of_mem _ hi)
     obtain ⟨x, h3, h4⟩ := h b (List.mem_cons_self ..)
     have h5 : (nv b).2.toNat = x := by rw [h3]; rfl
     unfold tokN at e1
     split at e1
     · cases e1
       refine ⟨?_, fun y hy => ?_⟩
       · rw [List.map_cons, h1, List.map_cons, h5]
         have h6 : ∀ k c, cV nv (.complex k 6 c) = .int (nv c).1 (nv c).2 := fun k c => by
           unfold cV
           exact if_pos rfl
         rw [h6, h3]
         rfl
       · rw [List.map_cons] at hy
         rcases List.mem_cons.1 hy with rfl | hy
         · rw [h5]; exact h4
         · exact h2 y hy
     · cases e1
   · cases e
def Is (l m : List Value) : Option Bool := match CD l, CD m with
  | some x, some y => some (decide (x = y))
  | _, _ => match tokL l, tokL m with
    | some a, some b => if neN a b = true then some false else none
    | _, _ => none
theorem WB {nv : Nat → IntKind × Int} (hs : BU nv) {l m : List Value} {q : Bool} (e : Is l m = some q) : ∃ x y, l.map (cV nv) = u8l x ∧ m.map (cV nv) = u8l y ∧ (∀ z ∈ x, z < 256) ∧ (∀ z ∈ y, z < 256) ∧ q = decide (x = y) := by
 unfold Is at e
 split at e
 · rename_i x y e1 e2
   cases e
   obtain ⟨h1, h2⟩ := Fb (nv := nv) e1
   obtain ⟨h3, h4⟩ := Fb (nv := nv) e2
   exact ⟨x, y, h1, h3, h2, h4, rfl⟩
 · split at e
   · rename_i a b e1 e2
     split at e
     · rename_i hn
       cases e
       have hb := Bv_ hs hn
       obtain ⟨h1, h2⟩ := Hd (nv := nv) e1 fun i hi => hb i (List.mem_append_left _ hi)
       obtain ⟨h3, h4⟩ := Hd (nv := nv) e2 fun i hi => hb i (List.mem_append_right _ hi)
       exact ⟨_, _, h1, h3, h2, h4, (decide_eq_false (Qc hs hn).2.2.2).symm⟩
     · cases e
   · cases e
theorem X9 : OrcOK Tryz.prog 24 (CZ Is) :=
 Qa (E := envS) (fuel := 100) IZ (by kernel_rfl) (WS _) (Xu _) (CQ_ _) fun nv hs args s v s' hm hb => by
   obtain ⟨va, vb, l, l', q, rfl, rfl, e3, e4, e5⟩ := VI hm
   obtain ⟨x, y, h1, h2, h3, h4, rfl⟩ := WB hs e3
   obtain ⟨b1, b2⟩ := e5 nv x y h1 h2
   obtain ⟨c1, c2⟩ := e4 nv
   show W (AJ envS (runF envS 100) _ [cA nv va, cA nv vb]) _ _
   rw [c1, c2]
   exact FG_ (s := s.conc nv) hb b1 b2 h3 h4 (by decide) fun s1 _ m1 n1 => ⟨rfl, n1, m1⟩
theorem GQ_ {E : Env} (he : EnvOK E) {fuel f : Nat} {v : Value} {l : List Nat} {b o cap : Nat} (ho : E.orc.get f = none) (hx : E.ext.get f = none) (hc : l.length ≤ cap) (hn : l.length < capU) (h : W (AJ E (runF E fuel) f [ED l.length cap]) (CI (u8l l)) fun u _ => u = v) (hp : plain v = true) {w : World} (hb : b < w.heap.size)
   (hl : ∀ i x, l[i]? = some x → w.cell? ⟨b, i + o, none⟩ = some (.int .u8 (x : Nat))) : Calls E.P f #[.slice (some ⟨b, o, none⟩) l.length cap] w fun e w' => e = .returned v ∧ Below w.heap.size w w' := by
 refine Vs (r := Dz b o ⟨cap - l.length, b, o + l.length, 1⟩) (s0 := CI (u8l l)) he ho hx h hp ?_ (AS_ hb fun i v hi => ?_) (Nat.zero_le _) fun x hx => ?_
 · exact .cons (DZ_ (b' := b) (d := o) (n := l.length) (c := cap) hc hn) .nil
 · rw [List.getElem?_map, Option.map_eq_some_iff] at hi
   obtain ⟨y, hy, rfl⟩ := hi
   exact ⟨rfl, hl i y hy⟩
 · have h1 : (u8l l).length + 1 ≤ x := hx
   unfold Dz
   simp only
   rw [if_neg (by omega), if_neg (by omega)]
   exact ⟨rfl, rfl⟩
theorem ND (l : List Nat) {cap : Nat} (hc : l.length ≤ cap) (hn : l.length < capU) : Bs (CI (u8l l)) (ED l.length cap) l := by
 refine .inr ⟨0, 0, _, rfl, ?_, ?_, W7 _⟩
 · by_cases h : cap < capU
   · rw [if_pos h, Nat.mod_eq_of_lt h]
     exact hc
   · rw [if_neg h, Nat.add_mod_left, Nat.mod_eq_of_lt hn]
     exact Nat.le_refl _
 · by_cases h : cap < capU
   · rw [if_pos h]
     exact JB h
   · rw [if_neg h]
     have hd : (capU + l.length) / capU = 1 := by
       rw [Nat.add_div_left _ (by decide), Nat.div_eq_of_lt hn]
     have e1 : Nat.div (capU + l.length) capU = 1 := hd
     unfold Bj
     rw [e1]
     rfl
section
variable {s : St}
def Bn (s : St) (v : Value) (l : List Nat) : Prop := ∃ b o c, v = .slice (some ⟨b, o, none⟩) l.length c ∧ l.length ≤ c % capU ∧ Bj c 1 = true ∧ Row s b o (u8l l)
theorem Bn.bs {v : Value} {l : List Nat} (h : Bn s v l) : Bs s v l := .inr h
theorem Bn.ext {F G : Nat → Prop} {s s' : St} {v : Value} {l : List Nat} (h : Bn s v l) (e : Ext F G s s') (hG : ∀ x, BsF v x → ¬ G x) : Bn s' v l := by
 rcases h.bs.ext e hG with ⟨rfl, _⟩ | h'
 · obtain ⟨_, _, _, e, _⟩ := h; cases e
 · exact h'
theorem Bn.ext0 {F : Nat → Prop} {s s' : St} {v : Value} {l : List Nat} (h : Bn s v l) (e : Ext F Non s s') : Bn s' v l := h.ext e fun _ _ => id
def Byt (l : List Nat) : Prop := ∀ x ∈ l, x < 256
theorem PP : ∀ {l : List Nat}, Byt l → u8s (u8l l) = some l
 | [], _ => rfl
 | n :: l, h => by
   have e := PP (l := l) fun x hx => h x (by simp [hx])
   show (match Value.int .u8 (.ofNat n), u8s (u8l l) with | .int .u8 (.ofNat n), some ns => bif Nat.blt n 256 then some (n :: ns) else none | _, _ => none) = _
   rw [e]
   simp -implicitDefEqProofs only [Bv (h n (by simp)), cond_true]
theorem W.rdB {b o : Nat} {l : List Nat} {Q : List Value → St → Prop} (h : Row s b o (u8l l)) (q : ∀ s1, s1.mem = s.mem → s1.next = s.next → Ext (In b o l.length) Non s s1 → Q (u8l l) s1) : W (Am.rdL l.length ⟨b, o, none⟩) s Q := by
 have hl : l.length = (u8l l).length := (A4 l).symm
 rw [hl]
 refine W.rdL h fun s1 e1 e2 e3 => q s1 e1 e2 ?_
 rw [A4] at e3
 exact e3
end
theorem G5 : slN envS 54 = some 1 := by kernel_rfl
theorem G7 : elT envS 54 = some (1, 1, [.int .u8 0]) := by kernel_rfl
theorem Bb_ : appT envS 54 54 = some (1, 1, false, [.int .u8 0]) := by kernel_rfl
theorem Tu : tyS envS 5 = some (1, false) := by kernel_rfl
theorem OO (n : Nat) : rep n [Value.int .u8 0] = List.replicate n (Value.int .u8 0) := by
 induction n with
 | zero => rfl
 | succ n ih =>
   show [Value.int .u8 0] ++ rep n [Value.int .u8 0] = _
   rw [ih]; rfl
structure New (s s' : St) (v : Value) (l : List Nat) : Prop where
  bn : Bn s' v l
  new : ∀ x, BsF v x → s.next ≤ x
theorem Bn.same {s s' : St} {v : Value} {l : List Nat} (h : Bn s v l) (hm : s'.mem = s.mem) (hn : s'.next = s.next) : Bn s' v l := by
 obtain ⟨b, o, c, h0, h1, h2, h3⟩ := h
 exact ⟨b, o, c, h0, h1, h2, fun i v e => (h3 i v e).same hm hn⟩
structure MkG (s : St) (v : Value) (l : List Nat) (b : Nat) : Prop where
  val : v = .slice (some ⟨b, 0, none⟩) l.length (capU * ((b + l.length) * 1024 + 1) + l.length)
  own : Al s b 0 (u8l l)
  tok : T.get s.mem (b + l.length) = some (.O (.tok false 1025))
  lt : b + l.length < s.next
theorem MkG.same {s s' : St} {v : Value} {l : List Nat} {b : Nat} (h : MkG s v l b) (hm : s'.mem = s.mem) (hn : s'.next = s.next) : MkG s' v l b :=
 ⟨h.val, fun i u e => (h.own i u e).same hm hn, by rw [hm]; exact h.tok, by rw [hn]; exact h.lt⟩
theorem MkG.ext {F G : Nat → Prop} {s s' : St} {v : Value} {l : List Nat} {b : Nat} (h : MkG s v l b) (e : Ext F G s s') (hG : ∀ x, In b 0 (l.length + 1) x → ¬ G x) : MkG s' v l b :=
 ⟨h.val, fun i u q => (h.own i u q).ext e (hG _ ⟨by omega, by have := (List.getElem?_eq_some_iff.1 q).1; rw [A4] at this; omega⟩), by rw [e.mem _ h.lt (hG _ ⟨by omega, by omega⟩)]; exact h.tok, Nat.lt_of_lt_of_le h.lt e.nxt⟩
theorem MkG.bn {s : St} {v : Value} {l : List Nat} {b : Nat} (h : MkG s v l b) (hl : l.length ≤ 1073741824) : Bn s v l :=
 ⟨b, 0, _, h.val, by rw [FK_ (Ca hl)]; exact Nat.le_refl _, Ug (Ca hl) (by decide), h.own.row⟩
theorem MkG.new {s0 s : St} {v : Value} {l : List Nat} {b : Nat} (h : MkG s v l b) (hl : l.length ≤ 1073741824) (hb : s0.next ≤ b) : New s0 s v l :=
 ⟨h.bn hl, fun x hx => by rw [h.val] at hx; have := hx.1; omega⟩
theorem CE_ : hasT envS 199 = true := by kernel_rfl
theorem Sk : intK envS 5 = some .u8 := by kernel_rfl
theorem Bs.at {s : St} {v : Value} {l : List Nat} (h : Bs s v l) {i : Nat} (hi : i < l.length) : ∃ b o c, v = .slice (some ⟨b, o, none⟩) l.length c ∧ At s b (o + i * 1) (u8 l[i]) ∧ (∀ x, x = b + (o + i * 1) → BsF v x) := by
 rcases h with ⟨rfl, rfl⟩ | ⟨b, o, c, rfl, _, _, h3⟩
 · simp at hi
 · refine ⟨b, o, c, rfl, ?_, fun x hx => ⟨by omega, by omega⟩⟩
   rw [Nat.mul_one]
   exact h3.at (List.getElem?_eq_getElem hi)
theorem W.cut {E : Env} {t : Nat} {s : St} {v : Value} {l : List Nat} {i j : Nat} {lo hi : Option Value} {Q : Value → St → Prop} (h : Bn s v l) (ht : slN E t = some 1) (hlo : bndV lo 0 = some i) (hhi : bndV hi l.length = some j) (hij : i ≤ j) (hj : j ≤ l.length)
   (q : ∀ v', Bn s v' ((l.take j).drop i) → (∀ x, BsF v' x → BsF v x) → Q v' s) : W (BM E t v lo hi) s Q := by
 obtain ⟨b, o, c, rfl, h1, h2, h3⟩ := h
 rw [Cn_ ht hlo hhi hij (by omega) h2]
 obtain ⟨o', e1, e2, e3, e4, e5⟩ := Bs.sub' hij hj h1 h2 h3
 rw [e1]
 refine q _ ⟨b, o', c - i, rfl, e2, e3, e4⟩ fun x hx => ?_
 have hlen : ((l.take j).drop i).length = j - i := by rw [List.length_drop, List.length_take]; omega
 have h6 : b + o' ≤ x := hx.1
 have h7 : x < b + o' + ((l.take j).drop i).length := hx.2
 rw [hlen] at h7
 rcases e5 with rfl | e5
 · exact ⟨by omega, by omega⟩
 · rw [hlen] at e5; omega
end Go.Proofs.YtchnfdaebboaeaaGreatDoor.Am
end
