import Derived.Test.YtofanlcjeohcjaaMb14
import Derived.Test.YtofanlcjeohcjaaMb07
import Derived.KernelRfl
import Derived.Test.YtofanlcjeohcjaaMb19
import Derived.Test.YtofanlcjeohcjaaMb18
import Derived.Test.YtofanlcjeohcjaaMb08
noncomputable section
namespace Go.Proofs.Ytofanlcjeohcjaa.Am
open Go.RowKit
def BB : Nat := Bt Try.f5
abbrev EB : Nat := 110
def VF : Code := Try.f5.body.getD .skip
theorem Qx : envS.fn.get 5 = some Try.f5 := by kernel_rfl
theorem MN_ {a0 a1 : Value} {n : Nat} {s : St} {Q : Value → St → Prop} (h : ∀ tm, T.get tm 0 = some a0 → T.get tm 1 = some a1 → W (runF envS n ⟨5, 110, BB, tm, [.code VF], .run, .normal, none⟩) (s.cxN cxN) fun p s1 => Q p.1 (s1.cxN s.cx)) : W (Au envS (runF envS n) 5 [a0, a1]) s Q :=
 W.call (by kernel_rfl) (by kernel_rfl) Qx (by kernel_rfl) rfl rfl (by simp) (h _ (by kernel_rfl) (by kernel_rfl))
theorem T7 : Try.f5.results.toList = [.tmp 4] := by kernel_rfl
def Oj : List Item := skim 64 [.code VF]
def J9 : List Item := skim 64 Oj.tail
theorem KB_ : skim 64 Oj.tail = J9 := by kernel_rfl
def Lk : List Item := skim 64 J9.tail
theorem Tm_ : skim 64 J9.tail = Lk := by kernel_rfl
def Ik : List Item := skim 64 Lk.tail
theorem RE : skim 64 Lk.tail = Ik := by kernel_rfl
def HF : List Item := skim 64 Ik.tail
theorem Cg_ : skim 64 Ik.tail = HF := by kernel_rfl
def ML : List Item := skim 64 (brT HF)
theorem Gn_ : skim 64 (brT HF) = ML := by kernel_rfl
def Kv : List Item := skim 64 (brF HF)
theorem TM_ : skim 64 (brF HF) = Kv := by kernel_rfl
def Pu : List Item := skim 64 ML.tail
theorem Hm_ : skim 64 ML.tail = Pu := by kernel_rfl
def Lw : List Item := skim 64 Kv.tail
theorem Nx_ : skim 64 Kv.tail = Lw := by kernel_rfl
def Kd : List Item := skim 64 (brF Lw)
theorem SA_ : skim 64 (brF Lw) = Kd := by kernel_rfl
def Gd : List Item := skim 64 Kd.tail
theorem Oy_ : skim 64 Kd.tail = Gd := by kernel_rfl
def F3 : List Item := skim 64 Gd.tail
theorem VH : skim 64 Gd.tail = F3 := by kernel_rfl
def NE : List Item := skim 64 (brT F3)
theorem Ke_ : skim 64 (brT F3) = NE := by kernel_rfl
def Hs : List Item := skim 64 (brF F3)
theorem MY_ : skim 64 (brF F3) = Hs := by kernel_rfl
def GE : List Item := skim 64 NE.tail
theorem GU_ : skim 64 NE.tail = GE := by kernel_rfl
def MM : List Item := skim 64 Hs.tail
theorem He_ : skim 64 Hs.tail = MM := by kernel_rfl
def MN : List Item := skim 64 GE.tail
theorem TF_ : skim 64 GE.tail = MN := by kernel_rfl
def Gu : List Item := skim 64 MM.tail
theorem II_ : skim 64 MM.tail = Gu := by kernel_rfl
def MG : List Item := skim 64 (brF MN)
theorem Dg_ : skim 64 (brF MN) = MG := by kernel_rfl
def Gj : List Item := skim 64 Gu.tail
theorem NQ : skim 64 Gu.tail = Gj := by kernel_rfl
theorem GT_ : skim 64 MG.tail = Gd := by kernel_rfl
def KF : List Item := skim 64 (brT Gj)
theorem Rw_ : skim 64 (brT Gj) = KF := by kernel_rfl
def JF : List Item := skim 64 (brF Gj)
theorem Zp : skim 64 (brF Gj) = JF := by kernel_rfl
def OS : List Item := skim 64 KF.tail
theorem DK_ : skim 64 KF.tail = OS := by kernel_rfl
def KD : List Item := skim 64 JF.tail
theorem LP_ : skim 64 JF.tail = KD := by kernel_rfl
theorem Kk_ : skim 64 OS.tail = Gu := by kernel_rfl
def Hk : List Item := skim 64 KD.tail
theorem Zc : skim 64 KD.tail = Hk := by kernel_rfl
def Qc : List Item := skim 64 (brT Hk)
theorem Dv_ : skim 64 (brT Hk) = Qc := by kernel_rfl
def FJ : List Item := skim 64 (brF Hk)
theorem SU_ : skim 64 (brF Hk) = FJ := by kernel_rfl
theorem Sr_ : skim 64 Qc.tail = FJ := by kernel_rfl
def R9 : List Item := skim 64 FJ.tail
theorem CB_ : skim 64 FJ.tail = R9 := by kernel_rfl
def Tk (E : Env) (call round : Ab) (tm : T Value) : M (T Value) :=
  mv (some (.bool false)) fun v4 =>
  setF 4 v4 tm fun tm1 =>
  M.pure tm1
theorem Qa_ : RegEq 5 110 BB Oj Tk := ⟨by kernel_rfl, fun _ _ _ _ _ _ _ _ _ => by kernel_rfl⟩
def S1 (E : Env) (call round : Ab) (tm : T Value) : M (T Value) :=
  M.bind (M.on (some (.func (.func 29) #[] #[])) fun f => M.on (seqO []) fun l => AY call round f l) fun v16 =>
  mv (some v16) fun v5 =>
  setF 5 v5 tm fun tm1 =>
  M.pure tm1
theorem Wa_ : RegEq 5 110 BB J9 S1 := ⟨by kernel_rfl, fun _ _ _ _ _ _ _ _ _ => by kernel_rfl⟩
def Uu (E : Env) (call round : Ab) (tm : T Value) : M (T Value) :=
  mv (T.get tm 0) fun v18 =>
  M.bind (M.on (some (.func (.func 30) #[] #[])) fun f => M.on (seqO [(some v18)]) fun l => AY call round f l) fun v19 =>
  mv (some v19) fun v17 =>
  M.bind (oS (some v17) fun a => kExt 0 a) fun v20 =>
  M.bind (oS (some v17) fun a => kExt 1 a) fun v21 =>
  M.bind (oS (some v17) fun a => kExt 2 a) fun v22 =>
  M.bind (oS (some v17) fun a => kExt 3 a) fun v23 =>
  mv (some v20) fun v6 =>
  setF 6 v6 tm fun tm1 =>
  mv (some v21) fun v7 =>
  setF 7 v7 tm1 fun tm2 =>
  mv (some v22) fun v8 =>
  setF 8 v8 tm2 fun tm3 =>
  mv (some v23) fun v9 =>
  setF 9 v9 tm3 fun tm4 =>
  M.pure tm4
theorem SQ_ : RegEq 5 110 BB Lk Uu := ⟨by kernel_rfl, fun _ _ _ _ _ _ _ _ _ => by kernel_rfl⟩
def OG (E : Env) (call round : Ab) (tm : T Value) : M (T Value) :=
  mv (T.get tm 9) fun v24 =>
  M.bind (oS (some v24) fun a => kUn E.P .not a) fun v25 =>
  setF 25 v25 tm fun tm1 =>
  M.pure tm1
theorem Bg_ : RegEq 5 110 BB Ik OG := ⟨by kernel_rfl, fun _ _ _ _ _ _ _ _ _ => by kernel_rfl⟩
theorem BD_ : A2 HF = some 25 := by kernel_rfl
def SH (E : Env) (call round : Ab) (tm : T Value) : M (T Value) :=
  mv (T.get tm 5) fun v26 =>
  mv (some v26) fun v4 =>
  setF 4 v4 tm fun tm1 =>
  M.pure tm1
theorem Nh_ : RegEq 5 110 BB ML SH := ⟨by kernel_rfl, fun _ _ _ _ _ _ _ _ _ => by kernel_rfl⟩
def Wc (E : Env) (call round : Ab) (tm : T Value) : M (T Value) :=
  mv (T.get tm 6) fun v27 =>
  mv (T.get tm 6) fun v28 =>
  M.bind (oS (seqO [(some v28)]) fun l => AS E .len [22] l) fun v29 =>
  mv (T.get tm 8) fun v30 =>
  M.bind (M.on (some (.func (.func 31) #[] #[])) fun f => M.on (seqO [(some v27), (some v29), (some (.int .i64 0)), (some (.int .i64 0)), (some v30)]) fun l => AY call round f l) fun v31 =>
  M.bind (oS (some v31) fun a => kUn E.P .not a) fun v32 =>
  setF 32 v32 tm fun tm1 =>
  M.pure tm1
theorem Lk_ : RegEq 5 110 BB Kv Wc := ⟨by kernel_rfl, fun _ _ _ _ _ _ _ _ _ => by kernel_rfl⟩
theorem XE_ : ∃ k, Pu = .code .ret :: k := ⟨Pu.tail, by kernel_rfl⟩
theorem GY_ : A2 Lw = some 32 := by kernel_rfl
def Tq (E : Env) (call round : Ab) (tm : T Value) : M (T Value) :=
  mv (some (.int .i64 0)) fun v10 =>
  setF 10 v10 tm fun tm1 =>
  M.pure tm1
theorem JM_ : RegEq 5 110 BB Kd Tq := ⟨by kernel_rfl, fun _ _ _ _ _ _ _ _ _ => by kernel_rfl⟩
def N1 (E : Env) (call round : Ab) (tm : T Value) : M (T Value) :=
  mv (T.get tm 10) fun v33 =>
  mv (T.get tm 0) fun v34 =>
  M.bind (oS (seqO [(some v34)]) fun l => AS E .len [43] l) fun v35 =>
  M.bind (oS (some v33) fun a => oS (some v35) fun b => Cl.get (aBin E .lss 3 (.tmp 33) (.tmp 35)) a b) fun v36 =>
  setF 36 v36 tm fun tm1 =>
  M.pure tm1
theorem Ae_ : RegEq 5 110 BB Gd N1 := ⟨by kernel_rfl, fun _ _ _ _ _ _ _ _ _ => by kernel_rfl⟩
theorem Ug : A2 F3 = some 36 := by kernel_rfl
def Ab_ (E : Env) (call round : Ab) (tm : T Value) : M (T Value) :=
  mv (T.get tm 6) fun v40 =>
  mv (T.get tm 8) fun v41 =>
  mv (T.get tm 10) fun v42 =>
  M.bind (oS (some v41) fun a => oS (some v42) fun b => BJ E 36 a b) fun v43 =>
  M.bind (oS (some v43) fun a => AQ E 35 a) fun v44 =>
  M.bind (M.on (some (.func (.func 27) #[] #[])) fun f => M.on (seqO [(some v40), (some v44)]) fun l => AY call round f l) fun v45 =>
  mv (some v45) fun v39 =>
  M.bind (oS (some v39) fun a => kExt 0 a) fun v46 =>
  M.bind (oS (some v39) fun a => kExt 1 a) fun v47 =>
  mv (some v46) fun v11 =>
  setF 11 v11 tm fun tm1 =>
  mv (some v47) fun v12 =>
  setF 12 v12 tm1 fun tm2 =>
  M.pure tm2
theorem Ty_ : RegEq 5 110 BB NE Ab_ := ⟨by kernel_rfl, fun _ _ _ _ _ _ _ _ _ => by kernel_rfl⟩
def Cm_ (E : Env) (call round : Ab) (tm : T Value) : M (T Value) :=
  mv (T.get tm 1) fun v72 =>
  mv (T.get tm 6) fun v73 =>
  M.bind (oS (seqO [(some v73)]) fun l => AS E .len [22] l) fun v74 =>
  M.bind (oS (some v74) fun a => oS (some (.int .i64 1)) fun b => Cl.get (aBin E .add 3 (.tmp 74) (.const (.int .i64 1))) a b) fun v75 =>
  M.bind (M.on (some (.func (.func 33) #[] #[])) fun f => M.on (seqO [(some v72), (some v75)]) fun l => AY call round f l) fun v76 =>
  mv (some v76) fun v1 =>
  setF 1 v1 tm fun tm1 =>
  M.pure tm1
theorem UB_ : RegEq 5 110 BB Hs Cm_ := ⟨by kernel_rfl, fun _ _ _ _ _ _ _ _ _ => by kernel_rfl⟩
def UE (E : Env) (call round : Ab) (tm : T Value) : M ((Rho × T Value) × List OpLog) :=
  M.bind (apartO (oS (T.get tm 12) fun a => M.pure a)) fun p0 =>
  M.bind (apartO (oS (some p0.1) fun a => oS (some (.int .i64 0)) fun b => Cl.get (aBin E .neq 27 (.tmp 48) (.const (.int .i64 0))) a b)) fun p1 =>
  M.bind (apartO (oS (some p1.1) fun a => M.pure a)) fun p2 =>
  M.bind (apartO (M.chk (isK p2.1) (M.if (isB p2.1 false) (oS (T.get tm 11) fun a => M.pure a) (M.pure undef)))) fun p3 =>
  M.bind (apartO (M.chk (isK p2.1) (M.if (isB p2.1 false) (oS (T.get tm 0) fun a => M.pure a) (M.pure undef)))) fun p4 =>
  M.bind (apartO (M.chk (isK p2.1) (M.if (isB p2.1 false) (oS (T.get tm 10) fun a => M.pure a) (M.pure undef)))) fun p5 =>
  M.bind (apartO (M.chk (isK p2.1) (M.if (isB p2.1 false) (oS (some p4.1) fun a => oS (some p5.1) fun b => BJ E 43 a b) (M.pure undef)))) fun p6 =>
  M.bind (apartO (M.chk (isK p2.1) (M.if (isB p2.1 false) (oS (some p6.1) fun a => AQ E 22 a) (M.pure undef)))) fun p7 =>
  M.bind (apartO (M.chk (isK p2.1) (M.if (isB p2.1 false) (M.on (some (.func (.func 19) #[] #[])) fun f => M.on (seqO [(some p3.1), (some p7.1)]) fun l => AY call round f l) (M.pure undef)))) fun p8 =>
  M.bind (apartO (M.chk (isK p2.1) (M.if (isB p2.1 false) (oS (some p8.1) fun a => kUn E.P .not a) (M.pure undef)))) fun p9 =>
  M.bind (apartO (M.on (some p2.1) fun a => M.on (some (.bool true)) fun b => M.on (some p9.1) fun c => BI a b c)) fun p10 =>
  M.bind (apartO (oS (some p10.1) fun a => M.pure a)) fun p11 =>
  M.bind (apartO (M.chk (isK p11.1) (M.if (isB p11.1 false) (oS (T.get tm 8) fun a => M.pure a) (M.pure undef)))) fun p12 =>
  M.bind (apartO (M.chk (isK p11.1) (M.if (isB p11.1 false) (oS (T.get tm 10) fun a => M.pure a) (M.pure undef)))) fun p13 =>
  M.bind (apartO (M.chk (isK p11.1) (M.if (isB p11.1 false) (oS (some p12.1) fun a => oS (some p13.1) fun b => BJ E 36 a b) (M.pure undef)))) fun p14 =>
  M.bind (apartO (M.chk (isK p11.1) (M.if (isB p11.1 false) (oS (some p14.1) fun a => kFld E 35 a 0) (M.pure undef)))) fun p15 =>
  M.bind (apartO (M.chk (isK p11.1) (M.if (isB p11.1 false) (oS (some p15.1) fun a => AQ E 26 a) (M.pure undef)))) fun p16 =>
  M.bind (apartO (M.chk (isK p11.1) (M.if (isB p11.1 false) (oS (T.get tm 0) fun a => M.pure a) (M.pure undef)))) fun p17 =>
  M.bind (apartO (M.chk (isK p11.1) (M.if (isB p11.1 false) (oS (T.get tm 10) fun a => M.pure a) (M.pure undef)))) fun p18 =>
  M.bind (apartO (M.chk (isK p11.1) (M.if (isB p11.1 false) (oS (some p17.1) fun a => oS (some p18.1) fun b => BJ E 43 a b) (M.pure undef)))) fun p19 =>
  M.bind (apartO (M.chk (isK p11.1) (M.if (isB p11.1 false) (oS (some p19.1) fun a => AQ E 22 a) (M.pure undef)))) fun p20 =>
  M.bind (apartO (M.chk (isK p11.1) (M.if (isB p11.1 false) (M.on (some (.func (.func 32) #[] #[])) fun f => M.on (seqO [(some p20.1)]) fun l => AY call round f l) (M.pure undef)))) fun p21 =>
  M.bind (apartO (M.chk (isK p11.1) (M.if (isB p11.1 false) (oS (some p16.1) fun a => oS (some p21.1) fun b => Cl.get (aBin E .neq 26 (.tmp 64) (.tmp 69)) a b) (M.pure undef)))) fun p22 =>
  M.pure (([p22.1, p21.1, p20.1, p19.1, p18.1, p17.1, p16.1, p15.1, p14.1, p13.1, p12.1, p11.1, p10.1, p9.1, p8.1, p7.1, p6.1, p5.1, p4.1, p3.1, p2.1, p1.1, p0.1], tm), [p22.2, p21.2, p20.2, p19.2, p18.2, p17.2, p16.2, p15.2, p14.2, p13.2, p12.2, p11.2, p10.2, p9.2, p8.2, p7.2, p6.2, p5.2, p4.2, p3.2, p2.2, p1.2, p0.2])
theorem SC_ : DrawEq 5 110 BB GE [0, 1, 3, 7, 7, 7, 55, 119, 255, 511, 1023, 2047, 4095, 4095, 16383, 32767, 65535, 4095, 4095, 397311, 921599, 1970175, 4194303, 8388607] UE := ⟨by kernel_rfl, by kernel_rfl, fun _ _ _ _ _ _ _ _ _ => by kernel_rfl⟩
theorem Tr_ (E : Env) (call round : Ab) (x48 x49 x50 x51 x52 x53 x54 x55 x56 x57 x58 x59 x60 x61 x62 x63 x64 x65 x66 x67 x68 x69 x70 : Value) (tm : T Value) (s : St) : BF call round (Cq E BB 110 (hdC GE)) [x70, x69, x68, x67, x66, x65, x64, x63, x62, x61, x60, x59, x58, x57, x56, x55, x54, x53, x52, x51, x50, x49, x48] tm s = (M.bind (M.on (some x59) fun a => M.on (some (.bool true)) fun b => M.on (some x70) fun c => BI a b c) fun v71 => setT 71 v71 tm fun tm1 => M.pure tm1) s := by kernel_rfl
def Aa_ (E : Env) (call round : Ab) (tm : T Value) : M (T Value) :=
  mv (some (.int .i64 0)) fun v13 =>
  setF 13 v13 tm fun tm1 =>
  mv (some (.int .i64 0)) fun v14 =>
  setF 14 v14 tm1 fun tm2 =>
  M.pure tm2
theorem XW_ : RegEq 5 110 BB MM Aa_ := ⟨by kernel_rfl, fun _ _ _ _ _ _ _ _ _ => by kernel_rfl⟩
theorem UT_ : A2 MN = some 71 := by kernel_rfl
def Oi (E : Env) (call round : Ab) (tm : T Value) : M (T Value) :=
  mv (T.get tm 13) fun v77 =>
  mv (T.get tm 7) fun v78 =>
  M.bind (oS (seqO [(some v78)]) fun l => AS E .len [44] l) fun v79 =>
  M.bind (oS (some v77) fun a => oS (some v79) fun b => Cl.get (aBin E .lss 3 (.tmp 77) (.tmp 79)) a b) fun v80 =>
  mv (some v80) fun v81 =>
  M.bind (M.chk (isK v81) (M.if (isB v81 true) (oS (T.get tm 7) fun a => M.pure a) (M.pure undef))) fun v82 =>
  M.bind (M.chk (isK v81) (M.if (isB v81 true) (oS (T.get tm 13) fun a => M.pure a) (M.pure undef))) fun v83 =>
  M.bind (M.chk (isK v81) (M.if (isB v81 true) (oS (some v82) fun a => oS (some v83) fun b => BJ E 44 a b) (M.pure undef))) fun v84 =>
  M.bind (M.chk (isK v81) (M.if (isB v81 true) (oS (some v84) fun a => AQ E 3 a) (M.pure undef))) fun v85 =>
  M.bind (M.chk (isK v81) (M.if (isB v81 true) (oS (T.get tm 1) fun a => M.pure a) (M.pure undef))) fun v86 =>
  M.bind (M.chk (isK v81) (M.if (isB v81 true) (oS (some v85) fun a => oS (some v86) fun b => Cl.get (aBin E .leq 3 (.tmp 85) (.tmp 86)) a b) (M.pure undef))) fun v87 =>
  M.bind (M.on (some v81) fun a => M.on (some v87) fun b => M.on (some (.bool false)) fun c => BI a b c) fun v88 =>
  setF 88 v88 tm fun tm1 =>
  M.pure tm1
theorem Tz : RegEq 5 110 BB Gu Oi := ⟨by kernel_rfl, fun _ _ _ _ _ _ _ _ _ => by kernel_rfl⟩
def Um (E : Env) (call round : Ab) (tm : T Value) : M (T Value) :=
  mv (T.get tm 10) fun v37 =>
  M.bind (oS (some v37) fun a => oS (some (.int .i64 1)) fun b => Cl.get (aBin E .add 3 (.tmp 37) (.const (.int .i64 1))) a b) fun v38 =>
  mv (some v38) fun v10 =>
  setF 10 v10 tm fun tm1 =>
  M.pure tm1
theorem EJ_ : RegEq 5 110 BB MG Um := ⟨by kernel_rfl, fun _ _ _ _ _ _ _ _ _ => by kernel_rfl⟩
theorem Od : A2 Gj = some 88 := by kernel_rfl
def UG (E : Env) (call round : Ab) (tm : T Value) : M (T Value) :=
  mv (T.get tm 7) fun v89 =>
  mv (T.get tm 13) fun v90 =>
  M.bind (oS (some v89) fun a => oS (some v90) fun b => BJ E 44 a b) fun v91 =>
  M.bind (oS (some v91) fun a => AQ E 3 a) fun v92 =>
  mv (some v92) fun v14 =>
  setF 14 v14 tm fun tm1 =>
  M.pure tm1
theorem Vf_ : RegEq 5 110 BB KF UG := ⟨by kernel_rfl, fun _ _ _ _ _ _ _ _ _ => by kernel_rfl⟩
def Vn (E : Env) (call round : Ab) (tm : T Value) : M (T Value) :=
  mv (some (.int .i64 1)) fun v15 =>
  setF 15 v15 tm fun tm1 =>
  M.pure tm1
theorem JZ_ : RegEq 5 110 BB JF Vn := ⟨by kernel_rfl, fun _ _ _ _ _ _ _ _ _ => by kernel_rfl⟩
def ZW (E : Env) (call round : Ab) (tm : T Value) : M (T Value) :=
  mv (T.get tm 13) fun v93 =>
  M.bind (oS (some v93) fun a => oS (some (.int .i64 1)) fun b => Cl.get (aBin E .add 3 (.tmp 93) (.const (.int .i64 1))) a b) fun v94 =>
  mv (some v94) fun v13 =>
  setF 13 v13 tm fun tm1 =>
  M.pure tm1
theorem UL_ : RegEq 5 110 BB OS ZW := ⟨by kernel_rfl, fun _ _ _ _ _ _ _ _ _ => by kernel_rfl⟩
def SZ (E : Env) (call round : Ab) (tm : T Value) : M (T Value) :=
  mv (T.get tm 14) fun v95 =>
  mv (T.get tm 1) fun v96 =>
  M.bind (oS (some v95) fun a => oS (some v96) fun b => Cl.get (aBin E .eql 3 (.tmp 95) (.tmp 96)) a b) fun v97 =>
  setF 97 v97 tm fun tm1 =>
  M.pure tm1
theorem Iw_ : RegEq 5 110 BB KD SZ := ⟨by kernel_rfl, fun _ _ _ _ _ _ _ _ _ => by kernel_rfl⟩
theorem Wg : A2 Hk = some 97 := by kernel_rfl
def Wl (E : Env) (call round : Ab) (tm : T Value) : M (T Value) :=
  mv (some (.int .i64 0)) fun v15 =>
  setF 15 v15 tm fun tm1 =>
  M.pure tm1
theorem QY_ : RegEq 5 110 BB Qc Wl := ⟨by kernel_rfl, fun _ _ _ _ _ _ _ _ _ => by kernel_rfl⟩
def SQ (E : Env) (call round : Ab) (tm : T Value) : M ((Rho × T Value) × List OpLog) :=
  M.bind (apartO (oS (T.get tm 5) fun a => M.pure a)) fun p0 =>
  M.bind (apartO (oS (some p0.1) fun a => M.pure a)) fun p1 =>
  M.bind (apartO (M.chk (isK p1.1) (M.if (isB p1.1 true) (oS (T.get tm 6) fun a => M.pure a) (M.pure undef)))) fun p2 =>
  M.bind (apartO (M.chk (isK p1.1) (M.if (isB p1.1 true) (oS (T.get tm 1) fun a => M.pure a) (M.pure undef)))) fun p3 =>
  M.bind (apartO (M.chk (isK p1.1) (M.if (isB p1.1 true) (M.on (some p2.1) fun a => M.on (some none) fun b => M.on (onO (some p3.1) fun v => some (some v)) fun c => Bv E 22 a b c) (M.pure undef)))) fun p4 =>
  M.bind (apartO (M.chk (isK p1.1) (M.if (isB p1.1 true) (oS (T.get tm 14) fun a => M.pure a) (M.pure undef)))) fun p5 =>
  M.bind (apartO (M.chk (isK p1.1) (M.if (isB p1.1 true) (oS (T.get tm 15) fun a => M.pure a) (M.pure undef)))) fun p6 =>
  M.bind (apartO (M.chk (isK p1.1) (M.if (isB p1.1 true) (oS (T.get tm 8) fun a => M.pure a) (M.pure undef)))) fun p7 =>
  M.bind (apartO (M.chk (isK p1.1) (M.if (isB p1.1 true) (oS (T.get tm 13) fun a => M.pure a) (M.pure undef)))) fun p8 =>
  M.bind (apartO (M.chk (isK p1.1) (M.if (isB p1.1 true) (M.on (some p7.1) fun a => M.on (some none) fun b => M.on (onO (some p8.1) fun v => some (some v)) fun c => Bv E 36 a b c) (M.pure undef)))) fun p9 =>
  M.bind (apartO (M.chk (isK p1.1) (M.if (isB p1.1 true) (M.on (some (.func (.func 31) #[] #[])) fun f => M.on (seqO [(some p4.1), (some p5.1), (some (.int .i64 0)), (some p6.1), (some p9.1)]) fun l => AY call round f l) (M.pure undef)))) fun p10 =>
  M.bind (apartO (M.on (some p1.1) fun a => M.on (some p10.1) fun b => M.on (some (.bool false)) fun c => BI a b c)) fun p11 =>
  M.pure (([p11.1, p10.1, p9.1, p8.1, p7.1, p6.1, p5.1, p4.1, p3.1, p2.1, p1.1, p0.1], tm), [p11.2, p10.2, p9.2, p8.2, p7.2, p6.2, p5.2, p4.2, p3.2, p2.2, p1.2, p0.2])
theorem XD_ : DrawEq 5 110 BB FJ [0, 1, 3, 3, 15, 3, 3, 3, 3, 387, 1023, 2047, 4095] SQ := ⟨by kernel_rfl, by kernel_rfl, fun _ _ _ _ _ _ _ _ _ => by kernel_rfl⟩
theorem MB_ (E : Env) (call round : Ab) (x98 x99 x100 x101 x102 x103 x104 x105 x106 x107 x108 x109 : Value) (tm : T Value) (s : St) : BF call round (Cq E BB 110 (hdC FJ)) [x109, x108, x107, x106, x105, x104, x103, x102, x101, x100, x99, x98] tm s = (M.bind (oS (some x109) fun a => M.pure a) fun v4 => setT 4 v4 tm fun tm1 => M.pure tm1) s := by kernel_rfl
theorem IJ_ : ∃ k, R9 = .code .ret :: k := ⟨R9.tail, by kernel_rfl⟩
theorem Tu_ : fldN envS 35 0 = some (0, 16, true) := by kernel_rfl
def Tru (_ : Nat) : Prop := True
section
variable {parts : List (Value × List Nat)} {b o c : Nat}
theorem PN_ {n i : Nat} {tm : T Value} {td : List Item} {s : St} {vh w : Value} {b3 cv : Nat} {Q : Value × FrameMode → St → Prop} (hb : s.lim ≤ s.next) (hp : Parts s b o parts) (hlt : ∀ p ∈ parts, ∀ x, BsF p.1 x → x < s.next) (hby : ∀ p ∈ parts, Byt p.2) (hi : i < parts.length) (h1 : 1 ≤ parts[i].2.length) (h2 : parts[i].2.length ≤ 1024) (hw : Bn s w parts[i].2)
   (ev : vh = .slice (some ⟨b3, 0, none⟩) parts.length cv) {st : Nat} (hrow : Row s b3 (0 + i * 18) (AP (idB parts[i].2, st, parts[i].2.length)))
   (t0 : T.get tm 0 = some (.slice (some ⟨b, o, none⟩) parts.length c)) (t8 : T.get tm 8 = some vh) (t10 : T.get tm 10 = some (.int .i64 (i : Nat))) (t11 : T.get tm 11 = some w) (t12 : T.get tm 12 = some (.int .i64 0)) (hT : skim 64 td = GE) (hn : 30000 ≤ n)
   (q : ∀ (n1 : Nat) (tm1 : T Value) (s1 : St) (td1 : List Item), n - 5 ≤ n1 → skim 64 td1 = MG → Ext Tru Non s s1 → (∀ k, k ≠ 71 → T.get tm1 k = T.get tm k) → W (runF envS n1 ⟨5, EB, BB, tm1, td1, .run, .normal, none⟩) s1 Q) :
   W (runF envS n ⟨5, EB, BB, tm, td, .run, .normal, none⟩) s Q := by
 obtain ⟨g1, g2⟩ := hp.get hi
 have hmem := List.getElem_mem hi
 have hne : parts[i].2 ≠ [] := fun h => by rw [h] at h1; simp at h1
 have hI16 := B1 parts[i].2
 have hIl : (u8l (idB parts[i].2)).length = 16 := by rw [A0]; exact hI16
 have hrid : Row s b3 (0 + i * 18 + 0) (u8l (idB parts[i].2)) := fun j u e => by
   have hj := (List.getElem?_eq_some_iff.1 e).1
   have := hrow j u (by unfold AP; rw [List.getElem?_append_left hj]; exact e)
   rwa [show 0 + i * 18 + 0 + j = 0 + i * 18 + j by omega]
 subst ev
 have e0 : (!decide ((0 : Int) = 0)) = false := rfl
 refine SC_.w hT (by omega) ?_
 simp -implicitDefEqProofs only [UE, t0, t8, t10, t11, t12, Ci, Dx, Ap, Al, Ak, El, A5]
 rw [W_dq fun s Q => D9 (s := s) 0 0, e0]
 simp -implicitDefEqProofs only [A5, AX, DA, Bg, if_t]
 rw [W_dq fun s Q => Ck (s := s) Ca hi Q]
 refine W.dload CL (g1.same rfl rfl) fun rd7 hr7 => ?_
 dsimp only
 refine W.dop (Kr_ (s := oSt s.mem s.next) (l := parts[i].2) (Nat.le_refl _) (hw.bs.same rfl rfl) (g2.same rfl rfl) hne (by omega) fun sa xa ma na => ⟨_, xa, fun rd8 hr8 => ?_⟩)
 dsimp only
 rw [show sa.mem = s.mem from ma, show sa.next = s.next from na]
 rw [W_dq fun s Q => De (s := s) _ _ Q]
 simp -implicitDefEqProofs only [Bool.not_true]
 rw [W_dq fun s Q => AV (s := s) _ _ _ _]
 simp -implicitDefEqProofs only [Bool.false_eq_true, reduceIte, A5, AX, DA, Bg, if_t]
 rw [W_dq fun s Q => Ck (s := s) En hi Q]
 dsimp only
 rw [W_dq fun s Q => B8 (s := s) Tu_ (by decide) Q]
 refine W.dloadA BP (fun j u e => (hrid j u e).same rfl rfl) hIl fun m16 rd16 e16 hr16 => ?_
 subst e16
 simp -implicitDefEqProofs only [A5]
 rw [W_dq fun s Q => Ck (s := s) Ca hi Q]
 refine W.dload CL (g1.same rfl rfl) fun rd20 hr20 => ?_
 dsimp only
 refine W.dop (Ry (s := oSt s.mem s.next) (b := parts[i].2) (Nat.le_refl _) (g2.same rfl rfl) (hlt _ hmem) (hby _ hmem) (by omega) (by omega) fun sb xb => ⟨_, xb, fun rd21 hr21 => ?_⟩)
 dsimp only
 have e26 : (!decide (idB parts[i].2 = idB parts[i].2)) = false := by simp
 rw [W_dq fun s Q => SR (s := s) PC hI16 hI16 Q, e26]
 rw [Aa]
 have nb' : s.next ≤ sb.next := xb.nxt
 refine ⟨FS ?_, ?_⟩
 · simp -implicitDefEqProofs only [List.reverse_cons, List.reverse_nil, List.nil_append, List.cons_append, allP, Dw, List.take, ET]
   have lts : ∀ x, s.next ≤ x → ¬ x < s.next := fun x h => by omega
   simp +contextual [lts]
   trace_state
   repeat' first
     | exact .inl rfl
     | apply And.intro
 · refine W.cast (Tr_ _ _ _ _ _ _ _ _ _ _ _ _ _ _ _ _ _ _ _ _ _ _ _ _ _ _ _ _) ?_
   simp -implicitDefEqProofs only [Ad, W_on, Aa, Bb, reduceIte, AV, reduceCtorEq, ↓reduceIte]
   generalize hs' : (⟨(dSt sb.mem sb.next).mem, (dSt sb.mem sb.next).next, s.lim, _, _, s.cx⟩ : St) = s7
   have x7 : Ext Tru Non s s7 := by
     rw [← hs']
     refine Ext.drawG (by show s.next ≤ sb.next; omega) (fun x hx _ => xb.mem x hx id) ?_ fun _ _ _ _ _ => trivial
     simp -implicitDefEqProofs only [List.mem_cons, List.not_mem_nil, or_false]
     rintro m (rfl | rfl | rfl | rfl | rfl | rfl | rfl | rfl | rfl | rfl | rfl | rfl | rfl | rfl | rfl | rfl | rfl | rfl | rfl | rfl | rfl | rfl | rfl) x hx _ <;> cases hx
   refine W.cond (v := false) TF_ UT_ (by simp [T.get_set]) (by omega) (fun h => by cases h) fun _ => ?_
   exact q _ _ s7 _ (by omega) Dg_ x7 fun k hk => by rw [T.get_set, if_neg hk]
end
section
variable {parts : List (Value × List Nat)} {b o c : Nat}
def FZ (v : Value) (parts : List (Value × List Nat)) (b o c : Nat) : Prop := (v = .slice none 0 0 ∧ parts = []) ∨ v = .slice (some ⟨b, o, none⟩) parts.length c
theorem FZ.len {v : Value} {s : St} (h : FZ v parts b o c) (Q : Value → St → Prop) : W (AS envS .len [43] [v]) s Q = Q (.int .i64 (parts.length : Nat)) s := by
 rcases h with ⟨rfl, rfl⟩ | rfl
 · exact BS Ca Q
 · exact BS Ca Q
theorem FZ.pos {v : Value} (h : FZ v parts b o c) {i : Nat} (hi : i < parts.length) : v = .slice (some ⟨b, o, none⟩) parts.length c := by
 rcases h with ⟨_, rfl⟩ | h
 · cases hi
 · exact h
theorem Or_ {Q : Value × FrameMode → St → Prop} {s1 s00 : St} {v0 vb ve vh : Value} {b1 b2 b3 : Nat} (hb1 : s1.lim ≤ s1.next) (hcx : s1.cx = cxN) (hv : FZ v0 parts b o c) (hp : Parts s1 b o parts) (hlt : ∀ p ∈ parts, ∀ x, BsF p.1 x → x < s1.next) (hby : ∀ p ∈ parts, Byt p.2) (R : AlR s00 parts s1 vb ve vh b1 b2 b3) (hbyL : Byt (Ah (parts.map (·.2)))) (hlenL : (Ah (parts.map (·.2))).length ≤ 25000) :
   ∀ (k i n : Nat) (tm : T Value) (s : St) (td : List Item), i + k = parts.length → 100000 + 20 * k ≤ n → skim 64 td = Gd → Ext Tru Non s1 s → T.get tm 0 = some v0 → T.get tm 6 = some vb → T.get tm 8 = some vh → T.get tm 10 = some (.int .i64 (i : Nat)) →
   (∀ (n1 : Nat) (tm1 : T Value) (s2 : St) (td1 : List Item), n - (100000 + 20 * k) + 99000 ≤ n1 → skim 64 td1 = Hs → Ext Tru Non s1 s2 → (∀ j, j ≠ 10 → j ≠ 11 → j ≠ 12 → j ≠ 36 → j ≠ 71 → T.get tm1 j = T.get tm j) → W (runF envS n1 ⟨5, EB, BB, tm1, td1, .run, .normal, none⟩) s2 Q) →
   W (runF envS n ⟨5, EB, BB, tm, td, .run, .normal, none⟩) s Q := by
 intro k
 induction k with
 | zero =>
   intro i n tm s td hi hn hT hx t0 t6 t8 t10 q
   refine Ae_.w hT (by omega) ?_
   simp -implicitDefEqProofs only [N1, Ad, W_oS, Aa, W_mv, Ac, Ap, Al, Ak, t0, t10]
   rw [hv.len]
   simp -implicitDefEqProofs only [Bm]
   refine W.cond (v := false) VH Ug (by simp [T.get_set]; omega) (by omega) (fun h => by cases h) fun _ => ?_
   exact q _ _ s _ (by omega) MY_ hx fun j _ _ _ h36 _ => by rw [T.get_set, if_neg h36]
 | succ k ih =>
   intro i n tm s td hi hn hT hx t0 t6 t8 t10 q
   have hil : i < parts.length := by omega
   have ev0 := hv.pos hil
   subst ev0
   have hb : s.lim ≤ s.next := hx.bnd hb1
   obtain ⟨L, hL⟩ : ∃ L, parts.map (·.2) = L := ⟨_, rfl⟩
   have mb := R.mb
   have mh := R.mh
   rw [hL] at mb mh hbyL hlenL
   have hLl : L.length = parts.length := by rw [← hL, List.length_map]
   have hwL : i < L.length := by omega
   have hLi : L[i] = parts[i].2 := by subst hL; rw [List.getElem_map]
   have hfit : Fit L := fun x hx => by
     rw [← hL] at hx
     obtain ⟨p, hp, rfl⟩ := List.mem_map.1 hx
     exact R.sm p hp
   have hHl : (A8 0 L).length = parts.length := by rw [DV, hLl]
   have hwH : i < (A8 0 L).length := by omega
   have hat := Ol_ hwL
   rw [List.getElem?_eq_getElem hwH] at hat
   have hat' : (A8 0 L)[i] = (idB L[i], (Ah (L.take i)).length, L[i].length) := by injection hat
   have mhs : MkS s 18 parts.length (BA (A8 0 L)) vh b3 := mh.ext0 hx
   have mbs : MkS s 1 (Ah L).length (u8l (Ah L)) vb b1 := mb.ext0 hx
   obtain ⟨cv, ev, _, hrow, _⟩ := mhs.hat hHl.symm (JD L 0) hwH
   rw [hat'] at hrow
   have hps : Parts s b o parts := ⟨hp.row.ext0 hx, fun p h => (hp.bs p h).ext0 hx⟩
   obtain ⟨k1, k2, k3⟩ := KD_ hwL hfit
   obtain ⟨l1, l2⟩ := hfit L[i] (List.getElem_mem hwL)
   refine Ae_.w hT (by omega) ?_
   simp -implicitDefEqProofs only [N1, Ad, W_oS, Aa, W_mv, Ac, Ap, Al, Ak, Bm, t0, t10, BS Ca]
   refine W.cond (v := true) VH Ug (by simp [T.get_set]; omega) (by omega) (fun _ => ?_) fun h => by cases h
   refine Ty_.w Ke_ (by omega) ?_
   simp -implicitDefEqProofs only [Ab_, Ad, W_oS, W_on, Aa, W_mv, Ac, T.get_set, Ap, Al, Ak, AW, reduceIte, Nat.reduceEqDiff, ↓reduceIte, t6, t8, t10, ev, Ck En hil]
   refine W.loadA K1 hrow (Db (B1 _)) fun sa ma na xa => ?_
   have hba : sa.lim ≤ sa.next := xa.bnd hb
   have hbs : Bs sa vb (Ah L) := (mbs.bs (by unfold capU; omega)).same ma na
   have hst : (Ah (L.take i)).length ≤ (Ah L).length := by
     rw [Q4 hwL, List.length_append]
     omega
   refine JC_ hba hbs hbyL (by omega) (by show (Ah (L.take i)).length ≤ 1000000; omega) (B1 _) (by omega) (fun _ _ sb w xb hw hwn => ?_) (fun _ h => by rw [k2] at h; cases h) fun h => by rw [k1] at h; cases h
   rw [A9 (k := 0) rfl, A9 (k := 1) rfl]
   have hw' : Bn sb w parts[i].2 := by
     rw [← hLi, ← k3]
     exact hw
   have hxa : Ext Tru Non s1 sa := hx.step xa hb1 (fun _ _ _ => trivial) fun _ h => h.elim
   have hxb : Ext Tru Non s1 sb := hxa.step xb hb1 (fun _ _ _ => trivial) fun _ h => h.elim
   have hpb : Parts sb b o parts := ⟨hp.row.ext0 hxb, fun p h => (hp.bs p h).ext0 hxb⟩
   rw [hLi] at hrow l1 l2
   refine PN_ (c := c) (vh := vh) (st := (Ah (L.take i)).length) (hxb.bnd hb1) hpb (fun p h x hx' => by have := hlt p h x hx'; have := hxb.nxt; omega) hby hil l1 l2 hw' ev ((fun j u e => ((hrow j u e).same ma na).ext0 xb)) (by simp [T.get_set, t0]) (by simp [T.get_set, t8, ev]) (by simp [T.get_set, t10]) (by simp [T.get_set]) (by simp [T.get_set]) GU_ (by omega) fun n1 tm1 sc td1 hn1 hT1 xc hk => ?_
   have hxc : Ext Tru Non s1 sc := hxb.step xc hb1 (fun _ _ _ => trivial) fun _ h => h.elim
   have ei : wrap64 ((i : Nat) + 1 : Int) = ((i + 1 : Nat) : Int) := by
     have := R.le
     rw [Bl (by omega) (by omega)]; simp
   have k10 : T.get tm1 10 = some (.int .i64 (i : Nat)) := by rw [hk 10 (by decide)]; simp [T.get_set, t10]
   refine EJ_.w hT1 (by omega) ?_
   simp -implicitDefEqProofs only [Um, Ad, W_oS, Aa, W_mv, Ac, BY, k10, ei]
   refine ih (i + 1) _ _ sc _ (by omega) (by omega) GT_ hxc (by simp [T.get_set, hk, t0]) (by simp [T.get_set, hk, t6]) (by simp [T.get_set, hk, t8]) (by simp [T.get_set]) fun n2 tm2 s2 td2 hn2 hT2 x2 hk2 => ?_
   refine q n2 tm2 s2 td2 (by omega) hT2 x2 fun j j10 j11 j12 j36 j71 => ?_
   rw [hk2 j j10 j11 j12 j36 j71, T.get_set, if_neg j10, hk j j71, T.get_set, if_neg j12, T.get_set, if_neg j11, T.get_set, if_neg j36]
end
theorem Yx : ∀ (L : List (List Nat)) (k w : Nat), w < L.length → (Cw k L)[w]? = some (k + (Ah (L.take (w + 1))).length)
 | [], _, _, h => by cases h
 | b :: l, k, 0, _ => by
   show some (k + (recB b).length) = some (k + (recB b ++ Ah (l.take 0)).length)
   rw [List.take_zero]
   show some (k + (recB b).length) = some (k + (recB b ++ []).length)
   rw [List.append_nil]
 | b :: l, k, w + 1, h => by
   have := Yx l (k + (recB b).length) w (by simpa using h)
   show (Cw (k + (recB b).length) l)[w]? = some (k + (recB b ++ Ah (l.take (w + 1))).length)
   rw [this, List.length_append, Nat.add_assoc]
theorem Kz : slN envS 44 = some 1 := by kernel_rfl
theorem cutS {l : List Nat} {v : Value} {b cut : Nat} {s : St} {Q : Value → St → Prop} (h : MkS s 1 l.length (u8l l) v b) (hl : l.length < capU) (hc : cut ≤ l.length) (q : ∀ v', Bs s v' (l.take cut) → (∀ x, BsF v' x → BsF v x) → Q v' s) : W (Bv envS 22 v none (some (.int .i64 (cut : Nat)))) s Q := by
 rcases h.bs hl with ⟨rfl, rfl⟩ | hb
 · have : cut = 0 := by simpa using hc
   subst this
   rw [Rb A1 rfl rfl]
   exact q _ (.inl ⟨rfl, rfl⟩) fun _ h => h
 · exact W.cut hb A1 (i := 0) (j := cut) rfl rfl (Nat.zero_le _) hc fun v' hv hF => q v' hv.bs hF
theorem cutH {hs : List Hd} {n : Nat} {v : Value} {b w : Nat} {s : St} {Q : Value → St → Prop} (h : MkS s 18 n (BA hs) v b) (hn : n = hs.length) (h16 : ∀ h ∈ hs, h.1.length = 16) (hl : n < capU) (hw : w ≤ n) (q : ∀ v', HsR s v' (hs.take w) → Q v' s) : W (Bv envS 36 v none (some (.int .i64 (w : Nat)))) s Q := by
 by_cases h0 : n = 0
 · rcases h with ⟨rfl, _, _⟩ | ⟨_, h1⟩
   · have : w = 0 := by omega
     subst this
     rw [Rb En rfl rfl]
     exact q _ (.inl ⟨rfl, rfl⟩)
   · omega
 · obtain ⟨cv, ev, hcap, _, hpre⟩ := h.hat hn h16 (i := 0) (by omega)
   obtain ⟨hc1, hc2⟩ := hcap hl
   rw [ev, Sa En (l := 0) (h := w) rfl rfl (Nat.zero_le _) (by omega) hc2]
   refine q _ (.inr ⟨b, _, _, by rw [List.length_take, show min w hs.length = w - 0 by omega], ?_⟩)
   have e0 : (if 0 < cv % capU then 0 + 0 * 18 else 0) = 0 := by split <;> rfl
   rw [e0]
   exact hpre w (by omega)
section
variable {parts : List (Value × List Nat)} {b o c : Nat}
theorem Nc_ {Q : Value × FrameMode → St → Prop} {s1 s00 : St} {vb ve vh : Value} {b1 b2 b3 cut : Nat} {L : List (List Nat)} (hL : parts.map (·.2) = L) (hb1 : s1.lim ≤ s1.next) (R : AlR s00 parts s1 vb ve vh b1 b2 b3) :
   ∀ (k w n : Nat) (tm : T Value) (s : St) (td : List Item), w + k = L.length → 20 * k + 20 ≤ n → skim 64 td = Gu → Ext Tru Non s1 s → BV L w ≤ cut → T.get tm 7 = some ve → T.get tm 1 = some (.int .i64 (cut : Nat)) → T.get tm 13 = some (.int .i64 (w : Nat)) → T.get tm 14 = some (.int .i64 (BV L w : Nat)) →
   (∀ (w1 n1 : Nat) (tm1 : T Value) (s2 : St) (td1 : List Item), w1 ≤ L.length → n - (20 * k + 20) ≤ n1 → skim 64 td1 = JF → Ext Tru Non s1 s2 → BV L w1 ≤ cut → (w1 = L.length ∨ cut < BV L (w1 + 1)) → (∀ j, j ≠ 13 → j ≠ 14 → j ≠ 88 → T.get tm1 j = T.get tm j) → T.get tm1 13 = some (.int .i64 (w1 : Nat)) → T.get tm1 14 = some (.int .i64 (BV L w1 : Nat)) → W (runF envS n1 ⟨5, EB, BB, tm1, td1, .run, .normal, none⟩) s2 Q) →
   W (runF envS n ⟨5, EB, BB, tm, td, .run, .normal, none⟩) s Q := by
 have hLl : L.length = parts.length := by rw [← hL, List.length_map]
 have hle := R.le
 intro k
 induction k with
 | zero =>
   intro w n tm s td hi hn hT hx he t7 t1 t13 t14 q
   have me : MkS s 1 parts.length (D1 (Cw 0 (parts.map (·.2)))) ve b2 := R.me.ext0 hx
   refine Tz.w hT (by omega) ?_
   simp -implicitDefEqProofs only [Oi, Ad, W_oS, W_on, Aa, W_mv, Ac, Ap, Al, Ak, t7, t13]
   rw [me.len Kz]
   have e1 : (decide (((w : Nat) : Int) < ((parts.length : Nat) : Int))) = false := decide_eq_false (by omega)
   simp -implicitDefEqProofs only [Aa, reduceIte, AX, BL, A7, Bz, AV, reduceCtorEq, ↓reduceIte, Bm, e1]
   refine W.cond (v := false) NQ Od (by simp [T.get_set]) (by omega) (fun h => by cases h) fun _ => ?_
   exact q w _ _ s _ (by omega) (by omega) Zp hx he (.inl (by omega)) (fun j _ _ h88 => by rw [T.get_set, if_neg h88]) (by simp [T.get_set, t13]) (by simp [T.get_set, t14])
 | succ k ih =>
   intro w n tm s td hi hn hT hx he t7 t1 t13 t14 q
   have hwl : w < L.length := by omega
   have me : MkS s 1 parts.length (D1 (Cw 0 L)) ve b2 := by rw [← hL]; exact R.me.ext0 hx
   rcases me with ⟨_, h0, _⟩ | ⟨me, _⟩
   · omega
   have hrow : At s b2 (0 + w * 1) (.int .i64 (BV L (w + 1) : Nat)) := by
     have := me.own w (.int .i64 (BV L (w + 1) : Nat)) (by
       unfold D1
       rw [List.getElem?_map, Yx L 0 w hwl, Nat.zero_add]
       rfl)
     rw [Nat.mul_one]
     exact this.at'
   have hev := me.val
   generalize capU * ((b2 + parts.length * 1) * 1024 + 1) + parts.length = cc at hev
   refine Tz.w hT (by omega) ?_
   have e1 : (decide (((w : Nat) : Int) < ((parts.length : Nat) : Int))) = true := decide_eq_true (by omega)
   simp -implicitDefEqProofs only [Oi, Ad, W_oS, W_on, Aa, W_mv, Ac, Ap, Al, Ak, reduceIte, AX, BH, A7, Bh, AV, ↓reduceIte, Bm, t7, t13, t1, hev, BS Kz, e1, Ck Kz (show w < parts.length by omega)]
   refine W.load1 B3 hrow ?_
   simp -implicitDefEqProofs only [XF_]
   have hx1 : Ext Tru Non s1 (s.rdN (b2 + (0 + w * 1))) := hx.trans (Ext.rdN (F := Tru) s _ fun _ => trivial) hb1 (fun _ _ _ => trivial) fun _ _ h => h
   by_cases hc : BV L (w + 1) ≤ cut
   · have e2 : (decide (((BV L (w + 1) : Nat) : Int) ≤ ((cut : Nat) : Int))) = true := decide_eq_true (by omega)
     simp -implicitDefEqProofs only [e2]
     refine W.cond (v := true) NQ Od (by simp [T.get_set]) (by omega) (fun _ => ?_) fun h => by cases h
     refine Vf_.w Rw_ (by omega) ?_
     simp -implicitDefEqProofs only [UG, Ad, W_oS, Aa, W_mv, Ac, T.get_set, reduceIte, Nat.reduceEqDiff, ↓reduceIte, t7, t13, hev, Ck Kz (show w < parts.length by omega)]
     refine W.load1 B3 (hrow.same rfl rfl) ?_
     have hx2 : Ext Tru Non s1 ((s.rdN (b2 + (0 + w * 1))).rdN (b2 + (0 + w * 1))) := hx1.trans (Ext.rdN (F := Tru) _ _ fun _ => trivial) hb1 (fun _ _ _ => trivial) fun _ _ h => h
     have ei : wrap64 ((w : Nat) + 1 : Int) = ((w + 1 : Nat) : Int) := by
       rw [Bl (by omega) (by omega)]; simp
     try simp -implicitDefEqProofs only [Ad, W_oS, W_on, Aa, W_mv, Ac, Bb, T.get_set, Ap, Al, Bj, Bd, Ak, AW, reduceIte, AX, BH, By, BL, Bg, A7, Bh, Bz, AV, Bu, Nat.reduceEqDiff, reduceCtorEq, ↓reduceIte]
     refine UL_.w DK_ (by omega) ?_
     simp -implicitDefEqProofs only [ZW, Ad, W_oS, Aa, W_mv, Ac, T.get_set, reduceIte, Nat.reduceEqDiff, ↓reduceIte, BY, t13, ei]
     refine ih (w + 1) _ _ _ _ (by omega) (by omega) Kk_ hx2 hc (by simp [T.get_set, t7, hev]) (by simp [T.get_set, t1]) (by simp [T.get_set]) (by simp [T.get_set]) fun w1 n1 tm1 s2 td1 hw1 hn1 hT1 x2 g1 g2 hk g13 g14 => ?_
     refine q w1 n1 tm1 s2 td1 hw1 (by omega) hT1 x2 g1 g2 (fun j j13 j14 j88 => ?_) g13 g14
     rw [hk j j13 j14 j88, T.get_set, if_neg j13, T.get_set, if_neg j14, T.get_set, if_neg j88]
   · have e2 : (decide (((BV L (w + 1) : Nat) : Int) ≤ ((cut : Nat) : Int))) = false := decide_eq_false (by omega)
     simp -implicitDefEqProofs only [e2]
     refine W.cond (v := false) NQ Od (by simp [T.get_set]) (by omega) (fun h => by cases h) fun _ => ?_
     exact q w _ _ _ _ (by omega) (by omega) Zp hx1 he (.inr (by omega)) (fun j _ _ h88 => by rw [T.get_set, if_neg h88]) (by simp [T.get_set, t13]) (by simp [T.get_set, t14])
end
theorem TD_ : envS.orc.get 29 = some (Hf (.bool true)) := by kernel_rfl
theorem PJ_ {L : List (List Nat)} {w : Nat} (hw : w ≤ L.length) : (A8 0 L).take w = A8 0 (L.take w) := by
 have e : L = L.take w ++ L.drop w := (List.take_append_drop w L).symm
 have hl : (A8 0 (L.take w)).length = w := by rw [DV, List.length_take]; omega
 conv => lhs; rw [e, PQ]
 exact List.take_left' hl
section
variable {parts : List (Value × List Nat)} {b o c : Nat}
theorem ST {n w cut e rest : Nat} {tm : T Value} {td : List Item} {s s0 : St} {vb vh : Value} {b1 b3 : Nat} {L : List (List Nat)} (hb : s.lim ≤ s.next) (hcx : s.cx = cxN) (hbyL : Byt (Ah L)) (hlenL : (Ah L).length ≤ 25000) (hL20 : L.length ≤ 20) (hw : w ≤ L.length) (hc : cut ≤ (Ah L).length) (hscan : Eb ((Ah L).take cut) = (A8 0 (L.take w), 0, e, rest))
   (mb : MkS s 1 (Ah L).length (u8l (Ah L)) vb b1) (mh : MkS s 18 L.length (BA (A8 0 L)) vh b3)
   (t5 : T.get tm 5 = some (.bool true)) (t6 : T.get tm 6 = some vb) (t1 : T.get tm 1 = some (.int .i64 (cut : Nat))) (t14 : T.get tm 14 = some (.int .i64 (e : Nat))) (t15 : T.get tm 15 = some (.int .i64 (rest : Nat))) (t8 : T.get tm 8 = some vh) (t13 : T.get tm 13 = some (.int .i64 (w : Nat))) (hT : skim 64 td = FJ) (hn : 2000000 ≤ n) :
   W (runF envS n ⟨5, EB, BB, tm, td, .run, .normal, none⟩) s fun p s1 => (fun (u : Value) (_ : St) => u = .bool true) p.1 (s1.cxN s0.cx) := by
 have hHl : (A8 0 L).length = L.length := DV L 0
 refine XD_.w hT (by omega) ?_
 simp -implicitDefEqProofs only [SQ, t1, t5, t6, t8, t13, t14, t15, Ci, Dx, Ap, Al, Ak, El, A5, AX, DA, BH, if_t]
 refine W.dop (cutS (s := oSt s.mem s.next) (l := Ah L) (mb.same rfl rfl) (by unfold capU; omega) hc fun v1 hv1 hF1 => ⟨Non, Ext.refl _, fun rd4 hr4 => ?_⟩)
 simp -implicitDefEqProofs only [A5]
 refine W.dop (cutH (s := oSt s.mem s.next) (hs := A8 0 L) (mh.same rfl rfl) hHl.symm (JD L 0) (by unfold capU; omega) hw fun v2 hv2 => ⟨Non, Ext.refl _, fun rd9 hr9 => ?_⟩)
 dsimp only
 have hlt1 : ∀ x, BsF v1 x → x < s.next := fun x hx => mb.lt x (mb.bsF x (hF1 x hx))
 rw [PJ_ hw] at hv2
 refine W.dop (Bm_ (s := oSt s.mem s.next) (l := (Ah L).take cut) (hs := A8 0 (L.take w)) (size := e) (bad := 0) (rest := rest) (Nat.le_refl _) (hv1.same rfl rfl) hlt1 (fun x hx => hbyL x (List.mem_of_mem_take hx)) (by rw [List.length_take]; omega) (hv2.same rfl rfl) (JD _ _) (by rw [DV, List.length_take]; omega) hscan (by rw [DV, List.length_take, List.length_take]; omega) fun sb xb => ⟨_, xb, fun rd10 hr10 => ?_⟩)
 dsimp only
 rw [W_dq fun s Q => AV (s := s) _ _ _ _]
 rw [Aa]
 have nb' : s.next ≤ sb.next := xb.nxt
 refine ⟨FS ?_, ?_⟩
 · simp -implicitDefEqProofs only [List.reverse_cons, List.reverse_nil, List.nil_append, List.cons_append, allP, Dw, List.take, ET]
   have lts : ∀ x, s.next ≤ x → ¬ x < s.next := fun x h => by omega
   simp +contextual [lts]
   repeat' first
     | exact .inl rfl
     | exact .inr fun _ _ h => h
     | apply And.intro
 · refine W.cast (MB_ _ _ _ _ _ _ _ _ _ _ _ _ _ _ _ _ _) ?_
   simp -implicitDefEqProofs only [Ad, W_oS, Aa, Bb, reduceIte, ↓reduceIte]
   refine W.end' (rs := [4]) (vs := [.bool true]) CB_ (.inl IJ_) (by omega) Qx T7 hcx (by simp [T.get_set]) rfl
theorem Xc_ {n : Nat} {x : Int} {tm : T Value} {td : List Item} {s s0 s00 s1 : St} {vb ve vh : Value} {b1 b2 b3 : Nat} {L : List (List Nat)} (hL : parts.map (·.2) = L) (hb1 : s1.lim ≤ s1.next) (hcx : s1.cx = cxN) (R : AlR s00 parts s1 vb ve vh b1 b2 b3) (hx : Ext Tru Non s1 s) (hbyL : Byt (Ah L)) (hlenL : (Ah L).length ≤ 25000)
   (t1 : T.get tm 1 = some (.int .i64 x)) (t5 : T.get tm 5 = some (.bool true)) (t6 : T.get tm 6 = some vb) (t7 : T.get tm 7 = some ve) (t8 : T.get tm 8 = some vh) (hT : skim 64 td = Hs) (hn : 2001000 ≤ n) :
   W (runF envS n ⟨5, EB, BB, tm, td, .run, .normal, none⟩) s fun p s1 => (fun (u : Value) (_ : St) => u = .bool true) p.1 (s1.cxN s0.cx) := by
 have hLl : L.length = parts.length := by rw [← hL, List.length_map]
 have hle := R.le
 have hfit : Fit L := fun x hx => by
   rw [← hL] at hx
   obtain ⟨p, hp, rfl⟩ := List.mem_map.1 hx
   exact R.sm p hp
 have mb := R.mb.ext0 hx
 rw [hL] at mb
 have ei : wrap64 (((Ah L).length : Nat) + 1 : Int) = (((Ah L).length + 1 : Nat) : Int) := by
   rw [Bl (by omega) (by omega)]; simp
 refine UB_.w hT (by omega) ?_
 simp -implicitDefEqProofs only [Cm_, Ad, W_oS, W_on, Aa, W_mv, Ac, Ap, Al, Ak, AW, t1, t6]
 rw [mb.len A1]
 simp -implicitDefEqProofs only [BY, ei]
 refine Ss_ (m := (Ah L).length + 1) (by omega) (by omega) (by omega) fun cut hcut => ?_
 try simp -implicitDefEqProofs only [Ad, W_oS, W_on, Aa, W_mv, Ac, Bb, T.get_set, Ap, Al, Bj, Bd, Ak, AW, reduceIte, AX, BH, By, BL, Bg, A7, Bh, Bz, AV, Bu, Nat.reduceEqDiff, reduceCtorEq, ↓reduceIte]
 refine XW_.w He_ (by omega) ?_
 simp -implicitDefEqProofs only [Aa_, Aa, W_mv, Ac]
 refine Nc_ (cut := cut) hL hb1 R L.length 0 _ _ s _ (by omega) (by omega) II_ hx (Nat.zero_le _) (by simp [T.get_set, t7]) (by simp [T.get_set]) (by simp [T.get_set]) (by simp [T.get_set]; rfl) fun w n1 tm1 s2 td1 hw hn1 hT1 x2 g1 g2 hk k13 k14 => ?_
 have mb2 := R.mb.ext0 x2
 have mh2 := R.mh.ext0 x2
 rw [hL] at mb2 mh2
 rw [← hLl] at mh2
 have hsc := XL_ hfit hw g1 g2 (by omega)
 have k1 : T.get tm1 1 = some (.int .i64 (cut : Nat)) := by rw [hk 1 (by decide) (by decide) (by decide)]; simp [T.get_set]
 have k5 : T.get tm1 5 = some (.bool true) := by rw [hk 5 (by decide) (by decide) (by decide)]; simp [T.get_set, t5]
 have k6 : T.get tm1 6 = some vb := by rw [hk 6 (by decide) (by decide) (by decide)]; simp [T.get_set, t6]
 have k8 : T.get tm1 8 = some vh := by rw [hk 8 (by decide) (by decide) (by decide)]; simp [T.get_set, t8]
 refine JZ_.w hT1 (by omega) ?_
 simp -implicitDefEqProofs only [Vn, Aa, W_mv, Ac]
 refine Iw_.w LP_ (by omega) ?_
 simp -implicitDefEqProofs only [SZ, Ad, W_oS, Aa, W_mv, Ac, T.get_set, reduceIte, Nat.reduceEqDiff, ↓reduceIte, Gv, k1, k14]
 by_cases he : BV L w = cut
 · rw [if_pos he] at hsc
   refine W.cond (v := true) Zc Wg (by simp [T.get_set, he]) (by omega) (fun _ => ?_) fun h => by cases h
   refine QY_.w Dv_ (by omega) ?_
   simp -implicitDefEqProofs only [Wl, Aa, W_mv, Ac]
   exact ST (s0 := s0) (x2.bnd hb1) (x2.cx.trans hcx) hbyL hlenL (by omega) hw (by omega) hsc mb2 mh2 (by simp [T.get_set, k5]) (by simp [T.get_set, k6]) (by simp [T.get_set, k1]) (by simp [T.get_set, k14]) (by simp [T.get_set]) (by simp [T.get_set, k8]) (by simp [T.get_set, k13]) Sr_ (by omega)
 · rw [if_neg he] at hsc
   refine W.cond (v := false) Zc Wg (by simp [T.get_set]; omega) (by omega) (fun h => by cases h) fun _ => ?_
   exact ST (s0 := s0) (x2.bnd hb1) (x2.cx.trans hcx) hbyL hlenL (by omega) hw (by omega) hsc mb2 mh2 (by simp [T.get_set, k5]) (by simp [T.get_set, k6]) (by simp [T.get_set, k1]) (by simp [T.get_set, k14]) (by simp [T.get_set]) (by simp [T.get_set, k8]) (by simp [T.get_set, k13]) SU_ (by omega)
end
theorem Rl_ {n : Nat} {s : St} {Q : Value → St → Prop} (hn : 100 ≤ n) (q : ∀ s1, Ext Tru Non s s1 → Q (.tuple #[.slice none 0 0, .slice none 0 0, .slice none 0 0, .bool true]) s1) :
   W (Au envS (runF envS n) 30 [.slice none 0 0]) s Q := by
 refine ZL fun tm h0 => ?_
 refine Wq.w rfl (by omega) ?_
 simp -implicitDefEqProofs only [R5, Aa, W_mv, Ac]
 refine Zt.w Tg (by omega) ?_
 simp -implicitDefEqProofs only [QG, Aa, W_mv, Ac]
 refine SL.w Yh (by omega) ?_
 simp -implicitDefEqProofs only [RF, Aa, W_mv, Ac]
 refine SV.w W4 (by omega) ?_
 simp -implicitDefEqProofs only [RV, Aa, W_mv, Ac]
 refine SF.w We (by omega) ?_
 simp -implicitDefEqProofs only [Pq, Aa, W_mv, Ac]
 refine VO.w Xh (by omega) ?_
 simp -implicitDefEqProofs only [PO, Aa, W_mv, Ac]
 refine Sb.w ZD (by omega) ?_
 have e1 : (decide ((0 : Int) < ((0 : Nat) : Int))) = false := rfl
 have e2 : (decide ((20 : Int) < ((0 : Nat) : Int))) = false := rfl
 have e3 : (decide ((4000 : Int) < 0)) = false := rfl
 simp -implicitDefEqProofs only [Kj, Ad, W_oS, W_on, Aa, W_mv, Ac, T.get_set, Ap, Al, Ak, reduceIte, AX, BL, A7, Bz, AV, reduceCtorEq, ↓reduceIte, Bm, h0, BS Ca, e1]
 refine W.cond (v := false) NA Mf (by simp [T.get_set]) (by omega) (fun h => by cases h) fun _ => ?_
 refine V6.w OD (by omega) ?_
 simp -implicitDefEqProofs only [Sv, Ad, W_oS, W_on, Aa, W_mv, Ac, T.get_set, Ap, Al, Ak, reduceIte, AX, Bg, A7, Bh, AV, Nat.reduceEqDiff, reduceCtorEq, ↓reduceIte, Dk, h0, BS Ca, e2, e3]
 refine W.cond (v := false) L0 JJ (by simp [T.get_set]) (by omega) (fun h => by cases h) fun _ => ?_
 refine Ts.w Yp (by omega) ?_
 simp -implicitDefEqProofs only [QK, Aa, W_mv, Ac]
 refine QA.w Yl (by omega) ?_
 simp -implicitDefEqProofs only [Mo, Ad, W_oS, Aa, W_mv, Ac, T.get_set, Ap, Al, Ak, reduceIte, reduceCtorEq, ↓reduceIte, Bm, h0, BS Ca, e1]
 refine W.cond (v := false) PF Q9 (by simp [T.get_set]) (by omega) (fun h => by cases h) fun _ => ?_
 refine V0.w AZ_ (by omega) ?_
 simp -implicitDefEqProofs only [RK, Aa, W_mv, Ac, T.get_set, reduceIte, Nat.reduceEqDiff, ↓reduceIte]
 refine W.end' (rs := [2, 3, 4, 5]) (vs := [.slice none 0 0, .slice none 0 0, .slice none 0 0, .bool true]) Zj (.inl Za) (by omega) Gk I5 rfl (by simp [T.get_set]) ?_
 exact q _ (Ext.refl (s.cxN cxN)).cx'
section
variable {parts : List (Value × List Nat)} {b o c : Nat}
theorem WE {n : Nat} {x : Int} {v0 : Value} {s : St} (hbd : s.lim ≤ s.next) (hv : FZ v0 parts b o c) (hp : Parts s b o parts) (hlt : ∀ p ∈ parts, ∀ x, BsF p.1 x → x < s.next) (hby : ∀ p ∈ parts, Byt p.2) (hn : 2300000 ≤ n) : W (Au envS (runF envS n) 5 [v0, .int .i64 x]) s fun u _ => u = .bool true := by
 refine MN_ fun tm h0 h1 => ?_
 have hp0 : Parts (s.cxN cxN) b o parts := hp.same rfl rfl
 refine Qa_.w rfl (by omega) ?_
 simp -implicitDefEqProofs only [Tk, Aa, W_mv, Ac]
 refine Wa_.w KB_ (by omega) ?_
 simp -implicitDefEqProofs only [S1, Ad, W_on, Aa, W_mv, Ac, Al, AW]
 refine W.orc TD_ (W.pure ?_)
 refine SQ_.w Tm_ (by omega) ?_
 simp -implicitDefEqProofs only [Uu, Ad, W_oS, W_on, Aa, W_mv, Ac, T.get_set, Ap, Al, Ak, AW, reduceIte, reduceCtorEq, ↓reduceIte, h0]
 have fine : ∀ (s1 : St) (vb ve vh : Value) (b1 b2 b3 : Nat) (n1 : Nat) (tm1 : T Value) (td : List Item), Ext Tru Non (s.cxN cxN) s1 → AlR (s.cxN cxN) parts s1 vb ve vh b1 b2 b3 → 2200000 ≤ n1 → skim 64 td = Ik → T.get tm1 0 = some v0 → T.get tm1 1 = some (.int .i64 x) → T.get tm1 5 = some (.bool true) → T.get tm1 6 = some vb → T.get tm1 7 = some ve → T.get tm1 8 = some vh → T.get tm1 9 = some (.bool true) →
     W (runF envS n1 ⟨5, EB, BB, tm1, td, .run, .normal, none⟩) s1 fun p s1 => (fun (u : Value) (_ : St) => u = .bool true) p.1 (s1.cxN s.cx) := by
   intro s1 vb ve vh b1 b2 b3 n1 tm1 td x1 R hn1 hT t0 t1 t5 t6 t7 t8 t9
   obtain ⟨L, hL⟩ : ∃ L, parts.map (·.2) = L := ⟨_, rfl⟩
   have hLl : L.length = parts.length := by rw [← hL, List.length_map]
   have hle := R.le
   have hb1 : s1.lim ≤ s1.next := x1.bnd hbd
   have hfit : Fit L := fun x hx => by
     rw [← hL] at hx
     obtain ⟨p, hp, rfl⟩ := List.mem_map.1 hx
     exact R.sm p hp
   have hlenL : (Ah L).length ≤ 25000 := by
     have h := P8 fun x hx => (hfit x hx).2
     have h2 : L.length * 1050 ≤ 20 * 1050 := Nat.mul_le_mul_right _ (by omega)
     omega
   have hbyL : Byt (Ah L) := by
     have : ∀ l : List (List Nat), (∀ x ∈ l, Byt x) → Byt (Ah l) := by
       intro l
       induction l with
       | nil => intro _ x hx; cases hx
       | cons x l ih =>
         intro h y hy
         rcases List.mem_append.1 hy with hy | hy
         · exact JJ_ (h x (by simp)) y hy
         · exact ih (fun z hz => h z (by simp [hz])) y hy
     refine this L fun x hx => ?_
     rw [← hL] at hx
     obtain ⟨p, hp, rfl⟩ := List.mem_map.1 hx
     exact hby p hp
   have mb := R.mb
   have mh := R.mh
   rw [hL] at mb mh
   have hlt1 : ∀ y, BsF vb y → y < s1.next := fun y hy => mb.lt y (mb.bsF y hy)
   have hscan := Xz L hfit
   refine Bg_.w hT (by omega) ?_
   simp -implicitDefEqProofs only [OG, Ad, W_oS, Aa, W_mv, Ac, t9, De, Bool.not_true]
   refine W.cond (v := false) Cg_ BD_ (by simp [T.get_set]) (by omega) (fun h => by cases h) fun _ => ?_
   refine Lk_.w TM_ (by omega) ?_
   simp -implicitDefEqProofs only [Wc, Ad, W_oS, W_on, Aa, W_mv, Ac, T.get_set, Ap, Al, Ak, AW, reduceIte, Nat.reduceEqDiff, ↓reduceIte, t6, t8]
   rw [mb.len A1]
   try simp -implicitDefEqProofs only [Ad, W_oS, W_on, Aa, W_mv, Ac, Bb, T.get_set, Ap, Al, Bj, Bd, Ak, AW, reduceIte, AX, BH, By, BL, Bg, A7, Bh, Bz, AV, Bu, Nat.reduceEqDiff, reduceCtorEq, ↓reduceIte]
   refine Bm_ (l := Ah L) (hs := A8 0 L) (size := (Ah L).length) (bad := 0) (rest := 0) hb1 (mb.bs (by unfold capU; omega)) hlt1 hbyL (by omega) (mh.hsR (by rw [DV, hLl])) (JD _ _) (by rw [DV]; omega) hscan (by rw [DV]; omega) fun s2 x2 => ?_
   have hx2 : Ext Tru Non s1 s2 := x2.weak hb1 (fun _ _ _ => trivial) fun _ _ h => h
   simp -implicitDefEqProofs only [De, Bool.not_true]
   refine W.cond (v := false) Nx_ GY_ (by simp [T.get_set]) (by omega) (fun h => by cases h) fun _ => ?_
   refine JM_.w SA_ (by omega) ?_
   simp -implicitDefEqProofs only [Tq, Aa, W_mv, Ac]
   have hp1 : Parts s1 b o parts := ⟨hp0.row.ext0 x1, fun p h => (hp0.bs p h).ext0 x1⟩
   refine Or_ hb1 x1.cx hv hp1 (fun p h y hy => Nat.lt_of_lt_of_le (hlt p h y hy) x1.nxt) hby R (by rw [hL]; exact hbyL) (by rw [hL]; exact hlenL) parts.length 0 _ _ s2 _ (by omega) (by omega) Oy_ hx2 (by simp [T.get_set, t0]) (by simp [T.get_set, t6]) (by simp [T.get_set, t8]) (by simp [T.get_set]) fun n2 tm2 s3 td2 hn2 hT2 x3 hk => ?_
   exact Xc_ (x := x) (s0 := s) hL hb1 x1.cx R x3 hbyL hlenL (by rw [hk 1 (by decide) (by decide) (by decide) (by decide) (by decide)]; simp [T.get_set, t1]) (by rw [hk 5 (by decide) (by decide) (by decide) (by decide) (by decide)]; simp [T.get_set, t5]) (by rw [hk 6 (by decide) (by decide) (by decide) (by decide) (by decide)]; simp [T.get_set, t6]) (by rw [hk 7 (by decide) (by decide) (by decide) (by decide) (by decide)]; simp [T.get_set, t7]) (by rw [hk 8 (by decide) (by decide) (by decide) (by decide) (by decide)]; simp [T.get_set, t8]) hT2 (by omega)
 rcases hv with ⟨rfl, rfl⟩ | rfl
 · refine Rl_ (by omega) fun s1 x1 => ?_
   rw [A9 (k := 0) rfl, A9 (k := 1) rfl, A9 (k := 2) rfl, A9 (k := 3) rfl]
   exact fine s1 _ _ _ (s.cxN cxN).next (s.cxN cxN).next (s.cxN cxN).next _ _ _ x1 ⟨.inl ⟨rfl, rfl, rfl⟩, .inl ⟨rfl, rfl, rfl⟩, .inl ⟨rfl, rfl, rfl⟩, Nat.le_refl _, Nat.le_refl _, Nat.le_refl _, fun y h _ => absurd h.1 (Nat.lt_irrefl 0), fun y h _ => absurd h.1 (Nat.lt_irrefl 0), fun y h _ => absurd h.1 (Nat.lt_irrefl 0), fun p h => (by cases h), (by simp), (by simp [tot])⟩ (by omega) RE (by simp [T.get_set, h0]) (by simp [T.get_set, h1]) (by simp [T.get_set]) (by simp [T.get_set]) (by simp [T.get_set]) (by simp [T.get_set]) (by simp [T.get_set])
 · refine Hv_ (s := s.cxN cxN) hbd hp0 hlt hby (by omega) (fun s1 x1 => ?_) fun s1 vb ve vh b1 b2 b3 x1 R => ?_
   · rw [A9 (k := 0) rfl, A9 (k := 1) rfl, A9 (k := 2) rfl, A9 (k := 3) rfl]
     refine Bg_.w RE (by omega) ?_
     simp -implicitDefEqProofs only [OG, Ad, W_oS, Aa, W_mv, Ac, T.get_set, reduceIte, ↓reduceIte, De, Bool.not_false]
     refine W.cond (v := true) Cg_ BD_ (by simp [T.get_set]) (by omega) (fun _ => ?_) fun h => by cases h
     refine Nh_.w Gn_ (by omega) ?_
     simp -implicitDefEqProofs only [SH, Aa, W_mv, Ac, T.get_set, reduceIte, Nat.reduceEqDiff, ↓reduceIte]
     exact W.end' (rs := [4]) (vs := [.bool true]) Hm_ (.inl XE_) (by omega) Qx T7 x1.cx (by simp [T.get_set]) rfl
   · rw [A9 (k := 0) rfl, A9 (k := 1) rfl, A9 (k := 2) rfl, A9 (k := 3) rfl]
     exact fine s1 vb ve vh b1 b2 b3 _ _ _ (x1.weak hbd (fun _ _ _ => trivial) fun _ _ h => h) R (by omega) RE (by simp [T.get_set, h0]) (by simp [T.get_set, h1]) (by simp [T.get_set]) (by simp [T.get_set]) (by simp [T.get_set]) (by simp [T.get_set]) (by simp [T.get_set])
end
open Go.RowKit Go.ChangeShapes Go.WideShapes
theorem WB : envS.P = Try.prog := by kernel_rfl
theorem UA_ : Try.f5.params.toList = [43, 3] := by kernel_rfl
theorem PU_ : Try.f5.params = #[43, 3] := by kernel_rfl
theorem GJ_ : Try.prog.underlying 43 = some (.slice 22) := by kernel_rfl
theorem Dz_ : Try.prog.underlying 22 = some (.slice 5) := by kernel_rfl
theorem If_ : Try.prog.underlying 5 = some (.int .u8) := by kernel_rfl
theorem Oa_ : Try.prog.underlying 3 = some (.int .i64) := by kernel_rfl
theorem Dk_ : Try.prog.cellsOf 22 = 1 := by kernel_rfl
theorem VF_ : Try.prog.cellsOf 5 = 1 := by kernel_rfl
theorem Uc : envS.orc.get 5 = none := by kernel_rfl
theorem BO_ : envS.ext.get 5 = none := by kernel_rfl
theorem GC_ (qs : List Part) {w : World} {vs : List Value} (hlen : vs.length = qs.length) (hok : ∀ (i : Nat) (p : Part) (v : Value), qs[i]? = some p → vs[i]? = some v → Eo w p v) : ∃ parts : List (Value × List Nat), parts.length = qs.length ∧ Parts (DE qs) 0 0 parts ∧ (∀ p ∈ parts, ∀ x, BsF p.1 x → x < (DE qs).next) ∧ ∀ p ∈ parts, Byt p.2 := by
 have each : ∀ i, ∃ p : Value × List Nat, i < qs.length → (D0 (qs.length + 1) qs)[i]? = some p.1 ∧ Bs (DE qs) p.1 p.2 ∧ Byt p.2 ∧ ∀ x, BsF p.1 x → x < (DE qs).next := fun i => by
   by_cases hi : i < qs.length
   · obtain ⟨v, h1, h2, h3, h4⟩ := MF_ qs hlen hok (List.getElem?_eq_getElem hi)
     exact ⟨(v, qs[i].l), fun _ => ⟨h1, h2, h3, h4⟩⟩
   · exact ⟨(undef, []), fun h => absurd h hi⟩
 obtain ⟨f, hf⟩ := Classical.axiomOfChoice each
 refine ⟨(List.range qs.length).map f, by simp, ⟨fun i u e => ?_, fun p hp => ?_⟩, fun p hp => ?_, fun p hp => ?_⟩
 · rw [List.map_map, List.getElem?_map, Option.map_eq_some_iff] at e
   obtain ⟨j, g1, rfl⟩ := e
   have hi := (List.getElem?_eq_some_iff.1 g1).1
   rw [List.length_range] at hi
   rw [List.getElem?_range hi] at g1
   cases g1
   exact Qm_ qs i _ (hf i hi).1
 · obtain ⟨j, hj, rfl⟩ := List.mem_map.1 hp
   exact (hf j (List.mem_range.1 hj)).2.1
 · obtain ⟨j, hj, rfl⟩ := List.mem_map.1 hp
   exact (hf j (List.mem_range.1 hj)).2.2.2
 · obtain ⟨j, hj, rfl⟩ := List.mem_map.1 hp
   exact (hf j (List.mem_range.1 hj)).2.2.1
set_option maxRecDepth 1000000 in
theorem walkBack {H : Type} {enc : TypeId × Value → H} {w : World} {base : Nat} {args : Array Value} {ds : List (DataW H)} {ps : List MemPlace} (hA : DataW.TrodAll enc Try.prog w 0 (fun _ => true) true Try.f5.params.toList args.toList ds ps)
   (hv : ∀ (j : Nat) t v, Try.f5.params[j]? = some t → args[j]? = some v → Value.okWide Try.prog w .any base t v) : Calls Try.prog 5 args w fun e w' => e = .returned (.bool true) ∧ Below w.heap.size w w' := by
 rw [UA_] at hA
 rw [PU_] at hv
 obtain ⟨v, v', d, d', p, p', rfl, rfl, rfl, hj, _⟩ := trodAll_two hA
 obtain ⟨x, rfl, _, _⟩ := DQ_ Oa_ (hv 1 _ v' rfl rfl)
 rcases Hh_ GJ_ Dz_ If_ Dk_ VF_ (hv 0 _ v rfl rfl) hj with rfl | ⟨b, o, len, cap, qs, vs, rfl, hc, hm, rfl, hlen, hb, hok, hcell⟩
 · have h := Io_ (args := #[.slice none 0 0, .int .i64 x]) YS Uc BO_ (WE (parts := []) (b := 0) (o := 0) (c := 0) (n := 2400000) (x := x) (s := st0) (Nat.le_refl _) (.inl ⟨rfl, rfl⟩) ⟨fun i u e => by simp at e, fun p hp => by cases hp⟩ (fun p hp => by cases hp) (fun p hp => by cases hp) (by omega)) rfl (by
     intro v hv
     simp -implicitDefEqProofs only [List.mem_cons, List.not_mem_nil, or_false] at hv
     rcases hv with rfl | rfl <;> rfl) w
   rw [WB] at h
   exact h
 · obtain ⟨parts, hpl, hp, hlt, hby⟩ := GC_ qs hlen hok
   have hrun : W (Au envS (runF envS 2400000) 5 [.slice (some ⟨0, 0, none⟩) qs.length cap, .int .i64 x]) (DE qs) fun u _ => u = .bool true := by
     rw [← hpl]
     exact WE (Nat.zero_le _) (.inr rfl) hp hlt hby (by omega)
   have h := SS_ (fuel := 2400000) (more := [.int .i64 x]) (o := o) YS Uc BO_ hc hm (by
     intro v hv
     simp -implicitDefEqProofs only [List.mem_cons, List.not_mem_nil, or_false] at hv
     rcases hv with rfl
     rfl) hrun rfl hb hlen hok hcell
   rw [WB] at h
   exact h
end Go.Proofs.Ytofanlcjeohcjaa.Am
end
