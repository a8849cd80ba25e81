import Derived.Test.YtchnfdaebboaeaaGreatDoorSFl20
import Derived.Test.YtchnfdaebboaeaaGreatDoorSFl09
import Derived.KernelRfl
import Derived.Test.YtchnfdaebboaeaaGreatDoorSFl01
import Derived.Test.YtchnfdaebboaeaaGreatDoorSFl21
import Derived.Test.YtchnfdaebboaeaaGreatDoorSFl08
noncomputable section
namespace Go.Proofs.YtchnfdaebboaeaaGreatDoor.Am
open Go.RowKit
def KV : Nat := BK Tryz.f104
def OP : Code := Tryz.f104.body.getD .skip
theorem Ou : envS.fn.get 104 = some Tryz.f104 := by kernel_rfl
theorem GL_ {n : Nat} {s : St} {Q : Value → St → Prop} (h : ∀ tm, W (runF envS n ⟨104, 4, KV, tm, [.code OP], .run, .normal, none⟩) (s.cxN cxN) fun p s1 => Q p.1 (s1.cxN s.cx)) : W (AJ envS (runF envS n) 104 []) s Q :=
 W.call (by kernel_rfl) (by kernel_rfl) Ou (by kernel_rfl) rfl rfl (by simp) (h _ )
theorem UC : Tryz.f104.results.toList = [.tmp 0] := by kernel_rfl
def Mk : List Item := skim 64 [.code OP]
def I3 : List Item := skim 64 Mk.tail
theorem Zc : skim 64 Mk.tail = I3 := by kernel_rfl
def LO : List Item := skim 64 I3.tail
theorem Ai_ : skim 64 I3.tail = LO := by kernel_rfl
def RI (E : Env) (call round : Ae) (tm : T Value) : M (T Value) :=
  mv (some (.pointer none)) fun v0 =>
  setF 0 v0 tm fun tm1 =>
  M.pure tm1
theorem Yo : RegEq 104 4 KV Mk RI := ⟨by kernel_rfl, fun _ _ _ _ _ _ _ _ _ => by kernel_rfl⟩
def QP (E : Env) (call round : Ae) (tm : T Value) : M (T Value) :=
  M.bind (M.on (some (.func (.func 141) #[] #[])) fun f => M.on (seqO []) fun l => B3 call round f l) fun v1 =>
  M.bind (oS (seqP [(0, (some (.bool true))), (1, (some v1))]) fun ps => Cv E 205 ps) fun v2 =>
  M.bind (oS (some v2) fun a => kBox a) fun v3 =>
  mv (some v3) fun v0 =>
  setF 0 v0 tm fun tm1 =>
  M.pure tm1
theorem VH : RegEq 104 4 KV I3 QP := ⟨by kernel_rfl, fun _ _ _ _ _ _ _ _ _ => by kernel_rfl⟩
theorem ZG : ∃ k, LO = .code .ret :: k := ⟨LO.tail, by kernel_rfl⟩
def Kg : Nat := BK Tryz.f141
def Qt : Code := Tryz.f141.body.getD .skip
theorem RP : envS.fn.get 141 = some Tryz.f141 := by kernel_rfl
theorem ET_ {n : Nat} {s : St} {Q : Value → St → Prop} (h : ∀ tm, W (runF envS n ⟨141, 2, Kg, tm, [.code Qt], .run, .normal, none⟩) (s.cxN cxN) fun p s1 => Q p.1 (s1.cxN s.cx)) : W (AJ envS (runF envS n) 141 []) s Q :=
 W.call (by kernel_rfl) (by kernel_rfl) RP (by kernel_rfl) rfl rfl (by simp) (h _ )
theorem Be_ : Tryz.f141.results.toList = [.cell 0 201] := by kernel_rfl
def Lo : List Item := skim 64 [.code Qt]
def Kd : List Item := skim 64 Lo.tail
theorem Ao_ : skim 64 Lo.tail = Kd := by kernel_rfl
def Lq : List Item := skim 64 Kd.tail
theorem Eo_ : skim 64 Kd.tail = Lq := by kernel_rfl
def Q5 (E : Env) (call round : Ae) (tm : T Value) : M (T Value) :=
  M.bind (BZ E 201) fun v0 =>
  setF 0 v0 tm fun tm1 =>
  M.pure tm1
theorem Xk : RegEq 141 2 Kg Lo Q5 := ⟨by kernel_rfl, fun _ _ _ _ _ _ _ _ _ => by kernel_rfl⟩
def QI (E : Env) (call round : Ae) (tm : T Value) : M (T Value) :=
  M.bind (oS (seqP [(0, (some (.int .u32 1779033703))), (1, (some (.int .u32 3144134277))), (2, (some (.int .u32 1013904242))), (3, (some (.int .u32 2773480762))), (4, (some (.int .u32 1359893119))), (5, (some (.int .u32 2600822924))), (6, (some (.int .u32 528734635))), (7, (some (.int .u32 1541459225)))]) fun ps => Cv E 201 ps) fun v1 =>
  M.bind (oS (T.get tm 0) fun a => oS (some v1) fun b => Bp E 201 a b) fun _ =>
  M.pure tm
theorem BP_ : RegEq 141 2 Kg Kd QI := ⟨by kernel_rfl, fun _ _ _ _ _ _ _ _ _ => by kernel_rfl⟩
theorem DE_ : ∃ k, Lq = .code .ret :: k := ⟨Lq.tail, by kernel_rfl⟩
def Cx : Nat := BK Tryz.f105
abbrev Tg : Nat := 57
def Q0 : Code := Tryz.f105.body.getD .skip
theorem ML : envS.fn.get 105 = some Tryz.f105 := by kernel_rfl
theorem Aq_ {a0 a1 : Value} {n : Nat} {s : St} {Q : Value → St → Prop} (h : ∀ tm, T.get tm 0 = some a0 → T.get tm 1 = some a1 → W (runF envS n ⟨105, 57, Cx, tm, [.code Q0], .run, .normal, none⟩) (s.cxN cxN) fun p s1 => Q p.1 (s1.cxN s.cx)) : W (AJ envS (runF envS n) 105 [a0, a1]) s Q :=
 W.call (by kernel_rfl) (by kernel_rfl) ML (by kernel_rfl) rfl rfl (by simp) (h _ (by kernel_rfl) (by kernel_rfl))
theorem R4 : Tryz.f105.results.toList = [] := by kernel_rfl
def Mx : List Item := skim 64 [.code Q0]
def JE : List Item := skim 64 Mx.tail
theorem Wb : skim 64 Mx.tail = JE := by kernel_rfl
def EY : List Item := skim 64 (brF JE)
theorem Uv : skim 64 (brF JE) = EY := by kernel_rfl
def Fx : List Item := skim 64 EY.tail
theorem MA : skim 64 EY.tail = Fx := by kernel_rfl
def IT : List Item := skim 64 (brT Fx)
theorem Fd_ : skim 64 (brT Fx) = IT := by kernel_rfl
def Vi : List Item := skim 64 (brF Fx)
theorem Qu : skim 64 (brF Fx) = Vi := by kernel_rfl
def IB : List Item := skim 64 IT.tail
theorem DT_ : skim 64 IT.tail = IB := by kernel_rfl
def JC : List Item := skim 64 IB.tail
theorem GZ_ : skim 64 IB.tail = JC := by kernel_rfl
def Ka : List Item := skim 64 JC.tail
theorem Wq : skim 64 JC.tail = Ka := by kernel_rfl
def Jr : List Item := skim 64 Ka.tail
theorem XL : skim 64 Ka.tail = Jr := by kernel_rfl
def Ha : List Item := skim 64 Jr.tail
theorem Nt : skim 64 Jr.tail = Ha := by kernel_rfl
def H6 : List Item := skim 64 (brT Ha)
theorem T4 : skim 64 (brT Ha) = H6 := by kernel_rfl
theorem Cv_ : skim 64 (brF Ha) = EY := by kernel_rfl
theorem EV_ : skim 64 H6.tail = EY := by kernel_rfl
def Sv (E : Env) (call round : Ae) (tm : T Value) : M (T Value) :=
  mv (T.get tm 0) fun v6 =>
  M.bind (oS (some v6) fun a => oS (some (.pointer none)) fun b => Cl.get (aBin E .eql 156 (.tmp 6) (.const (.pointer none))) a b) fun v7 =>
  mv (some v7) fun v8 =>
  M.bind (M.chk (isK v8) (M.if (isB v8 false) (oS (T.get tm 0) fun a => M.pure a) (M.pure undef))) fun v9 =>
  M.bind (M.chk (isK v8) (M.if (isB v8 false) (oS (some v9) fun a => kNil a) (M.pure undef))) fun v10 =>
  M.bind (M.chk (isK v8) (M.if (isB v8 false) (oS (some v10) fun a => kFld E 205 a 0) (M.pure undef))) fun v11 =>
  M.bind (M.chk (isK v8) (M.if (isB v8 false) (oS (some v11) fun a => A6 E 4 a) (M.pure undef))) fun v12 =>
  M.bind (M.chk (isK v8) (M.if (isB v8 false) (oS (some v12) fun a => kUn E.P .not a) (M.pure undef))) fun v13 =>
  M.bind (M.on (some v8) fun a => M.on (some (.bool true)) fun b => M.on (some v13) fun c => Cd a b c) fun v14 =>
  setF 14 v14 tm fun tm1 =>
  M.pure tm1
theorem Vc : RegEq 105 57 Cx Mx Sv := ⟨by kernel_rfl, fun _ _ _ _ _ _ _ _ _ => by kernel_rfl⟩
theorem VZ : B5 JE = some 14 := by kernel_rfl
def J5 (E : Env) (call round : Ae) (tm : T Value) : M (T Value) :=
  mv (T.get tm 1) fun v15 =>
  M.bind (oS (seqO [(some v15)]) fun l => Bt E .len [54] l) fun v16 =>
  M.bind (oS (some v16) fun a => oS (some (.int .i64 0)) fun b => Cl.get (aBin E .gtr 3 (.tmp 16) (.const (.int .i64 0))) a b) fun v17 =>
  setF 17 v17 tm fun tm1 =>
  M.pure tm1
theorem LC : RegEq 105 57 Cx EY J5 := ⟨by kernel_rfl, fun _ _ _ _ _ _ _ _ _ => by kernel_rfl⟩
theorem LF : B5 Fx = some 17 := by kernel_rfl
def Ow (E : Env) (call round : Ae) (tm : T Value) : M (T Value) :=
  mv (T.get tm 0) fun v18 =>
  M.bind (oS (some v18) fun a => kNil a) fun v19 =>
  M.bind (oS (some v19) fun a => kFld E 205 a 3) fun v20 =>
  M.bind (oS (some v20) fun a => A6 E 3 a) fun v21 =>
  M.bind (oS (some v21) fun a => oS (some (.int .i64 64)) fun b => Cl.get (aBin E .rem 3 (.tmp 21) (.const (.int .i64 64))) a b) fun v22 =>
  mv (some v22) fun v4 =>
  setF 4 v4 tm fun tm1 =>
  M.pure tm1
theorem T5 : RegEq 105 57 Cx IT Ow := ⟨by kernel_rfl, fun _ _ _ _ _ _ _ _ _ => by kernel_rfl⟩
def QA (E : Env) (call round : Ae) (tm : T Value) : M (T Value) :=
  mv (T.get tm 0) fun v23 =>
  M.bind (oS (some v23) fun a => kNil a) fun v24 =>
  M.bind (oS (some v24) fun a => kFld E 205 a 2) fun v25 =>
  mv (T.get tm 4) fun v26 =>
  M.bind (M.on (some v25) fun a => M.on (onO (some v26) fun v => some (some v)) fun b => M.on (some none) fun c => BM E 203 a b c) fun v27 =>
  mv (T.get tm 1) fun v28 =>
  M.bind (oS (seqO [(some v27), (some v28)]) fun l => Bt E .copy [54, 54] l) fun v29 =>
  mv (some v29) fun v5 =>
  setF 5 v5 tm fun tm1 =>
  M.pure tm1
theorem Dg_ : RegEq 105 57 Cx IB QA := ⟨by kernel_rfl, fun _ _ _ _ _ _ _ _ _ => by kernel_rfl⟩
def Rz (E : Env) (call round : Ae) (tm : T Value) : M (T Value) :=
  mv (T.get tm 1) fun v30 =>
  mv (T.get tm 5) fun v31 =>
  M.bind (M.on (some v30) fun a => M.on (onO (some v31) fun v => some (some v)) fun b => M.on (some none) fun c => BM E 54 a b c) fun v32 =>
  mv (some v32) fun v1 =>
  setF 1 v1 tm fun tm1 =>
  M.pure tm1
theorem Za : RegEq 105 57 Cx JC Rz := ⟨by kernel_rfl, fun _ _ _ _ _ _ _ _ _ => by kernel_rfl⟩
def Oh (E : Env) (call round : Ae) (tm : T Value) : M (T Value) :=
  mv (T.get tm 0) fun v33 =>
  M.bind (oS (some v33) fun a => kNil a) fun v34 =>
  M.bind (oS (some v34) fun a => kFld E 205 a 3) fun v35 =>
  M.bind (oS (some v35) fun a => A6 E 3 a) fun v36 =>
  mv (T.get tm 5) fun v37 =>
  M.bind (oS (some v36) fun a => oS (some v37) fun b => Cl.get (aBin E .add 3 (.tmp 36) (.tmp 37)) a b) fun v38 =>
  M.bind (oS (some v33) fun a => kNil a) fun v39 =>
  M.bind (oS (some v39) fun a => kFld E 205 a 3) fun v40 =>
  M.bind (oS (some v40) fun a => oS (some v38) fun b => Bp E 3 a b) fun _ =>
  M.pure tm
theorem Hp_ : RegEq 105 57 Cx Ka Oh := ⟨by kernel_rfl, fun _ _ _ _ _ _ _ _ _ => by kernel_rfl⟩
def SN (E : Env) (call round : Ae) (tm : T Value) : M (T Value) :=
  mv (T.get tm 4) fun v41 =>
  mv (T.get tm 5) fun v42 =>
  M.bind (oS (some v41) fun a => oS (some v42) fun b => Cl.get (aBin E .add 3 (.tmp 41) (.tmp 42)) a b) fun v43 =>
  M.bind (oS (some v43) fun a => oS (some (.int .i64 64)) fun b => Cl.get (aBin E .eql 3 (.tmp 43) (.const (.int .i64 64))) a b) fun v44 =>
  setF 44 v44 tm fun tm1 =>
  M.pure tm1
theorem YW : RegEq 105 57 Cx Jr SN := ⟨by kernel_rfl, fun _ _ _ _ _ _ _ _ _ => by kernel_rfl⟩
theorem RX : B5 Ha = some 44 := by kernel_rfl
def Nf (E : Env) (call round : Ae) (tm : T Value) : M ((Rho × T Value) × List OpLog) :=
  M.bind (apartO (oS (T.get tm 0) fun a => M.pure a)) fun p0 =>
  M.bind (apartO (oS (T.get tm 0) fun a => M.pure a)) fun p1 =>
  M.bind (apartO (oS (some p1.1) fun a => kNil a)) fun p2 =>
  M.bind (apartO (oS (some p2.1) fun a => kFld E 205 a 1)) fun p3 =>
  M.bind (apartO (oS (some p3.1) fun a => A6 E 201 a)) fun p4 =>
  M.bind (apartO (oS (T.get tm 0) fun a => M.pure a)) fun p5 =>
  M.bind (apartO (oS (some p5.1) fun a => kNil a)) fun p6 =>
  M.bind (apartO (oS (some p6.1) fun a => kFld E 205 a 2)) fun p7 =>
  M.bind (apartO (M.on (some p7.1) fun a => M.on (some none) fun b => M.on (some none) fun c => BM E 203 a b c)) fun p8 =>
  M.bind (apartO (M.on (some (.func (.func 142) #[] #[])) fun f => M.on (seqO [(some p4.1), (some p8.1)]) fun l => B3 call round f l)) fun p9 =>
  M.bind (apartO (oS (some p0.1) fun a => kNil a)) fun p10 =>
  M.bind (apartO (oS (some p10.1) fun a => kFld E 205 a 1)) fun p11 =>
  M.pure (([p11.1, p10.1, p9.1, p8.1, p7.1, p6.1, p5.1, p4.1, p3.1, p2.1, p1.1, p0.1], tm), [p11.2, p10.2, p9.2, p8.2, p7.2, p6.2, p5.2, p4.2, p3.2, p2.2, p1.2, p0.2])
theorem Y0 : DrawEq 105 57 Cx H6 [0, 0, 2, 6, 14, 0, 32, 96, 224, 510, 1023, 2047, 4095] Nf := ⟨by kernel_rfl, by kernel_rfl, fun _ _ _ _ _ _ _ _ _ => by kernel_rfl⟩
theorem Hc_ (E : Env) (call round : Ae) (x45 x46 x47 x48 x49 x50 x51 x52 x53 x54 x55 x56 : Value) (tm : T Value) (s : St) : Bd call round (DE E Cx 57 (hdC H6)) [x56, x55, x54, x53, x52, x51, x50, x49, x48, x47, x46, x45] tm s = (M.bind (oS (some x56) fun a => oS (some x54) fun b => Bp E 201 a b) fun _ => M.pure tm) s := by kernel_rfl
def Bh : Nat := BK Tryz.f106
abbrev Fp : Nat := 74
def Py : Code := Tryz.f106.body.getD .skip
theorem Ra : envS.fn.get 106 = some Tryz.f106 := by kernel_rfl
theorem VO {a0 : Value} {n : Nat} {s : St} {Q : Value → St → Prop} (h : ∀ tm, T.get tm 0 = some a0 → W (runF envS n ⟨106, 74, Bh, tm, [.code Py], .run, .normal, none⟩) (s.cxN cxN) fun p s1 => Q p.1 (s1.cxN s.cx)) : W (AJ envS (runF envS n) 106 [a0]) s Q :=
 W.call (by kernel_rfl) (by kernel_rfl) Ra (by kernel_rfl) rfl rfl (by simp) (h _ (by kernel_rfl))
theorem UL : Tryz.f106.results.toList = [.cell 2 123] := by kernel_rfl
def Kj : List Item := skim 64 [.code Py]
def HG : List Item := skim 64 Kj.tail
theorem Ek_ : skim 64 Kj.tail = HG := by kernel_rfl
def J7 : List Item := skim 64 HG.tail
theorem WA : skim 64 HG.tail = J7 := by kernel_rfl
def Ia : List Item := skim 64 J7.tail
theorem TS : skim 64 J7.tail = Ia := by kernel_rfl
def I7 : List Item := skim 64 (brF Ia)
theorem Ee_ : skim 64 (brF Ia) = I7 := by kernel_rfl
def Gc : List Item := skim 64 I7.tail
theorem Ar_ : skim 64 I7.tail = Gc := by kernel_rfl
def HF : List Item := skim 64 Gc.tail
theorem UI : skim 64 Gc.tail = HF := by kernel_rfl
def IV : List Item := skim 64 HF.tail
theorem Xy : skim 64 HF.tail = IV := by kernel_rfl
def E2 : List Item := skim 64 IV.tail
theorem Yq : skim 64 IV.tail = E2 := by kernel_rfl
def F4 : List Item := skim 64 E2.tail
theorem Pb : skim 64 E2.tail = F4 := by kernel_rfl
def Jq : List Item := skim 64 (brT F4)
theorem EN_ : skim 64 (brT F4) = Jq := by kernel_rfl
def GT : List Item := skim 64 (brF F4)
theorem Tl : skim 64 (brF F4) = GT := by kernel_rfl
def Kv : List Item := skim 64 Jq.tail
theorem ZF : skim 64 Jq.tail = Kv := by kernel_rfl
def Hh : List Item := skim 64 GT.tail
theorem SW : skim 64 GT.tail = Hh := by kernel_rfl
theorem Tv : skim 64 Kv.tail = E2 := by kernel_rfl
def FG : List Item := skim 64 Hh.tail
theorem VX : skim 64 Hh.tail = FG := by kernel_rfl
def FQ : List Item := skim 64 FG.tail
theorem Qo : skim 64 FG.tail = FQ := by kernel_rfl
def Jl : List Item := skim 64 (brT FQ)
theorem V3 : skim 64 (brT FQ) = Jl := by kernel_rfl
def GK : List Item := skim 64 (brF FQ)
theorem Un : skim 64 (brF FQ) = GK := by kernel_rfl
def Jz : List Item := skim 64 Jl.tail
theorem EI_ : skim 64 Jl.tail = Jz := by kernel_rfl
def MD : List Item := skim 64 GK.tail
theorem FB_ : skim 64 GK.tail = MD := by kernel_rfl
def KD : List Item := skim 64 Jz.tail
theorem UW : skim 64 Jz.tail = KD := by kernel_rfl
theorem Br_ : skim 64 KD.tail = FG := by kernel_rfl
def NE (E : Env) (call round : Ae) (tm : T Value) : M (T Value) :=
  M.bind (BZ E 123) fun v2 =>
  setF 2 v2 tm fun tm1 =>
  M.pure tm1
theorem U1 : RegEq 106 74 Bh Kj NE := ⟨by kernel_rfl, fun _ _ _ _ _ _ _ _ _ => by kernel_rfl⟩
def NR (E : Env) (call round : Ae) (tm : T Value) : M (T Value) :=
  M.bind (BZ E 123) fun v3 =>
  setF 3 v3 tm fun tm1 =>
  M.pure tm1
theorem Vl : RegEq 106 74 Bh HG NR := ⟨by kernel_rfl, fun _ _ _ _ _ _ _ _ _ => by kernel_rfl⟩
def Qz (E : Env) (call round : Ae) (tm : T Value) : M (T Value) :=
  mv (T.get tm 0) fun v9 =>
  M.bind (oS (some v9) fun a => oS (some (.pointer none)) fun b => Cl.get (aBin E .eql 156 (.tmp 9) (.const (.pointer none))) a b) fun v10 =>
  mv (some v10) fun v11 =>
  M.bind (M.chk (isK v11) (M.if (isB v11 false) (oS (T.get tm 0) fun a => M.pure a) (M.pure undef))) fun v12 =>
  M.bind (M.chk (isK v11) (M.if (isB v11 false) (oS (some v12) fun a => kNil a) (M.pure undef))) fun v13 =>
  M.bind (M.chk (isK v11) (M.if (isB v11 false) (oS (some v13) fun a => kFld E 205 a 0) (M.pure undef))) fun v14 =>
  M.bind (M.chk (isK v11) (M.if (isB v11 false) (oS (some v14) fun a => A6 E 4 a) (M.pure undef))) fun v15 =>
  M.bind (M.chk (isK v11) (M.if (isB v11 false) (oS (some v15) fun a => kUn E.P .not a) (M.pure undef))) fun v16 =>
  M.bind (M.on (some v11) fun a => M.on (some (.bool true)) fun b => M.on (some v16) fun c => Cd a b c) fun v17 =>
  setF 17 v17 tm fun tm1 =>
  M.pure tm1
theorem Gr_ : RegEq 106 74 Bh J7 Qz := ⟨by kernel_rfl, fun _ _ _ _ _ _ _ _ _ => by kernel_rfl⟩
theorem Az_ : B5 Ia = some 17 := by kernel_rfl
def QS (E : Env) (call round : Ae) (tm : T Value) : M (T Value) :=
  mv (T.get tm 0) fun v19 =>
  M.bind (oS (some v19) fun a => kNil a) fun v20 =>
  M.bind (oS (some v20) fun a => A6 E 205 a) fun v21 =>
  M.bind (BZ E 205) fun v4 =>
  setF 4 v4 tm fun tm1 =>
  M.bind (oS (some v4) fun a => oS (some v21) fun b => Bp E 205 a b) fun _ =>
  M.pure tm1
theorem TJ : RegEq 106 74 Bh I7 QS := ⟨by kernel_rfl, fun _ _ _ _ _ _ _ _ _ => by kernel_rfl⟩
def RF (E : Env) (call round : Ae) (tm : T Value) : M (T Value) :=
  mv (T.get tm 0) fun v22 =>
  M.bind (oS (some v22) fun a => kNil a) fun v23 =>
  M.bind (oS (some v23) fun a => kFld E 205 a 3) fun v24 =>
  M.bind (oS (some v24) fun a => A6 E 3 a) fun v25 =>
  M.bind (oS (some v25) fun a => oS (some (.int .i64 64)) fun b => Cl.get (aBin E .rem 3 (.tmp 25) (.const (.int .i64 64))) a b) fun v26 =>
  M.bind (oS (some (.int .i64 119)) fun a => oS (some v26) fun b => Cl.get (aBin E .sub 3 (.const (.int .i64 119)) (.tmp 26)) a b) fun v27 =>
  M.bind (oS (some v27) fun a => oS (some (.int .i64 64)) fun b => Cl.get (aBin E .rem 3 (.tmp 27) (.const (.int .i64 64))) a b) fun v28 =>
  M.bind (oS (some (.int .i64 1)) fun a => oS (some v28) fun b => Cl.get (aBin E .add 3 (.const (.int .i64 1)) (.tmp 28)) a b) fun v29 =>
  M.bind (oS (some v29) fun a => oS (some (.int .i64 80)) fun b => Dx E 54 a b) fun v30 =>
  mv (some v30) fun v5 =>
  setF 5 v5 tm fun tm1 =>
  M.pure tm1
theorem Te : RegEq 106 74 Bh Gc RF := ⟨by kernel_rfl, fun _ _ _ _ _ _ _ _ _ => by kernel_rfl⟩
def R5 (E : Env) (call round : Ae) (tm : T Value) : M (T Value) :=
  mv (T.get tm 5) fun v31 =>
  M.bind (oS (some v31) fun a => oS (some (.int .i64 0)) fun b => Cj E 54 a b) fun v32 =>
  M.bind (oS (some v32) fun a => oS (some (.int .u8 128)) fun b => Bp E 5 a b) fun _ =>
  M.pure tm
theorem Bz_ : RegEq 106 74 Bh HF R5 := ⟨by kernel_rfl, fun _ _ _ _ _ _ _ _ _ => by kernel_rfl⟩
def QO (E : Env) (call round : Ae) (tm : T Value) : M (T Value) :=
  mv (some (.int .i64 56)) fun v6 =>
  setF 6 v6 tm fun tm1 =>
  M.pure tm1
theorem WV : RegEq 106 74 Bh IV QO := ⟨by kernel_rfl, fun _ _ _ _ _ _ _ _ _ => by kernel_rfl⟩
def Md (E : Env) (call round : Ae) (tm : T Value) : M (T Value) :=
  mv (T.get tm 6) fun v33 =>
  M.bind (oS (some v33) fun a => oS (some (.int .i64 0)) fun b => Cl.get (aBin E .geq 3 (.tmp 33) (.const (.int .i64 0))) a b) fun v34 =>
  setF 34 v34 tm fun tm1 =>
  M.pure tm1
theorem Rk : RegEq 106 74 Bh E2 Md := ⟨by kernel_rfl, fun _ _ _ _ _ _ _ _ _ => by kernel_rfl⟩
theorem PO : B5 F4 = some 34 := by kernel_rfl
def RN (E : Env) (call round : Ae) (tm : T Value) : M (T Value) :=
  mv (T.get tm 5) fun v37 =>
  mv (T.get tm 0) fun v38 =>
  M.bind (oS (some v38) fun a => kNil a) fun v39 =>
  M.bind (oS (some v39) fun a => kFld E 205 a 3) fun v40 =>
  M.bind (oS (some v40) fun a => A6 E 3 a) fun v41 =>
  M.bind (oS (some (.int .i64 8)) fun a => oS (some v41) fun b => Cl.get (aBin E .mul 3 (.const (.int .i64 8)) (.tmp 41)) a b) fun v42 =>
  mv (T.get tm 6) fun v43 =>
  M.bind (oS (some v42) fun a => oS (some v43) fun b => Cl.get (aBin E .shr 3 (.tmp 42) (.tmp 43)) a b) fun v44 =>
  M.bind (oS (some v44) fun a => Bz E 3 5 a) fun v45 =>
  M.bind (oS (seqP [(0, (some v45))]) fun ps => CS E 54 1 ps) fun v46 =>
  M.bind (oS (seqO [(some v37), (some v46)]) fun l => Bt E .append [54, 54] l) fun v47 =>
  mv (some v47) fun v5 =>
  setF 5 v5 tm fun tm1 =>
  M.pure tm1
theorem An_ : RegEq 106 74 Bh Jq RN := ⟨by kernel_rfl, fun _ _ _ _ _ _ _ _ _ => by kernel_rfl⟩
def SJ (E : Env) (call round : Ae) (tm : T Value) : M (T Value) :=
  mv (T.get tm 5) fun v48 =>
  M.bind (M.on (some (.func (.func 105) #[] #[])) fun f => M.on (seqO [(T.get tm 4), (some v48)]) fun l => B3 call round f l) fun v49 =>
  M.pure tm
theorem Y3 : RegEq 106 74 Bh GT SJ := ⟨by kernel_rfl, fun _ _ _ _ _ _ _ _ _ => by kernel_rfl⟩
def Sp (E : Env) (call round : Ae) (tm : T Value) : M (T Value) :=
  mv (T.get tm 6) fun v35 =>
  M.bind (oS (some v35) fun a => oS (some (.int .i64 8)) fun b => Cl.get (aBin E .sub 3 (.tmp 35) (.const (.int .i64 8))) a b) fun v36 =>
  mv (some v36) fun v6 =>
  setF 6 v6 tm fun tm1 =>
  M.pure tm1
theorem EJ_ : RegEq 106 74 Bh Kv Sp := ⟨by kernel_rfl, fun _ _ _ _ _ _ _ _ _ => by kernel_rfl⟩
def NY (E : Env) (call round : Ae) (tm : T Value) : M (T Value) :=
  M.bind (oS (T.get tm 4) fun a => kFld E 205 a 1) fun v50 =>
  M.bind (oS (some v50) fun a => A6 E 201 a) fun v51 =>
  setF 51 v51 tm fun tm1 =>
  mv (some (.int .i64 0)) fun v52 =>
  setF 52 v52 tm1 fun tm2 =>
  M.pure tm2
theorem Db_ : RegEq 106 74 Bh Hh NY := ⟨by kernel_rfl, fun _ _ _ _ _ _ _ _ _ => by kernel_rfl⟩
def Me (E : Env) (call round : Ae) (tm : T Value) : M (T Value) :=
  M.bind (oS (T.get tm 52) fun a => oS (some (.int .i64 8)) fun b => Cl.get (aBin E .lss 3 (.tmp 52) (.const (.int .i64 8))) a b) fun v53 =>
  setF 53 v53 tm fun tm1 =>
  M.pure tm1
theorem Pv : RegEq 106 74 Bh FG Me := ⟨by kernel_rfl, fun _ _ _ _ _ _ _ _ _ => by kernel_rfl⟩
theorem R7 : B5 FQ = some 53 := by kernel_rfl
def NB (E : Env) (call round : Ae) (tm : T Value) : M (T Value) :=
  mv (T.get tm 52) fun v54 =>
  M.bind (oS (T.get tm 51) fun a => oS (T.get tm 52) fun b => kIdx E 201 a b) fun v55 =>
  mv (some v54) fun v7 =>
  setF 7 v7 tm fun tm1 =>
  mv (some v55) fun v8 =>
  setF 8 v8 tm1 fun tm2 =>
  M.pure tm2
theorem XD : RegEq 106 74 Bh Jl NB := ⟨by kernel_rfl, fun _ _ _ _ _ _ _ _ _ => by kernel_rfl⟩
def Rq (E : Env) (call round : Ae) (tm : T Value) : M (T Value) :=
  M.bind (oS (T.get tm 3) fun a => A6 E 123 a) fun v73 =>
  M.bind (oS (T.get tm 2) fun a => oS (some v73) fun b => Bp E 123 a b) fun _ =>
  M.pure tm
theorem Ak_ : RegEq 106 74 Bh GK Rq := ⟨by kernel_rfl, fun _ _ _ _ _ _ _ _ _ => by kernel_rfl⟩
def NI (E : Env) (call round : Ae) (tm : T Value) : M (T Value) :=
  mv (T.get tm 7) fun v56 =>
  M.bind (oS (some (.int .i64 4)) fun a => oS (some v56) fun b => Cl.get (aBin E .mul 3 (.const (.int .i64 4)) (.tmp 56)) a b) fun v57 =>
  M.bind (M.on (T.get tm 3) fun a => M.on (onO (some v57) fun v => some (some v)) fun b => M.on (some none) fun c => BM E 123 a b c) fun v58 =>
  mv (T.get tm 8) fun v59 =>
  M.bind (oS (some v59) fun a => oS (some (.int .u64 24)) fun b => Cl.get (aBin E .shr 199 (.tmp 59) (.const (.int .u64 24))) a b) fun v60 =>
  M.bind (oS (some v60) fun a => Bz E 199 5 a) fun v61 =>
  mv (T.get tm 8) fun v62 =>
  M.bind (oS (some v62) fun a => oS (some (.int .u64 16)) fun b => Cl.get (aBin E .shr 199 (.tmp 62) (.const (.int .u64 16))) a b) fun v63 =>
  M.bind (oS (some v63) fun a => Bz E 199 5 a) fun v64 =>
  mv (T.get tm 8) fun v65 =>
  M.bind (oS (some v65) fun a => oS (some (.int .u64 8)) fun b => Cl.get (aBin E .shr 199 (.tmp 65) (.const (.int .u64 8))) a b) fun v66 =>
  M.bind (oS (some v66) fun a => Bz E 199 5 a) fun v67 =>
  mv (T.get tm 8) fun v68 =>
  M.bind (oS (some v68) fun a => Bz E 199 5 a) fun v69 =>
  M.bind (oS (seqP [(0, (some v61)), (1, (some v64)), (2, (some v67)), (3, (some v69))]) fun ps => CS E 54 4 ps) fun v70 =>
  M.bind (oS (seqO [(some v58), (some v70)]) fun l => Bt E .copy [54, 54] l) fun v71 =>
  M.pure tm
theorem VJ : RegEq 106 74 Bh Jz NI := ⟨by kernel_rfl, fun _ _ _ _ _ _ _ _ _ => by kernel_rfl⟩
theorem Zs : ∃ k, MD = .code .ret :: k := ⟨MD.tail, by kernel_rfl⟩
def QH (E : Env) (call round : Ae) (tm : T Value) : M (T Value) :=
  M.bind (oS (T.get tm 52) fun a => oS (some (.int .i64 1)) fun b => Cl.get (aBin E .add 3 (.tmp 52) (.const (.int .i64 1))) a b) fun v72 =>
  mv (some v72) fun v52 =>
  setF 52 v52 tm fun tm1 =>
  M.pure tm1
theorem BE_ : RegEq 106 74 Bh KD QH := ⟨by kernel_rfl, fun _ _ _ _ _ _ _ _ _ => by kernel_rfl⟩
def GM : Nat := BK Tryz.f61
def Nw : Code := Tryz.f61.body.getD .skip
theorem QR : envS.fn.get 61 = some Tryz.f61 := by kernel_rfl
theorem Ut {a0 : Value} {n : Nat} {s : St} {Q : Value → St → Prop} (h : ∀ tm, T.get tm 0 = some a0 → W (runF envS n ⟨61, 10, GM, tm, [.code Nw], .run, .normal, none⟩) (s.cxN cxN) fun p s1 => Q p.1 (s1.cxN s.cx)) : W (AJ envS (runF envS n) 61 [a0]) s Q :=
 W.call (by kernel_rfl) (by kernel_rfl) QR (by kernel_rfl) rfl rfl (by simp) (h _ (by kernel_rfl))
theorem Uw : Tryz.f61.results.toList = [.cell 2 123] := by kernel_rfl
def MC : List Item := skim 64 [.code Nw]
def JW : List Item := skim 64 MC.tail
theorem Xc : skim 64 MC.tail = JW := by kernel_rfl
def J9 : List Item := skim 64 JW.tail
theorem ZP : skim 64 JW.tail = J9 := by kernel_rfl
def JH : List Item := skim 64 J9.tail
theorem Fx_ : skim 64 J9.tail = JH := by kernel_rfl
def LX : List Item := skim 64 JH.tail
theorem AN_ : skim 64 JH.tail = LX := by kernel_rfl
def Ph (E : Env) (call round : Ae) (tm : T Value) : M (T Value) :=
  M.bind (BZ E 123) fun v2 =>
  setF 2 v2 tm fun tm1 =>
  M.pure tm1
theorem Xo : RegEq 61 10 GM MC Ph := ⟨by kernel_rfl, fun _ _ _ _ _ _ _ _ _ => by kernel_rfl⟩
def Pm (E : Env) (call round : Ae) (tm : T Value) : M (T Value) :=
  M.bind (M.on (some (.func (.func 104) #[] #[])) fun f => M.on (seqO []) fun l => B3 call round f l) fun v4 =>
  mv (some v4) fun v3 =>
  setF 3 v3 tm fun tm1 =>
  M.pure tm1
theorem UP : RegEq 61 10 GM JW Pm := ⟨by kernel_rfl, fun _ _ _ _ _ _ _ _ _ => by kernel_rfl⟩
def Q7 (E : Env) (call round : Ae) (tm : T Value) : M (T Value) :=
  mv (T.get tm 3) fun v5 =>
  mv (T.get tm 0) fun v6 =>
  M.bind (M.on (some (.func (.func 105) #[] #[])) fun f => M.on (seqO [(some v5), (some v6)]) fun l => B3 call round f l) fun v7 =>
  M.pure tm
theorem CN_ : RegEq 61 10 GM J9 Q7 := ⟨by kernel_rfl, fun _ _ _ _ _ _ _ _ _ => by kernel_rfl⟩
def N3 (E : Env) (call round : Ae) (tm : T Value) : M (T Value) :=
  mv (T.get tm 3) fun v8 =>
  M.bind (M.on (some (.func (.func 106) #[] #[])) fun f => M.on (seqO [(some v8)]) fun l => B3 call round f l) fun v9 =>
  M.bind (oS (T.get tm 2) fun a => oS (some v9) fun b => Bp E 123 a b) fun _ =>
  M.pure tm
theorem FC_ : RegEq 61 10 GM JH N3 := ⟨by kernel_rfl, fun _ _ _ _ _ _ _ _ _ => by kernel_rfl⟩
theorem Gt_ : ∃ k, LX = .code .ret :: k := ⟨LX.tail, by kernel_rfl⟩
def J8 : Nat := BK Tryz.f23
def QW : Code := Tryz.f23.body.getD .skip
theorem RJ : envS.fn.get 23 = some Tryz.f23 := by kernel_rfl
theorem Tn {a0 : Value} {n : Nat} {s : St} {Q : Value → St → Prop} (h : ∀ tm, T.get tm 0 = some a0 → W (runF envS n ⟨23, 9, J8, tm, [.code QW], .run, .normal, none⟩) (s.cxN cxN) fun p s1 => Q p.1 (s1.cxN s.cx)) : W (AJ envS (runF envS n) 23 [a0]) s Q :=
 W.call (by kernel_rfl) (by kernel_rfl) RJ (by kernel_rfl) rfl rfl (by simp) (h _ (by kernel_rfl))
theorem Th : Tryz.f23.results.toList = [.cell 2 59] := by kernel_rfl
def MT : List Item := skim 64 [.code QW]
def Ir : List Item := skim 64 MT.tail
theorem EO_ : skim 64 MT.tail = Ir := by kernel_rfl
def H9 : List Item := skim 64 Ir.tail
theorem WP : skim 64 Ir.tail = H9 := by kernel_rfl
def KB : List Item := skim 64 H9.tail
theorem EX_ : skim 64 H9.tail = KB := by kernel_rfl
def O5 (E : Env) (call round : Ae) (tm : T Value) : M (T Value) :=
  M.bind (BZ E 59) fun v2 =>
  setF 2 v2 tm fun tm1 =>
  M.pure tm1
theorem Gf_ : RegEq 23 9 J8 MT O5 := ⟨by kernel_rfl, fun _ _ _ _ _ _ _ _ _ => by kernel_rfl⟩
def R3 (E : Env) (call round : Ae) (tm : T Value) : M (T Value) :=
  mv (T.get tm 0) fun v4 =>
  M.bind (M.on (some (.func (.func 61) #[] #[])) fun f => M.on (seqO [(some v4)]) fun l => B3 call round f l) fun v5 =>
  M.bind (BZ E 123) fun v3 =>
  setF 3 v3 tm fun tm1 =>
  M.bind (oS (some v3) fun a => oS (some v5) fun b => Bp E 123 a b) fun _ =>
  M.pure tm1
theorem CB_ : RegEq 23 9 J8 Ir R3 := ⟨by kernel_rfl, fun _ _ _ _ _ _ _ _ _ => by kernel_rfl⟩
def PW (E : Env) (call round : Ae) (tm : T Value) : M (T Value) :=
  M.bind (M.on (T.get tm 3) fun a => M.on (some none) fun b => M.on (onO (some (.int .i64 16)) fun v => some (some v)) fun c => BM E 123 a b c) fun v6 =>
  M.bind (oS (some v6) fun a => CR E 59 a) fun v7 =>
  M.bind (oS (some v7) fun a => A6 E 59 a) fun v8 =>
  M.bind (oS (T.get tm 2) fun a => oS (some v8) fun b => Bp E 59 a b) fun _ =>
  M.pure tm
theorem Zw : RegEq 23 9 J8 H9 PW := ⟨by kernel_rfl, fun _ _ _ _ _ _ _ _ _ => by kernel_rfl⟩
theorem S9 : ∃ k, KB = .code .ret :: k := ⟨KB.tail, by kernel_rfl⟩
structure Dig (s : St) (D : Nat) (d : DS) : Prop where
  made : Own s D 0 (.bool true)
  st : Al s D 1 (st8V d.st).toList
  w : Al s D 9 (u8l d.w)
  n : Own s D 73 (.int .i64 (d.n : Nat))
  len : d.w.length = 64
  byt : Byt d.w
  ok : d.st.Ok
theorem CO (r : Sha.St8) : (st8V r).toList.length = 8 := rfl
theorem Dig.ext0 {F : Nat → Prop} {s s' : St} {D : Nat} {d : DS} (h : Dig s D d) (e : Ext F Non s s') : Dig s' D d := ⟨h.made.ext0 e, h.st.ext0 e, h.w.ext0 e, h.n.ext0 e, h.len, h.byt, h.ok⟩
theorem Dig.same {s s' : St} {D : Nat} {d : DS} (h : Dig s D d) (hm : s'.mem = s.mem) (hn : s'.next = s.next) : Dig s' D d :=
 ⟨h.made.same hm hn, fun i v e => (h.st i v e).same hm hn, fun i v e => (h.w i v e).same hm hn, h.n.same hm hn, h.len, h.byt, h.ok⟩
theorem ZZ {r : Sha.St8} (h : r.Ok) : u32s (st8V r).toList = some [r.a, r.b, r.c, r.d, r.e, r.f, r.g, r.h] := by
 have e : ∀ (n : Nat) (l : List Value) (ns : List Nat), n < 4294967296 → u32s l = some ns → u32s (.int .u32 (n : Int) :: l) = some (n :: ns) := fun n l ns hn hl => by
   show (match Value.int .u32 (.ofNat n), u32s l with | .int .u32 (.ofNat n), some ns => bif Nat.blt n 4294967296 then some (n :: ns) else none | _, _ => none) = _
   rw [hl]
   simp -implicitDefEqProofs only [Bv hn, cond_true]
 exact e _ _ _ h.a (e _ _ _ h.b (e _ _ _ h.c (e _ _ _ h.d (e _ _ _ h.e (e _ _ _ h.f (e _ _ _ h.g (e _ _ _ h.h rfl)))))))
theorem W.next {s : St} {r : Sha.St8} {b o c : Nat} {l : List Nat} {Q : Value → St → Prop} (hr : r.Ok) (h : Row s b o (u8l l)) (hl : l.length = 64) (hb : Byt l)
   (q : ∀ s1, s1.mem = s.mem → s1.next = s.next → Ext (In b o 64) Non s s1 → Q (.agg (st8V (Sha.next r fun j => l.getD j 0))) s1) : W (Dy [.agg (st8V r), .slice (some ⟨b, o, none⟩) 64 c]) s Q := by
 refine W.on (ZZ hr) (W.chk (by decide) (W.bind ?_))
 have h2 : l.length = (u8l l).length := (A4 l).symm
 show W (Am.rdL 64 ⟨b, o, none⟩) s _
 rw [← hl]
 refine W.rdB h fun s1 e1 e2 e3 => W.on (PP hb) ?_
 show W (GZ r l st8M) s1 Q
 rw [Iw, JG]
 rw [hl] at e3
 exact W.pure (q s1 e1 e2 e3)
theorem Oi : fldN envS 205 0 = some (0, 1, false) := by kernel_rfl
theorem L8 : fldN envS 205 1 = some (1, 8, true) := by kernel_rfl
theorem Sa : fldN envS 205 2 = some (9, 64, true) := by kernel_rfl
theorem If : fldN envS 205 3 = some (73, 1, false) := by kernel_rfl
theorem RE : ptrT envS 156 = true := by kernel_rfl
theorem Sg : tyS envS 4 = some (1, false) := by kernel_rfl
theorem G1 : tyS envS 3 = some (1, false) := by kernel_rfl
theorem RU : arrN envS 203 = some (64, 1) := by kernel_rfl
theorem Gq : tyS envS 201 = some (8, true) := by kernel_rfl
theorem Bs.srcK {s : St} {v : Value} {l : List Nat} (h : Bs s v l) {k : Nat} (hk : k ≤ l.length) : ∃ s1, srcL 1 v k s = .some (u8l (l.take k)) s1 ∧ s1.mem = s.mem ∧ s1.next = s.next ∧ Ext (BsF v) Non s s1 := by
 rcases h with ⟨rfl, rfl⟩ | ⟨b, o, c, rfl, _, _, h3⟩
 · simp at hk
   subst hk
   exact ⟨s, rfl, rfl, rfl, Ext.refl s⟩
 · have h4 : Row s b o (u8l (l.take k)) := by
     have := h3.take (n := k)
     rw [← List.map_take] at this
     exact this
   have hl : (l.take k).length = k := by rw [List.length_take]; omega
   obtain ⟨a, s1, e, rfl, h1, h2, h5⟩ := W.rdB (Q := fun a s1 => a = u8l (l.take k) ∧ s1.mem = s.mem ∧ s1.next = s.next ∧ Ext (In b o (l.take k).length) Non s s1) h4 fun s1 e1 e2 e3 => ⟨rfl, e1, e2, e3⟩
   rw [hl] at e h5
   refine ⟨s1, ?_, h1, h2, ?_⟩
   · show Am.rdL (k * 1) ⟨b, o, none⟩ s = _
     rw [Nat.mul_one]
     exact e
   · refine ⟨h5.nxt, h5.lim, h5.cx, h5.mem, ?_, h5.wr⟩
     obtain ⟨d, p1, p2⟩ := h5.rd
     exact ⟨d, p1, fun x hx => ⟨(p2 x hx).1, by have := (p2 x hx).2; exact ⟨this.1, by have := this.2; omega⟩⟩⟩
theorem DS.k_le (d : DS) (b : List Nat) : d.k b ≤ b.length ∧ d.n % 64 + d.k b ≤ 64 := by
 unfold DS.k
 have h1 : Nat.min (64 - d.n % 64) b.length ≤ 64 - d.n % 64 := Nat.min_le_left _ _
 have h2 : Nat.min (64 - d.n % 64) b.length ≤ b.length := Nat.min_le_right _ _
 have h3 : d.n % 64 < 64 := Nat.mod_lt _ (by decide)
 exact ⟨h2, by omega⟩
theorem DS.w'_len (d : DS) (b : List Nat) (h : d.w.length = 64) : (d.w' b).length = 64 := by
 obtain ⟨h1, h2⟩ := d.k_le b
 unfold DS.w'
 rw [List.length_append, List.length_append, List.length_take, List.length_take, List.length_drop, h]
 omega
theorem DS.w'_byt (d : DS) (b : List Nat) (h : Byt d.w) (hb : Byt b) : Byt (d.w' b) := fun x hx => by
 unfold DS.w' at hx
 rcases List.mem_append.1 hx with hx | hx
 · exact h x (List.mem_of_mem_take hx)
 · rcases List.mem_append.1 hx with hx | hx
   · exact hb x (List.mem_of_mem_take hx)
   · exact h x (List.mem_of_mem_drop hx)
theorem Dig.lay {F : Nat → Prop} {s s2 : St} {D : Nat} {d : DS} {b : List Nat} (h : Dig s D d) (x : Ext F (In D (0 + 9 + d.n % 64 * 1) (d.k b * 1)) s s2) (r : Al s2 D (0 + 9 + d.n % 64 * 1) (u8l (b.take (d.k b)))) (hb : Byt b) : Dig s2 D ⟨d.st, d.w' b, d.n⟩ := by
 obtain ⟨h1, h2⟩ := d.k_le b
 have hm : d.n % 64 < 64 := Nat.mod_lt _ (by decide)
 have hkl : (b.take (d.k b)).length = d.k b := by rw [List.length_take]; omega
 refine ⟨h.made.ext x fun q => by have := q.1; omega, h.st.ext x fun i hi q => ?_, ?_, h.n.ext x fun q => by have := q.2; omega, d.w'_len b h.len, d.w'_byt b h.byt hb, h.ok⟩
 · have h3 : i < 8 := hi
   have := q.1; omega
 · show Al s2 D 9 (u8l (d.w' b))
   have e : u8l (d.w' b) = u8l (d.w.take (d.n % 64)) ++ (u8l (b.take (d.k b)) ++ u8l (d.w.drop (d.n % 64 + d.k b))) := by
     unfold DS.w' u8l
     rw [List.map_append, List.map_append]
   have hl1 : (u8l (d.w.take (d.n % 64))).length = d.n % 64 := by rw [A4, List.length_take, h.len]; omega
   have hw1 : Al s D 9 (u8l (d.w.take (d.n % 64))) := by
     have := h.w.take (n := d.n % 64)
     rw [← List.map_take] at this
     exact this
   have hw3 : Al s D (9 + (d.n % 64 + d.k b)) (u8l (d.w.drop (d.n % 64 + d.k b))) := by
     have := h.w.drop (n := d.n % 64 + d.k b)
     rw [← List.map_drop] at this
     exact this
   rw [e]
   refine Al.append (hw1.ext x fun i hi q => ?_) (Al.append ?_ ?_)
   · rw [hl1] at hi
     have := q.1; omega
   · rw [hl1, show 9 + d.n % 64 = 0 + 9 + d.n % 64 * 1 by omega]
     exact r
   · rw [hl1, A4, hkl, Nat.add_assoc]
     refine hw3.ext x fun i hi q => ?_
     have := q.2; omega
abbrev DigF (D : Nat) (v : Value) : Nat → Prop := fun x => In D 0 74 x ∨ BsF v x
theorem Dig.setN {F : Nat → Prop} {s s2 : St} {D : Nat} {d : DS} (h : Dig s D d) {m : Nat} (x : Ext F (In D 73 1) s s2) (o : Own s2 D 73 (.int .i64 (m : Nat))) : Dig s2 D ⟨d.st, d.w, m⟩ :=
 ⟨h.made.ext x fun q => by have := q.1; omega, h.st.ext x fun i hi q => by have h3 : i < 8 := hi; have := q.1; omega, h.w.ext x fun i hi q => by rw [A4, h.len] at hi; have := q.1; omega, o, h.len, h.byt, h.ok⟩
theorem Dig.setSt {F : Nat → Prop} {s s2 : St} {D : Nat} {d : DS} (h : Dig s D d) {r : Sha.St8} (hr : r.Ok) (x : Ext F (In D 1 8) s s2) (o : Al s2 D 1 (st8V r).toList) : Dig s2 D ⟨r, d.w, d.n⟩ :=
 ⟨h.made.ext x fun q => by have := q.1; omega, o, h.w.ext x fun i hi q => by have := q.2; omega, h.n.ext x fun q => by have := q.2; omega, h.len, h.byt, hr⟩
theorem Row.same' {s s' : St} {b o : Nat} {l : List Value} (h : Row s b o l) (hm : s'.mem = s.mem) (hn : s'.next = s.next) : Row s' b o l := fun i v e => (h i v e).same hm hn
theorem Dn_ {D : Nat} {v0 : Value} {Q : Value × FrameMode → St → Prop} {s0 : St} (hb0 : s0.lim ≤ s0.next) (hcx : s0.cx = .cx none (some [])) (hdis : ∀ x, BsF v0 x → ¬ In D 0 74 x) : ∀ (f n : Nat) (tm : T Value) (s : St) (td : List Item) (d : DS) (b : List Nat) (v : Value), b.length ≤ f → 20 * f + 60 ≤ n → skim 64 td = EY → Ext (DigF D v0) (In D 0 74) s0 s → Dig s D d → d.n + b.length ≤ 1000000000 → (b ≠ [] → Bn s v b) → Bs s v b → Byt b → (∀ x, BsF v x → BsF v0 x) →
   T.get tm 0 = some (.pointer (some ⟨D, 0, none⟩)) → T.get tm 1 = some v → (∀ s1, Ext (DigF D v0) (In D 0 74) s0 s1 → Dig s1 D (DS.write f d b) → Q (.tuple #[], .run) s1) →
   W (runF envS n ⟨105, Tg, Cx, tm, td, .run, .normal, none⟩) s Q := by
 intro f
 induction f with
 | zero =>
   intro n tm s td d b v hf hn hT hx hd hmax hbn hbs hbyt hv h0 h1 q
   have hb : b = [] := List.eq_nil_of_length_eq_zero (by omega)
   subst hb
   refine LC.w hT (by omega) ?_
   simp -implicitDefEqProofs only [J5, AK, W_oS, AI, W_mv, AM, By, Bo, Bg, Lx, h1, hbs.len G5]
   refine W.cond (v := false) MA LF (by simp [T.get_set]) (by omega) (fun h => by cases h) fun _ => ?_
   refine W.end' (rs := []) (vs := []) Qu (.inr (by kernel_rfl)) (by omega) ML R4 (hx.cx.trans hcx) rfl ?_
   exact q s hx hd
 | succ f ih =>
   intro n tm s td d b v hf hn hT hx hd hmax hbn hbs hbyt hv h0 h1 q
   by_cases hbe : b.length = 0
   · have hb : b = [] := List.eq_nil_of_length_eq_zero hbe
     subst hb
     refine LC.w hT (by omega) ?_
     simp -implicitDefEqProofs only [J5, AK, W_oS, AI, W_mv, AM, By, Bo, Bg, Lx, h1, hbs.len G5]
     refine W.cond (v := false) MA LF (by simp [T.get_set]) (by omega) (fun h => by cases h) fun _ => ?_
     refine W.end' (rs := []) (vs := []) Qu (.inr (by kernel_rfl)) (by omega) ML R4 (hx.cx.trans hcx) rfl ?_
     exact q s hx hd
   · have hbne : b ≠ [] := fun e => hbe (by rw [e]; rfl)
     obtain ⟨hk1, hk2⟩ := d.k_le b
     have hm : d.n % 64 < 64 := Nat.mod_lt _ (by decide)
     have hk0 : 0 < d.k b := by
       unfold DS.k
       exact Nat.lt_min.2 ⟨by omega, by omega⟩
     refine LC.w hT (by omega) ?_
     simp -implicitDefEqProofs only [J5, AK, W_oS, AI, W_mv, AM, By, Bo, Bg, Lx, h1, hbs.len G5]
     refine W.cond (v := true) MA LF (by simp [T.get_set]; omega) (by omega) (fun _ => ?_) fun h => by cases h
     refine T5.w Fd_ (by omega) ?_
     simp -implicitDefEqProofs only [Ow, AK, W_oS, AI, W_mv, AM, T.get_set, reduceIte, Br, reduceCtorEq, ↓reduceIte, h0, BW If (by decide : 0 < 1)]
     refine W.load1 G1 hd.n.at' ?_
     have hxa : Ext (DigF D v0) (In D 0 74) s0 (s.rdN (D + (0 + 73))) := hx.trans (Ext.rdN (F := DigF D v0) s _ fun _ => .inl ⟨by omega, by omega⟩) hb0 (fun _ _ h => h) fun _ _ h => h
     have hda : Dig (s.rdN (D + (0 + 73))) D d := hd.same rfl rfl
     have hba : Bn (s.rdN (D + (0 + 73))) v b := (hbn hbne).same rfl rfl
     generalize s.rdN (D + (0 + 73)) = sa at hxa hda hba ⊢
     simp -implicitDefEqProofs only [Rg]
     refine Dg_.w DT_ (by omega) ?_
     simp -implicitDefEqProofs only [QA, AK, W_oS, W_on, AI, W_mv, AM, T.get_set, By, Bo, Bg, reduceIte, Br, Nat.reduceEqDiff, reduceCtorEq, ↓reduceIte, h0, h1, BW Sa (by decide : 0 < 64), I9 (lo := some (.int .i64 ((d.n % 64 : Nat) : Int))) (hi := none) (l := d.n % 64) (h := 64) RU (Ca (by decide)) rfl rfl (by omega) (Nat.le_refl _)]
     rw [if_neg (by omega)]
     obtain ⟨p, c, rfl⟩ := hba.bs.sl
     refine W.copy G7 rfl (hba.bs.srcK hk1) (by rw [A4, List.length_take]; show Nat.min (d.k b) b.length = d.k b * 1; rw [Nat.mul_one]; exact Nat.min_eq_left hk1) (D3 _) (fun i hi => ?_) fun sb nb xb rb => ?_
     · have hi' : i < d.k b * 1 := hi
       have := hda.w (d.n % 64 + i) (u8 (d.w[d.n % 64 + i]'(by rw [hda.len]; omega))) (by rw [List.getElem?_map, List.getElem?_eq_getElem (by rw [hda.len]; omega)]; rfl)
       exact ⟨_, by rw [show 0 + 9 + d.n % 64 * 1 + i = 9 + (d.n % 64 + i) by omega]; exact this⟩
     have hdisb : ∀ x, BsF (.slice p b.length c) x → ¬ In D 0 74 x := fun x hx' => hdis x (hv x hx')
     have hxb : Ext (DigF D v0) (In D 0 74) s0 sb := hxa.trans xb hb0 (fun x _ h => by
       rcases h with h | h
       · exact .inr (hv x h)
       · exact .inl ⟨by have := h.1; omega, by have := h.2; have h3 : d.k b ≤ 64 := by omega
                                               have h4 : x < D + (0 + 9 + d.n % 64 * 1) + d.k b * 1 := h.2
                                               omega⟩) fun x _ h => ⟨by have := h.1; omega, by have h4 : x < D + (0 + 9 + d.n % 64 * 1) + d.k b * 1 := h.2
                                                                                               omega⟩
     have hdb : Dig sb D ⟨d.st, d.w' b, d.n⟩ := hda.lay xb rb hbyt
     have hbb : Bn sb (.slice p b.length c) b := hba.ext xb fun x hx' h => hdisb x hx' ⟨by have := h.1; omega, by have h4 : x < D + (0 + 9 + d.n % 64 * 1) + d.k b * 1 := h.2
                                                                                                                  omega⟩
     clear xb rb hda hba hxa nb
     have hkmin : Nat.min (64 - d.n % 64) b.length = d.k b := rfl
     simp -implicitDefEqProofs only [hkmin]
     refine Za.w GZ_ (by omega) ?_
     simp -implicitDefEqProofs only [Rz, AK, W_on, AI, W_mv, AM, T.get_set, Bg, reduceIte, Nat.reduceEqDiff, ↓reduceIte, h1]
     refine W.cut hbb G5 (i := d.k b) (j := b.length) rfl rfl hk1 (Nat.le_refl _) fun v1 hv1 hF1 => ?_
     rw [List.take_length] at hv1
     refine Hp_.w Wq (by omega) ?_
     simp -implicitDefEqProofs only [Oh, AK, W_oS, AI, W_mv, T.get_set, reduceIte, Br, Nat.reduceEqDiff, reduceCtorEq, ↓reduceIte, h0, BW If (by decide : 0 < 1)]
     refine W.load1 G1 hdb.n.at' ?_
     have en : wrap64 ((d.n : Nat) + (d.k b : Nat) : Int) = ((d.n + d.k b : Nat) : Int) := by
       rw [Eb (by omega) (by omega)]; simp
     simp -implicitDefEqProofs only [Gw, en]
     have hxb1 : Ext (DigF D v0) (In D 0 74) s0 (sb.rdN (D + (0 + 73))) := hxb.trans (Ext.rdN (F := DigF D v0) sb _ fun _ => .inl ⟨by omega, by omega⟩) hb0 (fun _ _ h => h) fun _ _ h => h
     have hdb1 : Dig (sb.rdN (D + (0 + 73))) D ⟨d.st, d.w' b, d.n⟩ := hdb.same rfl rfl
     have hv2 : Bn (sb.rdN (D + (0 + 73))) v1 (b.drop (d.k b)) := hv1.same rfl rfl
     generalize sb.rdN (D + (0 + 73)) = sc at hxb1 hdb1 hv2 ⊢
     refine W.store1 G1 rfl hdb1.n fun se ne xe oe => ?_
     have hxe : Ext (DigF D v0) (In D 0 74) s0 se := hxb1.trans xe hb0 (fun x _ h => .inl ⟨by have := h.1; omega, by have := h.2; omega⟩) fun x _ h => ⟨by have := h.1; omega, by have := h.2; omega⟩
     have hde : Dig se D ⟨d.st, d.w' b, d.n + d.k b⟩ := hdb1.setN xe oe
     have hve : Bn se v1 (b.drop (d.k b)) := hv2.ext xe fun x hx' h => hdisb x (hF1 x hx') ⟨by have := h.1; omega, by have := h.2; omega⟩
     clear xe oe hdb1 hv2 hxb1 hdb hxb
     refine YW.w XL (by omega) ?_
     have ea : wrap64 ((d.n % 64 : Nat) + (d.k b : Nat) : Int) = ((d.n % 64 + d.k b : Nat) : Int) := by
       rw [Eb (by omega) (by omega)]; simp
     simp -implicitDefEqProofs only [SN, AK, W_oS, AI, W_mv, AM, T.get_set, reduceIte, Nat.reduceEqDiff, ↓reduceIte, Gw, BQ_, ea]
     have hlen1 : (b.drop (d.k b)).length ≤ f := by rw [List.length_drop]; omega
     have hmax1 : d.n + d.k b + (b.drop (d.k b)).length ≤ 1000000000 := by rw [List.length_drop]; omega
     have hby1 : Byt (b.drop (d.k b)) := fun x hx' => hbyt x (List.mem_of_mem_drop hx')
     by_cases hfull : d.n % 64 + d.k b = 64
     · refine W.cond (v := true) Nt RX (by simp [T.get_set]; omega) (by omega) (fun _ => ?_) fun h => by cases h
       refine Y0.w T4 (by omega) ?_
       have hde' : Dig (dSt se.mem se.next) D ⟨d.st, d.w' b, d.n + d.k b⟩ := hde.same rfl rfl
       simp -implicitDefEqProofs only [Nf, T.get_set, Nat.reduceEqDiff, ↓reduceIte, h0, BD, QD, CX]
       rw [W_dq fun s Q => Br (s := s) ⟨D, 0, none⟩ Q, W_dq fun s Q => BW (s := s) L8 (by decide : 0 < 8) Q]
       refine W.dloadA Gq hde'.st.row (CO _) fun mem1 rd1 hm1 hr1 => ?_
       rw [hm1]
       simp -implicitDefEqProofs only [CX]
       rw [W_dq fun s Q => Br (s := s) ⟨D, 0, none⟩ Q, W_dq fun s Q => BW (s := s) Sa (by decide : 0 < 64) Q, W_dq fun s Q => I9 (s := s) (lo := none) (hi := none) (l := 0) (h := 64) RU (Ca (by decide)) rfl rfl (Nat.zero_le _) (Nat.le_refl _) Q]
       simp -implicitDefEqProofs only [By, Bo, Bg, QD]
       refine W.dop ?_
       rw [B4]
       refine W.orc (m := Dy) (by kernel_rfl) ?_
       refine W.next hde.ok (hde'.w.row.same' rfl rfl) hde'.len hde'.byt fun s1 m1 n1 x1 => ⟨In D 9 64, x1, fun rd2 hr2 => ?_⟩
       have m1' : s1.mem = se.mem := m1
       have n1' : s1.next = se.next := n1
       rw [m1', n1']
       simp -implicitDefEqProofs only [CX]
       rw [W_dq fun s Q => Br (s := s) ⟨D, 0, none⟩ Q, W_dq fun s Q => BW (s := s) L8 (by decide : 0 < 8) Q]
       rw [AI]
       refine ⟨Jw (by simp) (by simp), ?_⟩
       refine W.cast (Hc_ _ _ _ _ _ _ _ _ _ _ _ _ _ _ _ _ _) ?_
       simp -implicitDefEqProofs only [AK, W_oS, AI]
       generalize hs' : (⟨(dSt se.mem se.next).mem, (dSt se.mem se.next).next, se.lim, _, _, se.cx⟩ : St) = s'
       have hx' : Ext (DigF D v0) (In D 0 74) s0 s' := by
         rw [← hs']
         refine hxe.trans (Ext.draw (F := fun x => In D 0 74 x) (Nat.le_refl _) (fun _ _ => rfl) (by simp) (by
           simp -implicitDefEqProofs only [List.mem_cons, List.not_mem_nil, or_false]
           rintro m (rfl | rfl | rfl | rfl | rfl | rfl | rfl | rfl | rfl | rfl | rfl | rfl) x hx _ <;> first | (have h3 := hr1 _ hx; exact ⟨by have := h3.1; omega, by have := h3.2; omega⟩) | (have h3 := (hr2 _ hx).2; exact ⟨by have := h3.1; omega, by have := h3.2; omega⟩) | (cases hx))) hb0 (fun _ _ h => .inl h) fun _ _ h => h.elim
       have hdf : Dig s' D ⟨d.st, d.w' b, d.n + d.k b⟩ := by rw [← hs']; exact hde.same rfl rfl
       have hvf : Bn s' v1 (b.drop (d.k b)) := by rw [← hs']; exact hve.same rfl rfl
       clear hs' hr1 hr2 hm1 m1 n1 m1' n1' x1
       have hr : (Sha.next d.st fun j => (d.w' b).getD j 0).Ok := Sha.plus_ok _ _
       have hst : d.step b = ⟨Sha.next d.st fun j => (d.w' b).getD j 0, d.w' b, d.n + d.k b⟩ := by unfold DS.step; rw [if_pos hfull]
       generalize (Sha.next d.st fun j => (d.w' b).getD j 0) = r at hr hst ⊢
       refine W.store Gq rfl rfl (fun i hi => ⟨_, by rw [show 0 + 1 + i = 1 + i by omega]; exact hdf.st i _ (List.getElem?_eq_getElem hi)⟩) fun sf nf xf rf => ?_
       have hxf : Ext (DigF D v0) (In D 0 74) s0 sf := hx'.trans xf hb0 (fun x _ h => .inl ⟨by have := h.1; omega, by have := h.2; omega⟩) fun x _ h => ⟨by have := h.1; omega, by have := h.2; omega⟩
       have hdg : Dig sf D ⟨r, d.w' b, d.n + d.k b⟩ := hdf.setSt hr xf rf
       have hvg : Bn sf v1 (b.drop (d.k b)) := hvf.ext xf fun x hx' h => hdisb x (hF1 x hx') ⟨by have := h.1; omega, by have := h.2; omega⟩
       refine ih _ _ _ _ ⟨r, d.w' b, d.n + d.k b⟩ (b.drop (d.k b)) v1 hlen1 (by omega) EV_ hxf hdg hmax1 (fun _ => hvg) hvg.bs hby1 (fun x hx' => hv x (hF1 x hx')) (by simp [T.get_set, h0]) (by simp [T.get_set]) fun s1 x1 d1 => q s1 x1 ?_
       unfold DS.write
       rw [if_neg hbe, hst]
       exact d1
     · refine W.cond (v := false) Nt RX (by simp [T.get_set]; omega) (by omega) (fun h => by cases h) fun _ => ?_
       refine ih _ _ _ _ ⟨d.st, d.w' b, d.n + d.k b⟩ (b.drop (d.k b)) v1 hlen1 (by omega) Cv_ hxe hde hmax1 (fun _ => hve) hve.bs hby1 (fun x hx' => hv x (hF1 x hx')) (by simp [T.get_set, h0]) (by simp [T.get_set]) fun s1 x1 d1 => q s1 x1 ?_
       have : d.step b = ⟨d.st, d.w' b, d.n + d.k b⟩ := by unfold DS.step; rw [if_neg hfull]
       unfold DS.write
       rw [if_neg hbe, this]
       exact d1
theorem QE {D n : Nat} {v : Value} {Q : Value → St → Prop} {s : St} {d : DS} {b : List Nat} (hbd : s.lim ≤ s.next) (hdis : ∀ x, BsF v x → ¬ In D 0 74 x) (hd : Dig s D d) (hmax : d.n + b.length ≤ 1000000000) (hbn : b ≠ [] → Bn s v b) (hbs : Bs s v b) (hbyt : Byt b) (hn : 20 * b.length + 100 ≤ n)
   (q : ∀ s1, Ext (DigF D v) (In D 0 74) s s1 → Dig s1 D (DS.write b.length d b) → Q (.tuple #[]) s1) : W (AJ envS (runF envS n) 105 [.pointer (some ⟨D, 0, none⟩), v]) s Q := by
 refine Aq_ fun tm h0 h1 => ?_
 have hd' : Dig (s.cxN cxN) D d := hd.same rfl rfl
 refine Vc.w rfl (by omega) ?_
 simp -implicitDefEqProofs only [Sv, AK, W_oS, W_on, AI, W_mv, AM, reduceIte, Dr, Di, Do, Df, Dk, Br, reduceCtorEq, ↓reduceIte, h0, I2 RE, BW Oi (by decide : 0 < 1)]
 refine W.load1 Sg hd'.made.at' ?_
 simp -implicitDefEqProofs only [MU]
 refine W.cond (v := false) Wb VZ (by simp [T.get_set]) (by omega) (fun h => by cases h) fun _ => ?_
 refine Dn_ (s0 := s.cxN cxN) (v0 := v) hbd rfl hdis b.length _ _ _ _ d b v (Nat.le_refl _) (by omega) Uv (Ext.rdN (F := DigF D v) _ _ fun _ => .inl ⟨by omega, by omega⟩) (hd'.same rfl rfl) hmax (fun h => (hbn h).same rfl rfl) (hbs.same rfl rfl) hbyt (fun x h => h) (by simp [T.get_set, h0]) (by simp [T.get_set, h1]) fun s1 x1 d1 => q _ x1.cx' (d1.same rfl rfl)
theorem AK_ : Fr envS 201 = some (List.replicate 8 (.int .u32 0)) := by kernel_rfl
theorem BJ_ (r : Sha.St8) : JD envS 205 [(0, .bool true), (1, .agg (st8V r))] = some (.bool true :: ((st8V r).toList ++ (u8l (List.replicate 64 0) ++ [.int .i64 ((0 : Nat) : Int)]))) := by kernel_rfl
theorem Dr_ : JD envS 201 [(0, .int .u32 1779033703), (1, .int .u32 3144134277), (2, .int .u32 1013904242), (3, .int .u32 2773480762), (4, .int .u32 1359893119), (5, .int .u32 2600822924), (6, .int .u32 528734635), (7, .int .u32 1541459225)] = some (st8V C0).toList := by kernel_rfl
theorem XI {n : Nat} {s : St} {Q : Value → St → Prop} (hbd : s.lim ≤ s.next) (hn : 10 ≤ n) (q : ∀ s1, Ext Non Non s s1 → Q (.agg (st8V C0)) s1) : W (AJ envS (runF envS n) 141 []) s Q := by
 refine ET_ fun tm => ?_
 refine Xk.w rfl (by omega) ?_
 simp -implicitDefEqProofs only [Q5, AK, AI, AM]
 refine W.alloc AK_ fun sa na xa oa => ?_
 refine BP_.w Ao_ (by omega) ?_
 simp -implicitDefEqProofs only [QI, AK, W_oS, AI, T.get_set, Dm, C9, Bg, reduceIte, ↓reduceIte, OQ Dr_]
 refine W.store Gq rfl rfl (fun i hi => ⟨.int .u32 0, by rw [Nat.zero_add]; have := oa i (.int .u32 0) (by rw [List.getElem?_replicate]; rw [if_pos hi]); rw [Nat.zero_add] at this; exact this⟩) fun sb nb xb ob => ?_
 refine W.endC (r := 0) (t := 201) Eo_ (.inl DE_) (by omega) RP Be_ (xb.cx.trans xa.cx) (by simp [T.get_set]; rfl) ?_
 refine W.loadA Gq ob.row rfl fun sc mc nc xc => ?_
 have x : Ext Non Non s (sc.cxN s.cx) := ((xa.trans xb hbd (fun x h g => by have g1 : s.next + 0 ≤ x := g.1; have h1 : x < s.lim := h; omega) fun x h g => by have g1 : s.next + 0 ≤ x := g.1; have h1 : x < s.next := h; omega).trans xc hbd (fun x h g => by have g1 : s.next + 0 ≤ x := g.1; have h1 : x < s.lim := h; omega) fun x h g => g.elim).cx'
 exact q _ x
theorem BA_ {n : Nat} {s : St} {Q : Value → St → Prop} (hbd : s.lim ≤ s.next) (hn : 30 ≤ n) (q : ∀ s1 D, s.next ≤ D → D + 74 ≤ s1.next → Ext Non Non s s1 → Dig s1 D DS.new → Q (.pointer (some ⟨D, 0, none⟩)) s1) : W (AJ envS (runF envS n) 104 []) s Q := by
 refine GL_ fun tm => ?_
 refine Yo.w rfl (by omega) ?_
 simp -implicitDefEqProofs only [RI, AI, W_mv, AM]
 refine VH.w Zc (by omega) ?_
 simp -implicitDefEqProofs only [QP, AK, W_oS, W_on, AI, W_mv, AM, Bo, Dm, C9, Bg, B4]
 refine XI (s := s.cxN cxN) hbd (by omega) fun sa xa => ?_
 simp -implicitDefEqProofs only [OQ (BJ_ C0)]
 refine W.box fun sb nb xb ob => ?_
 refine W.end' (rs := [0]) (vs := [.pointer (some ⟨sa.next, 0, none⟩)]) Ai_ (.inl ZG) (by omega) Ou UC (xb.cx.trans xa.cx) (by simp [T.get_set]) ?_
 have hx : Ext Non Non s (sb.cxN s.cx) := (xa.trans xb hbd (fun x h g => g) fun x h g => g).cx'
 have ob' : Al (sb.cxN s.cx) sa.next 0 (.bool true :: ((st8V C0).toList ++ (u8l (List.replicate 64 0) ++ [.int .i64 ((0 : Nat) : Int)]))) := fun i v e => (ob i v e).same rfl rfl
 refine q _ sa.next xa.nxt ?_ hx ⟨?_, ?_, ?_, ?_, rfl, ?_, UZ⟩
 · have h : (sb.cxN s.cx).next = sa.next + 74 + 1 := nb
   omega
 · exact ob' 0 _ rfl
 · intro i v e
   have e : (st8V C0).toList[i]? = some v := e
   have hi := (List.getElem?_eq_some_iff.1 e).1
   have := ob' (1 + i) v (by rw [Nat.add_comm, List.getElem?_cons_succ, List.getElem?_append_left hi]; exact e)
   rw [Nat.zero_add] at this
   exact this
 · intro i v e
   have e : (u8l (List.replicate 64 0))[i]? = some v := e
   have hi := (List.getElem?_eq_some_iff.1 e).1
   have := ob' (9 + i) v (by rw [show 9 + i = (8 + i) + 1 by omega, List.getElem?_cons_succ, List.getElem?_append_right (by rw [CO]; omega), CO, show 8 + i - 8 = i by omega, List.getElem?_append_left hi]; exact e)
   rw [Nat.zero_add] at this
   exact this
 · exact ob' 73 _ rfl
 · intro x hx
   have hx : x ∈ List.replicate 64 0 := hx
   rw [List.mem_replicate] at hx
   omega
theorem XP : hasT envS 3 = true := by kernel_rfl
theorem R6 (N : Nat) : ∀ k, (tl8 N k).length = k
 | 0 => rfl
 | k + 1 => by unfold tl8; rw [List.length_cons, R6 N k]
theorem M0 (N : Nat) : ∀ k, Byt (tl8 N k)
 | 0 => fun x hx => by cases hx
 | k + 1 => fun x hx => by
   unfold tl8 at hx
   rcases List.mem_cons.1 hx with rfl | hx
   · exact Nat.mod_lt _ (by decide)
   · exact M0 N k x hx
abbrev PadF (D B : Nat) : Nat → Prop := fun x => In D 0 74 x ∨ In B 0 80 x
theorem Z3 {D B : Nat} {a2 a3 a4 : Value} {d : DS} {Q : Value × FrameMode → St → Prop} {s0 : St} (hmax : 8 * d.n ≤ 9223372036854775807) (hb0 : s0.lim ≤ s0.next) (hdis : D + 74 ≤ B ∨ B + 80 ≤ D) (hB : B + 80 ≤ s0.next) : ∀ (k n : Nat) (tm : T Value) (s : St) (td : List Item) (p : List Nat), k ≤ 8 → 10 * k + 20 ≤ n → skim 64 td = E2 → Ext (PadF D B) (In B 0 80) s0 s → Dig s D d → Al s B 0 (u8l p) → AQ s B 0 80 → p.length + k ≤ 80 →
   T.get tm 0 = some (.pointer (some ⟨D, 0, none⟩)) → T.get tm 2 = some a2 → T.get tm 3 = some a3 → T.get tm 4 = some a4 → T.get tm 5 = some (.slice (some ⟨B, 0, none⟩) p.length 80) → T.get tm 6 = some (.int .i64 (8 * ((k : Nat) : Int) - 8)) →
   (∀ n' tm' s1 td', n ≤ n' + 10 * k + 5 → skim 64 td' = GT → Ext (PadF D B) (In B 0 80) s0 s1 → Dig s1 D d → Al s1 B 0 (u8l (p ++ tl8 (8 * d.n) k)) → T.get tm' 0 = some (.pointer (some ⟨D, 0, none⟩)) → T.get tm' 2 = some a2 → T.get tm' 3 = some a3 → T.get tm' 4 = some a4 → T.get tm' 5 = some (.slice (some ⟨B, 0, none⟩) (p.length + k) 80) → W (runF envS n' ⟨106, Fp, Bh, tm', td', .run, .normal, none⟩) s1 Q) →
   W (runF envS n ⟨106, Fp, Bh, tm, td, .run, .normal, none⟩) s Q := by
 intro k
 induction k with
 | zero =>
   intro n tm s td p hk hn hT hx hd ho hw hl h0 h2 h3 h4 h5 h6 q
   refine Rk.w hT (by omega) ?_
   simp -implicitDefEqProofs only [Md, AK, W_oS, AI, W_mv, AM, JR, h6]
   refine W.cond (v := false) Pb PO (by simp [T.get_set]) (by omega) (fun h => by cases h) fun _ => ?_
   refine q _ _ _ _ (by omega) Tl hx hd ?_ (by simp [T.get_set, h0]) (by simp [T.get_set, h2]) (by simp [T.get_set, h3]) (by simp [T.get_set, h4]) (by simp [T.get_set, h5])
   rw [show tl8 (8 * d.n) 0 = [] from rfl, List.append_nil]
   exact ho
 | succ k ih =>
   intro n tm s td p hk hn hT hx hd ho hw hl h0 h2 h3 h4 h5 h6 q
   have ec : (8 * ((k + 1 : Nat) : Int) - 8) = ((8 * k : Nat) : Int) := by omega
   rw [ec] at h6
   refine Rk.w hT (by omega) ?_
   simp -implicitDefEqProofs only [Md, AK, W_oS, AI, W_mv, AM, JR, h6]
   refine W.cond (v := true) Pb PO (by simp [T.get_set]; omega) (by omega) (fun _ => ?_) fun h => by cases h
   refine An_.w EN_ (by omega) ?_
   simp -implicitDefEqProofs only [RN, AK, W_oS, AI, W_mv, AM, T.get_set, By, Bo, Dm, C9, Bg, reduceIte, Br, Nat.reduceEqDiff, reduceCtorEq, ↓reduceIte, h0, h5, h6, BW If (by decide : 0 < 1)]
   refine W.load1 G1 hd.n.at' ?_
   have hxa : Ext (PadF D B) (In B 0 80) s0 (s.rdN (D + (0 + 73))) := hx.trans (Ext.rdN (F := PadF D B) s _ fun _ => .inl ⟨by omega, by omega⟩) hb0 (fun _ _ h => h) fun _ _ h => h
   have hda : Dig (s.rdN (D + (0 + 73))) D d := hd.same rfl rfl
   have hoa : Al (s.rdN (D + (0 + 73))) B 0 (u8l p) := fun i v e => (ho i v e).same rfl rfl
   have hwa : AQ (s.rdN (D + (0 + 73))) B 0 80 := fun j hj => let ⟨u, h⟩ := hw j hj; ⟨u, h.same rfl rfl⟩
   generalize s.rdN (D + (0 + 73)) = sa at hxa hda hoa hwa ⊢
   simp -implicitDefEqProofs only [Xa hmax, HZ (k := .i64) (kk := .i64) (n := 8 * k) (show 8 * k ≤ 64 by omega), RA XP Sk, wrap_u8]
   have hba : sa.lim ≤ sa.next := hxa.bnd hb0
   refine W.buildS hba (r := u8l [(8 * d.n) >>> (8 * k) % 256]) G7 (by decide) rfl (Ca (by decide)) fun sb nb xb rb => ?_
   have hxb : Ext (PadF D B) (In B 0 80) s0 sb := hxa.trans xb hb0 (fun _ _ h => h.elim) fun _ _ h => h.elim
   have hBs : Bs sb (.slice (some ⟨sa.next, 0, none⟩) 1 1) [(8 * d.n) >>> (8 * k) % 256] := Al.bn rb (Ca (by simp))
   have hob : Al sb B 0 (u8l p) := hoa.ext0 xb
   have hwb : AQ sb B 0 80 := fun j hj => let ⟨u, h⟩ := hwa j hj; ⟨u, h.ext0 xb⟩
   simp -implicitDefEqProofs only [Fq_]
   refine W.appIn (n := 1) Bb_ hBs.src.g (by rw [Nat.mod_eq_of_lt (Ca (by decide))]; omega) rfl (D3 _) (fun i hi => ?_) fun sc nc xc rc => ?_
   · have := hwb (p.length + i) (by omega)
     rw [show 0 + p.length * 1 + i = 0 + (p.length + i) by omega]
     exact this
   have sub : ∀ x, In B (0 + p.length * 1) (1 * 1) x → In B 0 80 x := fun x h => ⟨by have := h.1; omega, by
     have h4 : x < B + (0 + p.length * 1) + 1 * 1 := h.2
     omega⟩
   have nod : ∀ i, i < 74 → ¬ In B (0 + p.length * 1) (1 * 1) (D + i) := fun i hi h => by
     have h3 : B + (0 + p.length * 1) ≤ D + i := h.1
     have h4 : D + i < B + (0 + p.length * 1) + 1 * 1 := h.2
     omega
   have hxc : Ext (PadF D B) (In B 0 80) s0 sc := hxb.trans xc hb0 (fun x hx' h => by
     rcases h with h | h
     · have h1 : sa.next + 0 ≤ x := h.1
       have h2 := hxa.nxt
       omega
     · exact .inr (sub x h)) fun x _ h => sub x h
   have hdc : Dig sc D d := ⟨hda.made.ext0 xb |>.ext xc (nod 0 (by decide)), (hda.st.ext0 xb).ext xc fun i hi => nod (1 + i) (by rw [CO] at hi; omega), (hda.w.ext0 xb).ext xc fun i hi => nod (9 + i) (by rw [A4, hda.len] at hi; omega), (hda.n.ext0 xb).ext xc (nod 73 (by decide)), hda.len, hda.byt, hda.ok⟩
   have hoc : Al sc B 0 (u8l (p ++ [(8 * d.n) >>> (8 * k) % 256])) := by
     have e : u8l (p ++ [(8 * d.n) >>> (8 * k) % 256]) = u8l p ++ u8l [(8 * d.n) >>> (8 * k) % 256] := List.map_append
     rw [e]
     refine Al.append (hob.ext xc fun i hi h => ?_) ?_
     · rw [A4] at hi
       have h1 : B + (0 + p.length * 1) ≤ B + (0 + i) := h.1
       omega
     · rw [A4, show 0 + p.length = 0 + p.length * 1 by omega]
       exact rc
   have hwc : AQ sc B 0 80 := hwb.ext xc rc
   have hlp : (p ++ [(8 * d.n) >>> (8 * k) % 256]).length = p.length + 1 := by simp
   refine EJ_.w ZF (by omega) ?_
   have e8 : wrap64 (((8 * k : Nat) : Int) - 8) = 8 * ((k : Nat) : Int) - 8 := by
     rw [Eb (by omega) (by omega)]; omega
   simp -implicitDefEqProofs only [Sp, AK, W_oS, AI, W_mv, AM, T.get_set, reduceIte, Nat.reduceEqDiff, ↓reduceIte, QC, h6, e8]
   refine ih _ _ sc _ (p ++ [(8 * d.n) >>> (8 * k) % 256]) (by omega) (by omega) Tv hxc hdc hoc hwc (by omega) (by simp [T.get_set, h0]) (by simp [T.get_set, h2]) (by simp [T.get_set, h3]) (by simp [T.get_set, h4]) (by simp [T.get_set]) (by simp [T.get_set]) fun n' tm' s1 td' e1 e2 e3 e4 e5 e6 e7 e8 e9 e10 => q n' tm' s1 td' (by omega) e2 e3 e4 ?_ e6 e7 e8 e9 ?_
   · rw [List.append_assoc] at e5
     exact e5
   · rw [hlp] at e10
     rw [e10, show p.length + 1 + k = p.length + (k + 1) by omega]
theorem Px : arrN envS 123 = some (32, 1) := by kernel_rfl
theorem Bw_ : arrU envS 201 = some 8 := by kernel_rfl
theorem Iy : ∀ l : List Nat, (outs l).length = 4 * l.length
 | [] => rfl
 | x :: l => by
   unfold outs
   rw [List.length_append, Iy l, List.length_cons]
   show 4 + _ = _
   omega
theorem M3 (x : Nat) : ∀ l : List Nat, outs (l ++ [x]) = outs l ++ be4 x
 | [] => by show be4 x ++ [] = _; rw [List.append_nil]; rfl
 | y :: l => by
   show be4 y ++ outs (l ++ [x]) = (be4 y ++ outs l) ++ be4 x
   rw [M3 x l, List.append_assoc]
theorem TQ {O : Nat} {a2 : Value} {cs : Array Value} {l : List Nat} (hl8 : l.length = 8) (hcs : ∀ i (h : i < l.length), cs.toList[i]? = some (.int .u32 (l[i] : Nat))) {Q : Value × FrameMode → St → Prop} {s0 : St} (hb0 : s0.lim ≤ s0.next) : ∀ (k i n : Nat) (tm : T Value) (s : St) (td : List Item), i + k = 8 → 10 * k + 20 ≤ n → skim 64 td = FG → Ext (In O 0 32) (In O 0 32) s0 s → Al s O 0 (u8l (outs (l.take i))) → AQ s O 0 32 →
   T.get tm 2 = some a2 → T.get tm 3 = some (.pointer (some ⟨O, 0, none⟩)) → T.get tm 51 = some (.agg cs) → T.get tm 52 = some (.int .i64 (i : Nat)) →
   (∀ n' tm' s1 td', n ≤ n' + 10 * k + 5 → skim 64 td' = GK → Ext (In O 0 32) (In O 0 32) s0 s1 → Al s1 O 0 (u8l (outs l)) → T.get tm' 2 = some a2 → T.get tm' 3 = some (.pointer (some ⟨O, 0, none⟩)) → W (runF envS n' ⟨106, Fp, Bh, tm', td', .run, .normal, none⟩) s1 Q) →
   W (runF envS n ⟨106, Fp, Bh, tm, td, .run, .normal, none⟩) s Q := by
 intro k
 induction k with
 | zero =>
   intro i n tm s td hi hn hT hx ho hw h2 h3 h51 h52 q
   refine Pv.w hT (by omega) ?_
   simp -implicitDefEqProofs only [Me, AK, W_oS, AI, AM, h52, show (8 : Int) = ((8 : Nat) : Int) from rfl]
   simp -implicitDefEqProofs only [Hp]
   refine W.cond (v := false) Qo R7 (by simp [T.get_set]; omega) (by omega) (fun h => by cases h) fun _ => ?_
   rw [show i = l.length by omega, List.take_length] at ho
   exact q _ _ _ _ (by omega) Un hx ho (by simp [T.get_set, h2]) (by simp [T.get_set, h3])
 | succ k ih =>
   intro i n tm s td hi hn hT hx ho hw h2 h3 h51 h52 q
   have hil : i < l.length := by omega
   refine Pv.w hT (by omega) ?_
   simp -implicitDefEqProofs only [Me, AK, W_oS, AI, AM, h52]
   simp -implicitDefEqProofs only [Hp]
   refine W.cond (v := true) Qo R7 (by simp [T.get_set]; omega) (by omega) (fun _ => ?_) fun h => by cases h
   refine XD.w V3 (by omega) ?_
   simp -implicitDefEqProofs only [NB, AK, W_oS, AI, W_mv, AM, T.get_set, reduceIte, Nat.reduceEqDiff, ↓reduceIte, h51, h52, S5 Bw_ (show i < 8 by omega) (hcs i hil)]
   refine VJ.w EI_ (by omega) ?_
   generalize hxe : l[i] = x
   simp -implicitDefEqProofs only [NI, AK, W_oS, W_on, AI, W_mv, T.get_set, By, Bo, Dm, C9, Bg, reduceIte, Nat.reduceEqDiff, ↓reduceIte, h3, Fu_ (show 4 * i ≤ 9223372036854775807 by omega), I9 (lo := some (.int .i64 ((4 * i : Nat) : Int))) (hi := none) (l := 4 * i) (h := 32) Px (Ca (by decide)) rfl rfl (by omega) (Nat.le_refl _)]
   rw [if_neg (by omega)]
   simp -implicitDefEqProofs only [RA CE_ Sk, wrap_u8, Yt (k := .u32) (by decide), ZA (k := .u32) (by decide), Di_ (k := .u32) (by decide)]
   have hba : s.lim ≤ s.next := hx.bnd hb0
   refine W.buildS hba (r := u8l (be4 x)) G7 (by decide) rfl (Ca (by decide)) fun sb nb xb rb => ?_
   have hxb : Ext (In O 0 32) (In O 0 32) s0 sb := hx.trans xb hb0 (fun _ _ h => h.elim) fun _ _ h => h.elim
   have hBs : Bs sb (.slice (some ⟨s.next, 0, none⟩) 4 4) (be4 x) := Al.bn rb (Ca (by simp [be4]))
   have hob : Al sb O 0 (u8l (outs (l.take i))) := ho.ext0 xb
   have hwb : AQ sb O 0 32 := fun j hj => let ⟨u, h⟩ := hw j hj; ⟨u, h.ext0 xb⟩
   refine W.copy (k := 4) (l := u8l (be4 x)) G7 (Nat.min_eq_right (show 4 ≤ 32 - 4 * i by omega)).symm (hBs.srcK (k := 4) (Nat.le_refl _)) rfl (D3 _) (fun j hj => ?_) fun sc nc xc rc => ?_
   · have := hwb (4 * i + j) (by omega)
     rw [show 0 + 4 * i * 1 + j = 0 + (4 * i + j) by omega]
     exact this
   have sub : ∀ y, In O (0 + 4 * i * 1) (4 * 1) y → In O 0 32 y := fun y h => ⟨by have := h.1; omega, by
     have h4 : y < O + (0 + 4 * i * 1) + 4 * 1 := h.2
     omega⟩
   have hxc : Ext (In O 0 32) (In O 0 32) s0 sc := hxb.trans xc hb0 (fun y hy h => by
     rcases h with h | h
     · have h1 : s.next + 0 ≤ y := h.1
       have h2 := hx.nxt
       omega
     · exact sub y h) fun y _ h => sub y h
   have hlt : (outs (l.take i)).length = 4 * i := by rw [Iy, List.length_take]; omega
   have hoc : Al sc O 0 (u8l (outs (l.take (i + 1)))) := by
     have e : u8l (outs (l.take (i + 1))) = u8l (outs (l.take i)) ++ u8l (be4 x) := by
       rw [List.take_add_one, List.getElem?_eq_getElem hil, hxe]
       show u8l (outs (l.take i ++ [x])) = _
       rw [M3]
       exact List.map_append
     rw [e]
     refine Al.append (hob.ext xc fun j hj h => ?_) ?_
     · rw [A4, hlt] at hj
       have h1 : O + (0 + 4 * i * 1) ≤ O + (0 + j) := h.1
       omega
     · rw [A4, hlt, show 0 + 4 * i = 0 + 4 * i * 1 by omega]
       exact rc
   have hwc : AQ sc O 0 32 := hwb.ext xc rc
   refine BE_.w UW (by omega) ?_
   have ei : wrap64 ((i : Nat) + 1 : Int) = ((i + 1 : Nat) : Int) := by
     rw [Eb (by omega) (by omega)]; simp
   simp -implicitDefEqProofs only [QH, AK, W_oS, AI, W_mv, AM, T.get_set, reduceIte, Nat.reduceEqDiff, ↓reduceIte, Gw, h52, ei]
   exact ih (i + 1) _ _ sc _ (by omega) (by omega) Br_ hxc hoc hwc (by simp [T.get_set, h2]) (by simp [T.get_set, h3]) (by simp [T.get_set, h51]) (by simp [T.get_set]) fun n' tm' s1 td' e1 => q n' tm' s1 td' (by omega)
theorem Rm : tyS envS 205 = some (74, true) := by kernel_rfl
theorem Ud : Fr envS 205 = some (.bool false :: (List.replicate 8 (.int .u32 0) ++ (List.replicate 64 (.int .u8 0) ++ [.int .i64 0]))) := by kernel_rfl
theorem E0 : tyS envS 123 = some (32, true) := by kernel_rfl
theorem IS : Fr envS 123 = some (List.replicate 32 (.int .u8 0)) := by kernel_rfl
def DS.row (d : DS) : List Value := .bool true :: ((st8V d.st).toList ++ (u8l d.w ++ [.int .i64 (d.n : Nat)]))
theorem DS.row_len (d : DS) (h : d.w.length = 64) : d.row.length = 74 := by
 unfold DS.row
 rw [List.length_cons, List.length_append, CO, List.length_append, A4, h]
 rfl
theorem DS.row_one (d : DS) : d.row.all oneCell = true := by
 have h1 : (st8V d.st).toList.all oneCell = true := rfl
 unfold DS.row
 rw [List.all_cons, List.all_append, List.all_append, D3, h1]
 rfl
theorem Al.app_l {s : St} {b o : Nat} {l l' : List Value} (h : Al s b o (l ++ l')) : Al s b o l := fun i v e => h i v (by rw [List.getElem?_append_left (List.getElem?_eq_some_iff.1 e).1]; exact e)
theorem Al.app_r {s : St} {b o : Nat} {l l' : List Value} (h : Al s b o (l ++ l')) : Al s b (o + l.length) l' := fun i v e => by
 have := h (l.length + i) v (by rw [List.getElem?_append_right (by omega), show l.length + i - l.length = i by omega]; exact e)
 rw [← Nat.add_assoc] at this
 exact this
theorem Al.cons_l {s : St} {b o : Nat} {v : Value} {l : List Value} (h : Al s b o (v :: l)) : Own s b o v := h 0 v rfl
theorem Al.cons_r {s : St} {b o : Nat} {v : Value} {l : List Value} (h : Al s b o (v :: l)) : Al s b (o + 1) l := fun i x e => by
 have := h (i + 1) x (by simpa using e)
 rw [show o + 1 + i = o + (i + 1) by omega]
 exact this
theorem Al.cons {s : St} {b o : Nat} {v : Value} {l : List Value} (h : Own s b o v) (k : Al s b (o + 1) l) : Al s b o (v :: l) := fun i x e => by
 cases i with
 | zero => simp at e; subst e; exact h
 | succ i =>
   have := k i x (by simpa using e)
   rw [show o + (i + 1) = o + 1 + i by omega]
   exact this
theorem Al.nil {s : St} {b o : Nat} : Al s b o [] := fun i x e => by simp at e
theorem Dig.toRow {s : St} {D : Nat} {d : DS} (h : Dig s D d) : Al s D 0 d.row := by
 unfold DS.row
 refine Al.cons h.made (Al.append h.st (Al.append ?_ ?_))
 · rw [CO]; exact h.w
 · rw [CO, A4, h.len]
   exact Al.cons h.n .nil
theorem Dig.ofRow {s : St} {D : Nat} {d : DS} (h : Al s D 0 d.row) (h1 : d.w.length = 64) (h2 : Byt d.w) (h3 : d.st.Ok) : Dig s D d := by
 unfold DS.row at h
 have h4 := h.cons_r
 have h5 := h4.app_r
 have h6 := h5.app_r
 rw [CO] at h5
 rw [CO, A4, h1] at h6
 exact ⟨h.cons_l, h4.app_l, h5.app_l, h6.cons_l, h1, h2, h3⟩
theorem DS.pad0_len (d : DS) : d.pad0.length = (119 - d.n % 64) % 64 + 1 := by unfold DS.pad0; rw [List.length_cons, List.length_replicate]
theorem DS.pad0_byt (d : DS) : Byt d.pad0 := fun x hx => by
 unfold DS.pad0 at hx
 rcases List.mem_cons.1 hx with rfl | hx
 · decide
 · rw [List.mem_replicate] at hx; omega
theorem DS.pad_byt (d : DS) : Byt d.pad := fun x hx => by
 rcases List.mem_append.1 hx with hx | hx
 · exact d.pad0_byt x hx
 · exact M0 _ _ x hx
theorem DS.sum_len (d : DS) : d.sum.length = 32 := Iy _
theorem Da_ (r : Sha.St8) (i : Nat) (h : i < (st8L r).length) : (st8V r).toList[i]? = some (.int .u32 ((st8L r)[i] : Nat)) := by
 have h8 : i < 8 := h
 match i, h8 with
 | 0, _ => rfl
 | 1, _ => rfl
 | 2, _ => rfl
 | 3, _ => rfl
 | 4, _ => rfl
 | 5, _ => rfl
 | 6, _ => rfl
 | 7, _ => rfl
theorem V1 {C O2 O3 n : Nat} {d : DS} {tm : T Value} {td : List Item} {s : St} {Q : Value × FrameMode → St → Prop} (hb : s.lim ≤ s.next) (hcx : s.cx = .cx none (some [])) (h23 : O2 + 32 ≤ O3) (hd : Dig s C d) (ho3 : AQ s O3 0 32) (ho2 : AQ s O2 0 32) (hn : 120 ≤ n) (hT : skim 64 td = Hh)
   (h2 : T.get tm 2 = some (.pointer (some ⟨O2, 0, none⟩))) (h3 : T.get tm 3 = some (.pointer (some ⟨O3, 0, none⟩))) (h4 : T.get tm 4 = some (.pointer (some ⟨C, 0, none⟩)))
   (q : ∀ s1, Ext (fun x => In C 0 74 x ∨ In O3 0 32 x ∨ In O2 0 32 x) (fun x => In O3 0 32 x ∨ In O2 0 32 x) s s1 → Q (.agg (u8l (outs (st8L d.st))).toArray, .run) s1) : W (runF envS n ⟨106, Fp, Bh, tm, td, .run, .normal, none⟩) s Q := by
 refine Db_.w hT (by omega) ?_
 simp -implicitDefEqProofs only [NY, AK, W_oS, AI, W_mv, AM, h4, BW L8 (by decide : 0 < 8)]
 refine W.loadA Gq hd.st.row (CO _) fun sa ma na xa => ?_
 have hxa : Ext (fun x => In C 0 74 x ∨ In O3 0 32 x ∨ In O2 0 32 x) (fun x => In O3 0 32 x ∨ In O2 0 32 x) s sa := xa.weak hb (fun x _ h => .inl ⟨by have := h.1; omega, by have := h.2; omega⟩) fun _ _ h => h.elim
 have ho3a : AQ sa O3 0 32 := fun j hj => let ⟨u, h⟩ := ho3 j hj; ⟨u, h.same ma na⟩
 have ho2a : AQ sa O2 0 32 := fun j hj => let ⟨u, h⟩ := ho2 j hj; ⟨u, h.same ma na⟩
 have hba : sa.lim ≤ sa.next := xa.bnd hb
 refine TQ (l := st8L d.st) (cs := (st8V d.st).toList.toArray) rfl (fun i h => Da_ d.st i h) hba 8 0 _ _ sa _ rfl (by omega) VX (Ext.refl sa) (fun i v e => by simp [outs, u8l] at e) ho3a (by simp [T.get_set, h2]; rfl) (by simp [T.get_set, h3]) (by simp [T.get_set]) (by simp [T.get_set]) fun n' tm' sb td' e1 e2 xb ob t2 t3 => ?_
 refine Ak_.w e2 (by omega) ?_
 simp -implicitDefEqProofs only [Rq, AK, W_oS, AI, t2, t3]
 have hxb := hxa.trans xb hb (fun x _ h => .inr (.inl h)) fun x _ h => .inl h
 have hlen : (u8l (outs (st8L d.st))).length = 32 := by rw [A4, Iy]; rfl
 refine W.loadA E0 ob.row hlen fun sc mc nc xc => ?_
 have hxc := hxb.trans xc hb (fun x _ h => .inr (.inl h)) fun x _ h => h.elim
 have ho2c : AQ sc O2 0 32 := fun j hj => by
   obtain ⟨u, h⟩ := ho2a j hj
   refine ⟨u, (h.ext xb fun h => ?_).same mc nc⟩
   have h1 : O3 + 0 ≤ O2 + (0 + j) := h.1
   omega
 refine W.store E0 hlen (D3 _) ho2c fun se ne xe oe => ?_
 have hxe := hxc.trans xe hb (fun x _ h => .inr (.inr h)) fun x _ h => .inr h
 refine W.endC (r := 2) FB_ (.inl Zs) (by omega) Ra UL (hxe.cx.trans hcx) t2 ?_
 refine W.loadA E0 oe.row hlen fun sf mf nf xf => ?_
 exact q sf (hxe.trans xf hb (fun x _ h => .inr (.inr h)) fun x _ h => h.elim)
theorem Dig.ext {F G : Nat → Prop} {s s' : St} {D : Nat} {d : DS} (h : Dig s D d) (e : Ext F G s s') (k : ∀ x, In D 0 74 x → ¬ G x) : Dig s' D d :=
 ⟨h.made.ext e (k _ ⟨by omega, by omega⟩), h.st.ext e fun i hi => k _ ⟨by omega, by rw [CO] at hi; omega⟩, h.w.ext e fun i hi => k _ ⟨by omega, by rw [A4, h.len] at hi; omega⟩, h.n.ext e (k _ ⟨by omega, by omega⟩), h.len, h.byt, h.ok⟩
theorem AQ.ext1 {F G : Nat → Prop} {s s' : St} {b o n : Nat} (h : AQ s b o n) (e : Ext F G s s') (k : ∀ x, In b o n x → ¬ G x) : AQ s' b o n := fun j hj => let ⟨u, hu⟩ := h j hj; ⟨u, hu.ext e (k _ ⟨by omega, by omega⟩)⟩
theorem Ul {E : Env} {t : Nat} {s : St} {sz b o n c : Nat} (h : slN E t = some sz) (hk : 0 < n) (Q : Value → St → Prop) : W (Cj E t (.slice (some ⟨b, o, none⟩) n c) (.int .i64 0)) s Q = Q (.pointer (some ⟨b, o + 0 * sz, none⟩)) s := KJ (k := 0) h hk Q
abbrev MidF (D O2 : Nat) : Nat → Prop := fun x => In D 0 74 x ∨ O2 ≤ x
theorem BT_ {D C O2 O3 n : Nat} {d : DS} {tm : T Value} {td : List Item} {s : St} {Q : Value × FrameMode → St → Prop} (hb : s.lim ≤ s.next) (hcx : s.cx = .cx none (some [])) (hmax : d.n ≤ 900000000) (hD2 : D + 74 ≤ O2) (h23 : O2 + 32 ≤ O3) (h3C : O3 + 32 ≤ C) (hCn : C + 74 ≤ s.next) (hd : Dig s D d) (hc : Dig s C d) (ho3 : AQ s O3 0 32) (ho2 : AQ s O2 0 32) (hn : 2000 ≤ n) (hT : skim 64 td = Gc)
   (h0 : T.get tm 0 = some (.pointer (some ⟨D, 0, none⟩))) (h2 : T.get tm 2 = some (.pointer (some ⟨O2, 0, none⟩))) (h3 : T.get tm 3 = some (.pointer (some ⟨O3, 0, none⟩))) (h4 : T.get tm 4 = some (.pointer (some ⟨C, 0, none⟩)))
   (q : ∀ s1, Ext (MidF D O2) (fun x => O2 ≤ x) s s1 → Q (.agg (u8l d.sum).toArray, .run) s1) : W (runF envS n ⟨106, Fp, Bh, tm, td, .run, .normal, none⟩) s Q := by
 refine Te.w hT (by omega) ?_
 simp -implicitDefEqProofs only [RF, AK, W_oS, AI, W_mv, AM, Br, h0, BW If (by decide : 0 < 1)]
 refine W.load1 G1 hd.n.at' ?_
 have hxa : Ext (MidF D O2) (fun x => O2 ≤ x) s (s.rdN (D + (0 + 73))) := Ext.rdN (F := MidF D O2) s _ fun _ => .inl ⟨by omega, by omega⟩
 have hda : Dig (s.rdN (D + (0 + 73))) D d := hd.same rfl rfl
 have hca : Dig (s.rdN (D + (0 + 73))) C d := hc.same rfl rfl
 have ho3a : AQ (s.rdN (D + (0 + 73))) O3 0 32 := fun j hj => let ⟨u, h⟩ := ho3 j hj; ⟨u, h.same rfl rfl⟩
 have ho2a : AQ (s.rdN (D + (0 + 73))) O2 0 32 := fun j hj => let ⟨u, h⟩ := ho2 j hj; ⟨u, h.same rfl rfl⟩
 have na : (s.rdN (D + (0 + 73))).next = s.next := rfl
 generalize s.rdN (D + (0 + 73)) = sa at hxa hda hca ho3a ho2a na ⊢
 have hm : d.n % 64 < 64 := Nat.mod_lt _ (by decide)
 have e1 : wrap64 (119 - ((d.n % 64 : Nat) : Int)) = ((119 - d.n % 64 : Nat) : Int) := by
   rw [Eb (by omega) (by omega)]; omega
 have e2 : wrap64 (1 + (((119 - d.n % 64) % 64 : Nat) : Int)) = ((d.pad0.length : Nat) : Int) := by
   rw [Eb (by omega) (by omega), DS.pad0_len]; omega
 have hp0 : d.pad0.length ≤ 64 := by rw [DS.pad0_len]; omega
 simp -implicitDefEqProofs only [Gw, QC, Rg, e1, e2]
 have hba : sa.lim ≤ sa.next := hxa.bnd hb
 refine W.mkSl (c := 80) G7 (by omega) (by decide) fun sb nb xb ob => ?_
 have hrl : (rep 80 [Value.int .u8 0]).length = 80 := by rw [OO]; simp
 have hnew : s.next ≤ sa.next := hxa.nxt
 have hxb : Ext (MidF D O2) (fun x => O2 ≤ x) s sb := hxa.trans xb hb (fun _ _ h => h.elim) fun _ _ h => h.elim
 have hdb : Dig sb D d := hda.ext0 xb
 have hcb : Dig sb C d := hca.ext0 xb
 have ho3b : AQ sb O3 0 32 := ho3a.ext1 xb fun _ _ h => h
 have ho2b : AQ sb O2 0 32 := ho2a.ext1 xb fun _ _ h => h
 have hob : AQ sb sa.next 0 80 := by
   have := Al.owned ob
   rw [hrl] at this
   exact this
 have hzb : Al sb sa.next 0 (List.replicate 80 (.int .u8 0)) := by rw [← OO]; exact ob
 clear ob xb hda hca ho3a ho2a
 refine Bz_.w UI (by omega) ?_
 simp -implicitDefEqProofs only [R5, AK, W_oS, AI, W_mv, T.get_set, reduceIte, ↓reduceIte, Ul G5 (show 0 < d.pad0.length by rw [DS.pad0_len]; omega)]
 obtain ⟨u0, hu0⟩ := hob 0 (by omega)
 refine W.store1 Tu rfl hu0 fun sc nc xc oc => ?_
 have sub : ∀ x, In sa.next (0 + 0 * 1) 1 x → In sa.next 0 80 x := fun x h => ⟨by have := h.1; omega, by have := h.2; omega⟩
 have up : ∀ x, In sa.next 0 80 x → O2 ≤ x := fun x h => by have := h.1; omega
 have nod : ∀ b m x, b + m ≤ s.next → In b 0 m x → ¬ In sa.next 0 80 x := fun b m x hbm h h' => by
   have g1 := h.2
   have g2 := h'.1
   omega
 have hxc : Ext (MidF D O2) (fun x => O2 ≤ x) s sc := hxb.trans xc hb (fun x _ h => .inr (up x (sub x h))) fun x _ h => up x (sub x h)
 have hdc : Dig sc D d := hdb.ext xc fun x h h' => nod D 74 x (by omega) h (sub x h')
 have hcc : Dig sc C d := hcb.ext xc fun x h h' => nod C 74 x (by omega) h (sub x h')
 have ho3c : AQ sc O3 0 32 := ho3b.ext1 xc fun x h h' => nod O3 32 x (by omega) h (sub x h')
 have ho2c : AQ sc O2 0 32 := ho2b.ext1 xc fun x h h' => nod O2 32 x (by omega) h (sub x h')
 have hwc : AQ sc sa.next 0 80 := hob.ext (l := [.int .u8 128]) xc (Al.cons oc .nil)
 have hpc : Al sc sa.next 0 (u8l d.pad0) := by
   have e : u8l d.pad0 = .int .u8 128 :: List.replicate ((119 - d.n % 64) % 64) (.int .u8 0) := by
     unfold DS.pad0 u8l
     rw [List.map_cons, List.map_replicate]
     rfl
   rw [e]
   refine Al.cons oc fun i v hi => ?_
   rw [List.getElem?_replicate] at hi
   split at hi
   · rename_i hlt
     cases hi
     have := hzb (1 + i) (.int .u8 0) (by rw [List.getElem?_replicate, if_pos (by omega)])
     rw [← Nat.add_assoc] at this
     refine this.ext xc fun h => ?_
     have := h.2
     omega
   · cases hi
 clear hob hzb hu0 oc
 have hbc : sc.lim ≤ sc.next := hxc.bnd hb
 have hBn : sa.next + 80 ≤ sc.next := by
   have h1 : sb.next = sa.next + (rep 80 [Value.int .u8 0]).length + 1 := nb
   omega
 refine WV.w Xy (by omega) ?_
 simp -implicitDefEqProofs only [QO, AI, W_mv, AM]
 refine Z3 (d := d) (a2 := .pointer (some ⟨O2, 0, none⟩)) (a3 := .pointer (some ⟨O3, 0, none⟩)) (a4 := .pointer (some ⟨C, 0, none⟩)) (by omega) hbc (.inl (show D + 74 ≤ sa.next by omega)) hBn 8 _ _ sc _ d.pad0 (Nat.le_refl _) (by omega) Yq (Ext.refl sc) hdc hpc hwc (by omega) (by simp [T.get_set, h0]) (by simp [T.get_set, h2]) (by simp [T.get_set, h3]) (by simp [T.get_set, h4]) (by simp [T.get_set]) (by simp [T.get_set]) fun n' tm' sd td' f1 f2 xd hdd hpd t0 t2 t3 t4 t5 => ?_
 have hxd : Ext (MidF D O2) (fun x => O2 ≤ x) s sd := hxc.trans xd hb (fun x _ h => by
   rcases h with h | h
   · exact .inl h
   · exact .inr (up x h)) fun x _ h => up x h
 have hcd : Dig sd C d := hcc.ext xd fun x h h' => nod C 74 x (by omega) h h'
 have ho3d : AQ sd O3 0 32 := ho3c.ext1 xd fun x h h' => nod O3 32 x (by omega) h h'
 have ho2d : AQ sd O2 0 32 := ho2c.ext1 xd fun x h h' => nod O2 32 x (by omega) h h'
 have hpl : d.pad.length = d.pad0.length + 8 := by unfold DS.pad; rw [List.length_append, R6]
 rw [← hpl] at t5
 have hpd' : Al sd sa.next 0 (u8l d.pad) := hpd
 have hbn : Bn sd (.slice (some ⟨sa.next, 0, none⟩) d.pad.length 80) d.pad := ⟨sa.next, 0, 80, rfl, by rw [Nat.mod_eq_of_lt (Ca (by decide))]; omega, JB (Ca (by decide)), hpd'.row⟩
 have hbd : sd.lim ≤ sd.next := hxd.bnd hb
 refine Y3.w f2 (by omega) ?_
 simp -implicitDefEqProofs only [SJ, AK, W_on, AI, W_mv, By, Bo, Bg, B4, t4, t5]
 refine QE hbd (fun x h h' => nod C 74 x (by omega) h' ⟨h.1, by have := h.2; omega⟩) hcd (by omega) (fun _ => hbn) hbn.bs d.pad_byt (by omega) fun se xe he => ?_
 have hxe : Ext (MidF D O2) (fun x => O2 ≤ x) s se := hxd.trans xe hb (fun x _ h => by
   rcases h with h | h
   · exact .inr (by have := h.1; omega)
   · exact .inr (up x ⟨h.1, by have := h.2; omega⟩)) fun x _ h => by have := h.1; omega
 have ho3e : AQ se O3 0 32 := ho3d.ext1 xe fun x h h' => by have := h.2; have := h'.1; omega
 have ho2e : AQ se O2 0 32 := ho2d.ext1 xe fun x h h' => by have := h.2; have := h'.1; omega
 have hbe : se.lim ≤ se.next := hxe.bnd hb
 refine V1 (C := C) hbe (hxe.cx.trans hcx) h23 he ho3e ho2e (by omega) SW t2 t3 t4 fun sf xf => q sf (hxe.trans xf hb (fun x _ h => ?_) fun x _ h => ?_)
 · rcases h with h | h | h
   · exact .inr (by have := h.1; omega)
   · exact .inr (by have := h.1; omega)
   · exact .inr (by have := h.1; omega)
 · rcases h with h | h
   · have := h.1; omega
   · have := h.1; omega
theorem AX_ {D n : Nat} {d : DS} {s : St} {Q : Value → St → Prop} (hbd : s.lim ≤ s.next) (hd : Dig s D d) (hmax : d.n ≤ 900000000) (hn : 2500 ≤ n)
   (q : ∀ s1, Ext (In D 0 74) Non s s1 → Q (.agg (u8l d.sum).toArray) s1) : W (AJ envS (runF envS n) 106 [.pointer (some ⟨D, 0, none⟩)]) s Q := by
 refine VO fun tm h0 => ?_
 have hD : D + 73 < s.next := by have := hd.n.1; omega
 have hd0 : Dig (s.cxN cxN) D d := hd.same rfl rfl
 refine U1.w rfl (by omega) ?_
 simp -implicitDefEqProofs only [NE, AK, AI, AM]
 refine W.alloc IS fun sa na xa oa => ?_
 have na' : sa.next = s.next + 33 := na
 have hxa : Ext (In D 0 74) Non (s.cxN cxN) sa := (Ext.refl _).step xa hbd (fun _ _ h => h.elim) fun _ h => h.elim
 refine Vl.w Ek_ (by omega) ?_
 simp -implicitDefEqProofs only [NR, AK, AI, AM]
 refine W.alloc IS fun sb nb xb ob => ?_
 have nb' : sb.next = sa.next + 33 := nb
 have hxb : Ext (In D 0 74) Non (s.cxN cxN) sb := hxa.step xb hbd (fun _ _ h => h.elim) fun _ h => h.elim
 have hdb : Dig sb D d := hd0.ext0 hxb
 have ho2 : AQ sb s.next 0 32 := (Al.owned oa).ext1 xb fun _ _ h => h
 have ho3 : AQ sb sa.next 0 32 := Al.owned ob
 refine Gr_.w WA (by omega) ?_
 simp -implicitDefEqProofs only [Qz, AK, W_oS, W_on, AI, W_mv, AM, T.get_set, reduceIte, Dr, Di, Do, Df, Dk, Br, reduceCtorEq, ↓reduceIte, h0, I2 RE, BW Oi (by decide : 0 < 1)]
 refine W.load1 Sg hdb.made.at' ?_
 simp -implicitDefEqProofs only [MU]
 have hxc : Ext (In D 0 74) Non (s.cxN cxN) (sb.rdN (D + (0 + 0))) := hxb.step (Ext.rdN (F := In D 0 74) (G := Non) sb _ fun _ => ⟨by omega, by omega⟩) hbd (fun _ _ h => h) fun _ h => h.elim
 have hdc : Dig (sb.rdN (D + (0 + 0))) D d := hdb.same rfl rfl
 have ho2c : AQ (sb.rdN (D + (0 + 0))) s.next 0 32 := fun j hj => let ⟨u, h⟩ := ho2 j hj; ⟨u, h.same rfl rfl⟩
 have ho3c : AQ (sb.rdN (D + (0 + 0))) sa.next 0 32 := fun j hj => let ⟨u, h⟩ := ho3 j hj; ⟨u, h.same rfl rfl⟩
 have nc : (sb.rdN (D + (0 + 0))).next = sb.next := rfl
 refine W.cond (v := false) TS Az_ (by simp [T.get_set]) (by omega) (fun h => by cases h) fun _ => ?_
 generalize sb.rdN (D + (0 + 0)) = sc at hxc hdc ho2c ho3c nc ⊢
 refine TJ.w Ee_ (by omega) ?_
 simp -implicitDefEqProofs only [QS, AK, W_oS, AI, W_mv, AM, T.get_set, reduceIte, Br, reduceCtorEq, ↓reduceIte, h0]
 refine W.loadA Rm hdc.toRow.row (d.row_len hd.len) fun sd md nd xd => ?_
 have hxd : Ext (In D 0 74) Non (s.cxN cxN) sd := hxc.step xd hbd (fun _ _ h => h) fun _ h => h.elim
 refine W.alloc Ud fun se ne xe oe => ?_
 have ne' : se.next = sd.next + 75 := ne
 have hxe : Ext (In D 0 74) Non (s.cxN cxN) se := hxd.step xe hbd (fun _ _ h => h.elim) fun _ h => h.elim
 have hnd : sd.next = sc.next := nd
 refine W.store Rm (d.row_len hd.len) d.row_one (fun i hi => oe.owned i (by simp; omega)) fun sf nf xf of => ?_
 have hnf : sf.next = se.next := nf
 have hG : ∀ x, In sd.next 0 74 x → s.next ≤ x := fun x h => by have := h.1; omega
 have hxf : Ext (In D 0 74) Non (s.cxN cxN) sf := hxe.step xf hbd (fun x hx h => by
   have h1 := hG x h
   have h2 : x < s.lim := hx
   omega) fun x h => hG x h
 have hbf : sf.lim ≤ sf.next := hxf.bnd hbd
 have hcf : Dig sf sd.next d := Dig.ofRow of hd.len hd.byt hd.ok
 have hdf : Dig sf D d := hd0.ext0 hxf
 have ho2f : AQ sf s.next 0 32 := ((ho2c.ext1 xd fun _ _ h => h).ext1 xe fun _ _ h => h).ext1 xf fun x h h' => by
   have := h.2
   have := h'.1
   omega
 have ho3f : AQ sf sa.next 0 32 := ((ho3c.ext1 xd fun _ _ h => h).ext1 xe fun _ _ h => h).ext1 xf fun x h h' => by
   have := h.2
   have := h'.1
   omega
 refine BT_ (D := D) (C := sd.next) (O2 := s.next) (O3 := sa.next) (d := d) hbf hxf.cx hmax (by omega) (by omega) (by omega) (by omega) hdf hcf ho3f ho2f (by omega) Ar_ (by simp [T.get_set, h0]) (by simp [T.get_set]) (by simp [T.get_set]) (by simp [T.get_set]) fun sg xg => ?_
 have hxg : Ext (In D 0 74) Non (s.cxN cxN) sg := hxf.step xg hbd (fun x hx h => by
   have h2 : x < s.lim := hx
   rcases h with h | h
   · exact h
   · omega) fun x h => h
 exact q _ hxg.cx'
theorem DS.write_n : ∀ (f : Nat) (d : DS) (b : List Nat), b.length ≤ f → (DS.write f d b).n = d.n + b.length
 | 0, d, b, h => by
   have : b.length = 0 := by omega
   unfold DS.write
   omega
 | f + 1, d, b, h => by
   unfold DS.write
   by_cases hb : b.length = 0
   · rw [if_pos hb]; omega
   · rw [if_neg hb]
     obtain ⟨hk1, hk2⟩ := d.k_le b
     have hm : d.n % 64 < 64 := Nat.mod_lt _ (by decide)
     have hk0 : 0 < d.k b := by
       unfold DS.k
       exact Nat.lt_min.2 ⟨by omega, by omega⟩
     rw [DS.write_n f _ _ (by rw [List.length_drop]; omega), List.length_drop]
     show d.n + d.k b + (b.length - d.k b) = _
     omega
theorem Rj (b : List Nat) : (sumB b).length = 32 := DS.sum_len _
theorem Bs.bn' {s : St} {v : Value} {b : List Nat} (h : Bs s v b) (hb : b ≠ []) : Bn s v b := by
 rcases h with ⟨_, h⟩ | h
 · exact absurd h hb
 · exact h
theorem Z7 {n : Nat} {v : Value} {b : List Nat} {s : St} {Q : Value → St → Prop} (hbd : s.lim ≤ s.next) (hbs : Bs s v b) (hlt : ∀ x, BsF v x → x < s.next) (hby : Byt b) (hmax : b.length ≤ 900000) (hn : 20 * b.length + 2600 ≤ n)
   (q : ∀ s1, Ext (BsF v) Non s s1 → Q (.agg (u8l (sumB b)).toArray) s1) : W (AJ envS (runF envS n) 61 [v]) s Q := by
 refine Ut fun tm h0 => ?_
 have hbs0 : Bs (s.cxN cxN) v b := hbs.same rfl rfl
 refine Xo.w rfl (by omega) ?_
 simp -implicitDefEqProofs only [Ph, AK, AI, AM]
 refine W.alloc IS fun sa na xa oa => ?_
 have na' : sa.next = s.next + 33 := na
 have hxa : Ext (BsF v) Non (s.cxN cxN) sa := (Ext.refl _).step xa hbd (fun _ _ h => h.elim) fun _ h => h.elim
 refine UP.w Xc (by omega) ?_
 simp -implicitDefEqProofs only [Pm, AK, W_on, AI, W_mv, AM, Bo, B4]
 refine BA_ (hxa.bnd hbd) (by omega) fun sb D hD1 hD2 xb hd => ?_
 have hxb : Ext (BsF v) Non (s.cxN cxN) sb := hxa.step xb hbd (fun _ _ h => h.elim) fun _ h => h.elim
 refine CN_.w ZP (by omega) ?_
 simp -implicitDefEqProofs only [Q7, AK, W_on, AI, W_mv, T.get_set, By, Bo, Bg, B4, reduceIte, reduceCtorEq, ↓reduceIte, h0]
 have hbsb : Bs sb v b := hbs0.ext0 hxb
 refine QE (hxb.bnd hbd) (fun x h h' => by have := hlt x h; have := h'.1; omega) hd (show 0 + b.length ≤ 1000000000 by omega) (fun h => hbsb.bn' h) hbsb hby (by omega) fun sc xc hdc => ?_
 have hG : ∀ x, In D 0 74 x → s.next ≤ x := fun x h => by have := h.1; omega
 have hxc : Ext (BsF v) Non (s.cxN cxN) sc := hxb.step xc hbd (fun x hx h => by
   have h2 : x < s.lim := hx
   rcases h with h | h
   · have := hG x h; omega
   · exact h) fun x h => hG x h
 have hoc : AQ sc s.next 0 32 := ((Al.owned oa).ext1 xb fun _ _ h => h).ext1 xc fun x h h' => by
   have h1 : x < s.next + 0 + 32 := h.2
   have := h'.1
   omega
 refine FC_.w Fx_ (by omega) ?_
 simp -implicitDefEqProofs only [N3, AK, W_oS, W_on, AI, W_mv, T.get_set, By, Bo, Bg, B4, reduceIte, Nat.reduceEqDiff, ↓reduceIte]
 refine AX_ (hxc.bnd hbd) hdc (by rw [DS.write_n _ _ _ (Nat.le_refl _)]; show 0 + b.length ≤ _; omega) (by omega) fun sd xd => ?_
 have hxd : Ext (BsF v) Non (s.cxN cxN) sd := hxc.step xd hbd (fun x hx h => by
   have h2 : x < s.lim := hx
   have := hG x h
   omega) fun _ h => h.elim
 have hod : AQ sd s.next 0 32 := hoc.ext1 xd fun _ _ h => h
 have hlen : (u8l (DS.write b.length DS.new b).sum).length = 32 := by rw [A4]; exact DS.sum_len _
 refine W.store E0 hlen (D3 _) hod fun se ne xe oe => ?_
 have hG2 : ∀ x, In s.next 0 32 x → s.next ≤ x := fun x h => by have := h.1; omega
 have hxe : Ext (BsF v) Non (s.cxN cxN) se := hxd.step xe hbd (fun x hx h => by
   have h2 : x < s.lim := hx
   have := hG2 x h
   omega) hG2
 refine W.endC (r := 2) AN_ (.inl Gt_) (by omega) QR Uw hxe.cx (by simp [T.get_set]; rfl) ?_
 refine W.loadA E0 oe.row hlen fun sf mf nf xf => ?_
 have hxf : Ext (BsF v) Non (s.cxN cxN) sf := hxe.step xf hbd (fun x hx h => by
   have h2 : x < s.lim := hx
   have := hG2 x h
   omega) fun _ h => h.elim
 exact q _ hxf.cx'
theorem EU_ {E : Env} {t n sz l c : Nat} {a : Addr} {s : St} (h : arrN E t = some (n, sz)) (h1 : n ≤ l) (h2 : 0 < l) (Q : Value → St → Prop) : W (CR E t (.slice (some a) l c)) s Q = Q (.pointer (some a)) s := by
 obtain ⟨i, e, ie, g1, g2, g3, g4⟩ := OT h
 refine A5 ?_
 unfold CR
 rw [AW (show ti E t s = .some i s by unfold ti; rw [g1]; rfl), g2]
 show M.chk (Nat.ble n l && Nat.blt 0 l) (M.pure (Value.pointer (some a))) s = _
 rw [Nat.ble_eq_true_of_le h1, Bv h2]
 rfl
theorem Wv : arrN envS 59 = some (16, 1) := by kernel_rfl
theorem LS : tyS envS 59 = some (16, true) := by kernel_rfl
theorem Wd : Fr envS 59 = some (List.replicate 16 (.int .u8 0)) := by kernel_rfl
theorem U4 (b : List Nat) : (idB b).length = 16 := by unfold idB; rw [List.length_take, Rj]; rfl
theorem Rt {n : Nat} {v : Value} {b : List Nat} {s : St} {Q : Value → St → Prop} (hbd : s.lim ≤ s.next) (hbs : Bs s v b) (hlt : ∀ x, BsF v x → x < s.next) (hby : Byt b) (hmax : b.length ≤ 900000) (hn : 20 * b.length + 2700 ≤ n)
   (q : ∀ s1, Ext (BsF v) Non s s1 → Q (.agg (u8l (idB b)).toArray) s1) : W (AJ envS (runF envS n) 23 [v]) s Q := by
 refine Tn fun tm h0 => ?_
 have hbs0 : Bs (s.cxN cxN) v b := hbs.same rfl rfl
 refine Gf_.w rfl (by omega) ?_
 simp -implicitDefEqProofs only [O5, AK, AI, AM]
 refine W.alloc Wd fun sa na xa oa => ?_
 have na' : sa.next = s.next + 17 := na
 have hxa : Ext (BsF v) Non (s.cxN cxN) sa := (Ext.refl _).step xa hbd (fun _ _ h => h.elim) fun _ h => h.elim
 refine CB_.w EO_ (by omega) ?_
 simp -implicitDefEqProofs only [R3, AK, W_oS, W_on, AI, W_mv, AM, T.get_set, By, Bo, Bg, B4, reduceIte, reduceCtorEq, ↓reduceIte, h0]
 refine Z7 (hxa.bnd hbd) (hbs0.ext0 hxa) (fun x h => by have := hlt x h; omega) hby hmax (by omega) fun sb xb => ?_
 have hxb : Ext (BsF v) Non (s.cxN cxN) sb := hxa.step xb hbd (fun _ _ h => h) fun _ h => h.elim
 refine W.alloc IS fun sc nc xc oc => ?_
 have hxc : Ext (BsF v) Non (s.cxN cxN) sc := hxb.step xc hbd (fun _ _ h => h.elim) fun _ h => h.elim
 have hbn : sa.next ≤ sb.next := xb.nxt
 have hlen : (u8l (sumB b)).length = 32 := by rw [A4]; exact Rj _
 refine W.store E0 hlen (D3 _) (fun i hi => oc.owned i (by simp; omega)) fun sd nd xd od => ?_
 have hG : ∀ x, In sb.next 0 32 x → s.next ≤ x := fun x h => by have := h.1; omega
 have hxd : Ext (BsF v) Non (s.cxN cxN) sd := hxc.step xd hbd (fun x hx h => by
   have h2 : x < s.lim := hx
   have := hG x h
   omega) hG
 have ho2 : AQ sd s.next 0 16 := (((Al.owned oa).ext1 xb fun _ _ h => h).ext1 xc fun _ _ h => h).ext1 xd fun x h h' => by
   have h1 : x < s.next + 0 + 16 := h.2
   have := h'.1
   omega
 refine Zw.w WP (by omega) ?_
 simp -implicitDefEqProofs only [PW, AK, W_oS, W_on, AI, T.get_set, Bg, reduceIte, Nat.reduceEqDiff, ↓reduceIte]
 simp -implicitDefEqProofs only [I9 (lo := none) (hi := some (.int .i64 16)) (l := 0) (h := 16) Px (Ca (by decide)) rfl rfl (Nat.zero_le _) (by decide), EU_ Wv (show 16 ≤ 16 - 0 by decide) (by decide), reduceIte, reduceCtorEq, ↓reduceIte]
 have hlen2 : (u8l (idB b)).length = 16 := by rw [A4]; exact U4 _
 have hod : Al sd sb.next 0 (u8l (idB b)) := by
   have := od.take (n := 16)
   show Al sd sb.next 0 (u8l ((sumB b).take 16))
   unfold u8l
   rw [List.map_take]
   exact this
 refine W.loadA LS hod.row hlen2 fun se me ne xe => ?_
 have hxe : Ext (BsF v) Non (s.cxN cxN) se := hxd.step xe hbd (fun x hx h => by
   have h2 : x < s.lim := hx
   have h3 : sb.next + (0 + 0 * 1) ≤ x := h.1
   omega) fun _ h => h.elim
 have ho2e : AQ se s.next 0 16 := ho2.ext1 xe fun _ _ h => h
 refine W.store LS hlen2 (D3 _) ho2e fun sf nf xf of => ?_
 have hG2 : ∀ x, In s.next 0 16 x → s.next ≤ x := fun x h => by have := h.1; omega
 have hxf : Ext (BsF v) Non (s.cxN cxN) sf := hxe.step xf hbd (fun x hx h => by
   have h2 : x < s.lim := hx
   have := hG2 x h
   omega) hG2
 refine W.endC (r := 2) EX_ (.inl S9) (by omega) RJ Th hxf.cx (by simp [T.get_set]; rfl) ?_
 refine W.loadA LS of.row hlen2 fun sg mg ng xg => ?_
 have hxg : Ext (BsF v) Non (s.cxN cxN) sg := hxf.step xg hbd (fun x hx h => by
   have h2 : x < s.lim := hx
   have := hG2 x h
   omega) fun _ h => h.elim
 exact q _ hxg.cx'
def Ft (l : List Nat) : Option Value := valR (callF envS 100000 23 [ED 5 5] (CI (u8l l)))
theorem Gh_ {l : List Nat} {v : Value} (hl : l.length = 5) (hb : Byt l) (h : Ft l = some v) : v = .agg (u8l (idB l)).toArray := by
 have hw : W (AJ envS (runF envS 100000) 23 [ED 5 5]) (CI (u8l l)) fun u _ => u = .agg (u8l (idB l)).toArray := by
   have h0 := ND l (cap := 5) (by omega) (by rw [hl]; decide)
   rw [hl] at h0
   exact Rt (s := CI (u8l l)) (Nat.zero_le _) h0 (fun x hx => by obtain ⟨_, h⟩ := hx; show x < (u8l l).length + 1; rw [A4]; omega) hb (by omega) (by omega) fun s1 _ => rfl
 obtain ⟨u, s1, e, rfl⟩ := hw
 obtain ⟨s2, e2⟩ := IW h
 have e3 : AJ envS (runF envS 100000) 23 [ED 5 5] (CI (u8l l)) = .some v s2 := e2
 rw [e] at e3
 cases e3
 rfl
def aggB (v : Option Value) : List Nat := match v with
  | some (.agg c) => (CD c.toList).getD []
  | _ => []
theorem MS {nv : Nat → IntKind × Int} (x : List Nat) : (u8l x).map (cV nv) = u8l x := by
 unfold u8l
 rw [List.map_map]
 rfl
theorem NU : ∀ {l m : List Nat}, u8l l = u8l m → l = m
 | [], [], _ => rfl
 | [], _ :: _, e => by cases e
 | _ :: _, [], e => by cases e
 | a :: l, b :: m, e => by
   have e' : Value.int .u8 (a : Nat) :: u8l l = Value.int .u8 (b : Nat) :: u8l m := e
   injection e' with e1 e2
   injection e1 with _ e3
   rw [show a = b by omega, NU e2]
theorem X2 : ∀ {l m : List Nat}, CD (u8l l) = some m → l = m
 | [], m, e => by cases e; rfl
 | a :: l, m, e => by
   have h := (Fb (nv := fun _ => (.i64, 0)) e).1
   rw [MS] at h
   exact NU h
theorem OY {l m : List Nat} (hl : l.length = 5) (hb : Byt l) (h : aggB (Ft l) = m) (hm : m ≠ []) : idB l = m := by
 cases e : Ft l with
 | none => rw [e] at h; exact absurd h.symm hm
 | some v =>
   have := Gh_ hl hb e
   subst this
   rw [e] at h
   have h' : (CD (u8l (idB l)).toArray.toList).getD [] = m := h
   rw [List.toList_toArray] at h'
   cases e2 : CD (u8l (idB l)) with
   | none => rw [e2] at h'; exact absurd h'.symm hm
   | some x =>
     rw [e2] at h'
     rw [← show x = m from h']
     exact X2 e2
def tabF : Nat → List Nat
  | 0 => [7, 3, 1, 5, 0, 182, 20, 104, 43, 170, 30, 60, 153, 232, 27, 167, 24, 2, 216, 111, 164]
  | 1 => [7, 3, 2, 5, 0, 10, 233, 238, 11, 185, 24, 113, 79, 13, 81, 24, 209, 93, 196, 100, 75]
  | 2 => [7, 3, 3, 5, 0, 110, 224, 132, 22, 210, 145, 207, 164, 175, 42, 7, 87, 216, 206, 156, 183]
  | 3 => [7, 3, 4, 5, 0, 42, 138, 196, 238, 53, 208, 14, 168, 110, 195, 66, 109, 168, 185, 81, 84]
  | 4 => [7, 3, 5, 5, 0, 118, 51, 223, 180, 7, 167, 163, 159, 221, 110, 141, 174, 181, 189, 24, 163]
  | 5 => [7, 3, 6, 5, 0, 172, 214, 24, 77, 246, 199, 159, 96, 40, 228, 130, 115, 242, 9, 23, 195]
  | _ => []
theorem ZC : ∀ k, k < 6 → aggB (Ft (Be k)) = (tabF k).drop 5
 | 0, _ => by kernel_rfl
 | 1, _ => by kernel_rfl
 | 2, _ => by kernel_rfl
 | 3, _ => by kernel_rfl
 | 4, _ => by kernel_rfl
 | 5, _ => by kernel_rfl
theorem L9 (k : Nat) (hk : k < 6) : Byt (Be k) := fun x h => by
 unfold Be at h
 simp only [List.mem_cons, List.not_mem_nil, or_false] at h
 rcases h with rfl | rfl | rfl | rfl | rfl <;> omega
theorem Kr (k : Nat) (hk : k < 6) : idB (Be k) = (tabF k).drop 5 := OY rfl (L9 k hk) (ZC k hk) (by
 match k, hk with
 | 0, _ | 1, _ | 2, _ | 3, _ | 4, _ | 5, _ => intro e; cases e)
theorem K7 (k : Nat) (hk : k < 6) : tabF k = AT k := by
 unfold AT
 rw [Kr k hk]
 match k, hk with
 | 0, _ | 1, _ | 2, _ | 3, _ | 4, _ | 5, _ => rfl
theorem LQ (l : List Nat) (b j : Nat) (hj : j < l.length) : (AO l b).getD j 0 = if j = b / 8 then l.getD j 0 ^^^ 2 ^ (b % 8) else l.getD j 0 := by
 unfold AO
 rw [List.getD_eq_getElem?_getD, List.getElem?_set]
 by_cases h : b / 8 = j
 · rw [if_pos h, if_pos (by omega), if_pos h.symm, ← h]
   rfl
 · rw [if_neg h, if_neg (fun e => h e.symm), ← List.getD_eq_getElem?_getD]
theorem GV_ (l : List Nat) (b : Nat) : AO (AO l b) b = l := by
 have e : (AO l b).length = l.length := CQ _ _
 have e2 : (AO (AO l b) b).length = l.length := (CQ _ _).trans e
 refine List.ext_getElem e2 fun i h1 h2 => ?_
 have g : ∀ (m : List Nat) (h : i < m.length), m[i] = m.getD i 0 := fun m h => by rw [List.getD_eq_getElem?_getD, List.getElem?_eq_getElem h]; rfl
 rw [g _ h1, g _ h2, LQ _ _ _ (by omega), LQ _ _ _ h2]
 split
 · rw [Nat.xor_assoc, Nat.xor_self, Nat.xor_zero]
 · rfl
def F9 (k : Nat) : List Value := (Bc (40000 + 100 * k) 21).map fun i => Value.complex .f32 6 i
def Ks (k : Nat) (l : List Value) : Option (List Value) := match CD l with
  | some x => if x == tabF k then some (F9 k) else none
  | none => match tokL l with
    | some a => if a == Bc (40000 + 100 * k) 21 then some (u8l (tabF k)) else none
    | none => none
theorem TF {nv : Nat → IntKind × Int} {k : Nat} {f : List Nat} (hl : f.length = 21) (h : ∀ j, j < 21 → nv (40000 + 100 * k + j) = (.u8, ((f.getD j 0 : Nat) : Int))) : (F9 k).map (cV nv) = u8l f := by
 unfold F9 Bc
 rw [List.range'_eq_map_range, List.map_map, List.map_map]
 refine List.ext_getElem (by simp [hl]) fun i h1 h2 => ?_
 have hi : i < 21 := by simpa using h1
 simp only [List.getElem_map, List.getElem_range, Function.comp]
 have e6 : cV nv (.complex .f32 6 (40000 + 100 * k + i)) = .int (nv (40000 + 100 * k + i)).1 (nv (40000 + 100 * k + i)).2 := by
   unfold cV
   exact if_pos rfl
 rw [e6, h i hi]
 rw [List.getD_eq_getElem?_getD, List.getElem?_eq_getElem (by omega)]
 rfl
theorem FF_ {nv : Nat → IntKind × Int} (hs : BU nv) {k : Nat} (hk : k < 6) {l l' : List Value} (e : Ks k l = some l') : ∃ (bit : Nat) (x : List Nat), bit < 168 ∧ nv (31000 + k) = (.i64, (bit : Int)) ∧ x.length = 21 ∧ (∀ y ∈ x, y < 256) ∧ l.map (cV nv) = u8l x ∧ l'.map (cV nv) = u8l (AO x bit) ∧ l'.length = 21 := by
 obtain ⟨bit, g1, g2, g3, g4, g5, g6⟩ := hs.1 k hk
 have hm := TF (k := k) (f := AO (AT k) bit) (by rw [CQ, DW]) g4
 have hlen : (F9 k).length = 21 := by unfold F9 Bc; simp
 unfold Ks at e
 split at e
 · rename_i x e1
   split at e
   · rename_i q
     cases e
     obtain ⟨h1, h2⟩ := Fb (nv := nv) e1
     have hx : x = AT k := (beq_iff_eq.1 q).trans (K7 k hk)
     subst hx
     exact ⟨bit, _, g1, g2, DW k, h2, h1, hm, hlen⟩
   · cases e
 · split at e
   · rename_i a e1
     split at e
     · rename_i q
       cases e
       have ha := beq_iff_eq.1 q
       subst ha
       have h1 := (Hd (nv := nv) e1 fun i hi => by
         unfold Bc at hi
         obtain ⟨i1, i2⟩ := List.mem_range'_1.1 hi
         have := g4 (i - (40000 + 100 * k)) (by omega)
         rw [show 40000 + 100 * k + (i - (40000 + 100 * k)) = i by omega] at this
         exact ⟨_, this, Er (Gk k hk bit) _⟩).1
       have hnm : ((Bc (40000 + 100 * k) 21).map fun i => (nv i).2.toNat) = AO (AT k) bit := by
         rw [HL (AO (AT k) bit) _ _ 0 21 (fun j hj => by rw [Nat.zero_add]; exact g4 j hj), IA _ 0 21 (by rw [CQ, DW]), List.drop_zero]
       rw [hnm] at h1
       refine ⟨bit, _, g1, g2, (by rw [CQ, DW]), Gk k hk bit, h1, ?_, by rw [A4, K7 k hk, DW]⟩
       rw [GV_, MS, K7 k hk]
     · cases e
   · cases e
def wrR (b : Nat) (vs : List Value) : Nat → M Unit := List.rec (motive := fun _ => Nat → M Unit) (fun _ => M.pure ()) (fun v _ ih o => M.bind (wrC (b + o) (.C b v)) fun _ => ih (Nat.succ o)) vs
theorem Rb (b : Nat) : ∀ (vs : List Value) (o : Nat), Loc (wrR b vs o)
 | [], _ => Ab _
 | v :: vs, o => Aa (BO _ _) fun _ => Rb b vs (Nat.succ o)
theorem Pu (b : Nat) : ∀ (vs : List Value) (o : Nat), NoPan (wrR b vs o)
 | [], _ => Ag _
 | v :: vs, o => Ac (BT _ _) fun _ => Pu b vs (Nat.succ o)
theorem RQ {b : Nat} : ∀ {vs : List Value} {o : Nat} {s s' : St}, wrR b vs o s = .some () s' → s'.next = s.next ∧ s'.lim = s.lim ∧ s'.cx = s.cx ∧ ∀ loc, T.get s'.mem loc = if b + o ≤ loc ∧ loc < b + o + vs.length then (vs[loc - (b + o)]?).map (Cell.C b) else T.get s.mem loc
 | [], o, s, s', h => by
   obtain ⟨_, rfl⟩ := Af (show M.pure () s = .some () s' from h)
   exact ⟨rfl, rfl, rfl, fun loc => by rw [if_neg (by simp)]⟩
 | v :: vs, o, s, s', h => by
   obtain ⟨u, s1, e1, e2⟩ := bind_some (show M.bind (wrC (b + o) (.C b v)) _ s = .some () s' from h)
   obtain ⟨h1, h2, h3, h4⟩ := Ej e1
   obtain ⟨k1, k2, k3, k4⟩ := RQ (show wrR b vs (Nat.succ o) s1 = .some () s' from e2)
   refine ⟨k1.trans h2, k2.trans h3, k3.trans h4, fun loc => ?_⟩
   rw [k4, h1, T.get_set]
   simp only [List.length_cons, Nat.succ_eq_add_one]
   by_cases q1 : loc = b + o
   · subst q1
     rw [if_neg (by omega), if_pos rfl, if_pos (by omega), Nat.sub_self]
     rfl
   · by_cases q2 : b + (o + 1) ≤ loc ∧ loc < b + (o + 1) + vs.length
     · rw [if_pos q2, if_pos (by omega), show loc - (b + o) = loc - (b + (o + 1)) + 1 by omega]
       rfl
     · rw [if_neg q2, if_neg q1, if_neg (by omega)]
def Lv : List Value → Option Nat
  | [.bool true, .map (some m)] => some m
  | _ => none
def Le : List Value → Option (Nat × Nat)
  | [.slice (some ⟨b, 0, none⟩) n c, .slice none 0 0] => if n = 21 then some (b, c) else none
  | _ => none
def H5 : List MapEntry → Option (List ByteArray)
  | [] => some []
  | e :: l => match e.key, H5 l with
    | .string a, some m => some (a :: m)
    | _, _ => none
theorem Qj : ∀ {es : List MapEntry} {ns : List ByteArray}, H5 es = some ns → es.map (·.key) = ns.map Value.string
 | [], ns, h => by cases h; rfl
 | e :: l, ns, h => by
   unfold H5 at h
   split at h
   · rename_i a m e1 e2
     cases h
     rw [List.map_cons, List.map_cons, e1, Qj e2]
   · cases h
def ptrB : Value → Option Nat
  | .pointer (some ⟨B, 0, none⟩) => some B
  | _ => none
theorem CO_ {v : Value} {B : Nat} (h : ptrB v = some B) : v = .pointer (some ⟨B, 0, none⟩) := by
 unfold ptrB at h
 split at h
 · cases h; rfl
 · cases h
def entF (a : ByteArray) (es : List MapEntry) : Option Nat := match H5 es with
  | some ns => match ns.findIdx? fun x => a == x with
    | some j => match es[j]? with
      | some e => ptrB e.val
      | none => none
    | none => none
  | none => none
def entB (a : ByteArray) (c : Cell) : Option Nat := match c with
  | .O (.map es _) => entF a es
  | _ => none
theorem CD_ {a : ByteArray} {c : Cell} {B : Nat} (h : entB a c = some B) : ∃ (es : List MapEntry) (mx : Nat) (ns : List ByteArray) (j : Nat) (e : MapEntry), c = .O (.map es mx) ∧ es.map (·.key) = ns.map Value.string ∧ (ns.findIdx? fun x => a == x) = some j ∧ es[j]? = some e ∧ e.val = .pointer (some ⟨B, 0, none⟩) := by
 unfold entB at h
 split at h
 · rename_i es mx
   unfold entF at h
   split at h
   · rename_i ns e1
     split at h
     · rename_i j e2
       split at h
       · rename_i e e3
         exact ⟨es, mx, ns, j, e, rfl, Qj e1, e2, e3, CO_ h⟩
       · cases h
     · cases h
   · cases h
 · cases h
def ES (args : List Value) : M Value := match args with
  | [.pointer (some ⟨D, 0, none⟩), .string a, .complex _ 6 c] =>
    M.chk (Nat.ble 31000 c && Nat.blt c 31006) (M.bind (rowR D 0 2) fun hd => M.on (Lv hd) fun mp => M.bind (rdC mp) fun co => M.on (entB a co) fun B => M.bind (rowR B 0 2) fun fv => M.on (Le fv) fun p => M.bind (rowR p.1 0 21) fun l => M.on (Ks (c - 31000) l) fun l' => M.bind (wrR p.1 l' 0) fun _ => M.pure (.int .i64 0))
  | _ => M.fail
theorem Ga_ (a : List Value) : Loc (ES a) := by
 unfold ES
 split
 · exact Ak _ (Aa (D2 _ _ _) fun _ => Ah _ fun _ => Aa (B1 _) fun _ => Ah _ fun _ => Aa (D2 _ _ _) fun _ => Ah _ fun _ => Aa (D2 _ _ _) fun _ => Ah _ fun _ => Aa (Rb _ _ _) fun _ => Ab _)
 · exact Ad
theorem Yb (a : List Value) : NoPan (ES a) := by
 unfold ES
 split
 · exact An _ (Ac (DK _ _ _) fun _ => Ai _ fun _ => Ac (B7 _) fun _ => Ai _ fun _ => Ac (DK _ _ _) fun _ => Ai _ fun _ => Ac (DK _ _ _) fun _ => Ai _ fun _ => Ac (Pu _ _ _) fun _ => Ag _)
 · exact Aj
theorem Fv_ {l : List Value} {m : Nat} (h : Lv l = some m) : l = [.bool true, .map (some m)] := by
 unfold Lv at h
 split at h
 · cases h; rfl
 · cases h
theorem AJ_ {l : List Value} {p : Nat × Nat} (h : Le l = some p) : l = [.slice (some ⟨p.1, 0, none⟩) 21 p.2, .slice none 0 0] := by
 unfold Le at h
 split at h
 · split at h
   · rename_i q
     cases h
     rw [q]
   · cases h
 · cases h
theorem Al.same2 {s s' : St} {b o : Nat} {l : List Value} (h : Al s' b o l) (hm : s'.mem = s.mem) (hn : s'.next = s.next) : Al s b o l := fun i v e => by
 obtain ⟨h1, h2⟩ := h i v e
 exact ⟨by rw [← hn]; exact h1, by rw [← hm]; exact h2⟩
theorem Xv : OrcOK Tryz.prog 22 ES :=
 RL (E := envS) (fuel := 1000) IZ (by kernel_rfl) Ga_ Yb fun nv hs args s v s' h hb => by
   unfold ES at h
   split at h
   · rename_i D a kd c
     obtain ⟨hc, h⟩ := AP h
     rw [Bool.and_eq_true] at hc
     have c1 : 31000 ≤ c := Nat.le_of_ble_eq_true hc.1
     have c2 : c < 31006 := Nat.lt_of_lt_of_le (Nat.lt_succ_self _) (Nat.le_of_ble_eq_true hc.2)
     obtain ⟨hd, s1, e1, h⟩ := bind_some h
     obtain ⟨mp, e2, h⟩ := AS h
     obtain ⟨co, s2, e3, h⟩ := bind_some h
     obtain ⟨B, e4, h⟩ := AS h
     obtain ⟨fv, s3, e5, h⟩ := bind_some h
     obtain ⟨p, e6, h⟩ := AS h
     obtain ⟨l, s4, e7, h⟩ := bind_some h
     obtain ⟨l', e8, h⟩ := AS h
     obtain ⟨_, s5, e9, h⟩ := bind_some h
     obtain ⟨rfl, rfl⟩ := Af h
     have e2 := Fv_ e2
     subst e2
     have e6 := AJ_ e6
     subst e6
     obtain ⟨es, mx, ns, j, e, rfl, he, hj, hej, hev⟩ := CD_ e4
     obtain ⟨m1, n1, l1, x1⟩ := Dt _ _ _ _ _ _ e1
     obtain ⟨hg, m2, n2, l2, x2⟩ := B0 e3
     have hlt := Sb e3
     obtain ⟨m3, n3, l3, x3⟩ := Dt _ _ _ _ _ _ e5
     obtain ⟨m4, n4, l4, x4⟩ := Dt _ _ _ _ _ _ e7
     have rD := (EV e1).2
     have rB := (EV e5).2.same2 (m2.trans m1) (n2.trans n1)
     obtain ⟨hl21, rl⟩ := EV e7
     have rl := rl.same2 (m3.trans (m2.trans m1)) (n3.trans (n2.trans n1))
     obtain ⟨bit, x, b1, b2, b3, b4, b5, b6, b7⟩ := FF_ hs (show c - 31000 < 6 by omega) e8
     rw [show 31000 + (c - 31000) = c by omega] at b2
     obtain ⟨n5, l5, x5, g5⟩ := RQ e9
     have m04 : s4.mem = s.mem := m4.trans (m3.trans (m2.trans m1))
     have n04 : s4.next = s.next := n4.trans (n3.trans (n2.trans n1))
     have cD := rD.conc (nv := nv)
     have cB := rB.conc (nv := nv)
     have cl := rl.conc (nv := nv)
     rw [b5] at cl
     have oM : Obj (s.conc nv) mp (.map es mx) := ⟨by rw [n1] at hlt; exact hlt, by
       show T.get (T.mapT (cC nv) s.mem) mp = _
       rw [T.get_mapT, ← m1, hg]
       rfl⟩
     have hbit8 : bit / 8 < 21 := by omega
     have key := Ex_ (n := 1000) (s := s.conc nv) (D := D) (M := mp) (B := B) (b := p.1) (c := p.2) (j := j) (m := bit) (mx := mx) (a := a) (es := es) (ns := ns) (e := e) (l := x)
       (Q := fun u s6 => u = .int .i64 0 ∧ s6.next = (s.conc nv).next ∧ s6.mem = T.set (s.conc nv).mem (p.1 + bit / 8) (.C p.1 (.int .u8 (x.getD (bit / 8) 0 ^^^ 2 ^ (bit % 8) : Nat))))
       hb (cD 0 _ rfl) (cD 1 _ rfl) oM he hj hej hev (by rw [b3]; exact cB 0 _ rfl) (cB 1 _ rfl) cl b4 (by omega) (by omega) (by decide) fun s6 n6 m6 => ⟨rfl, n6, m6⟩
     obtain ⟨u, s6, r1, rfl, r3, r4⟩ := key
     refine ⟨by rw [l5, l4, l3, l2, l1], by rw [x5, x4, x3, x2, x1], by rw [n5, n04]; exact Nat.le_refl _, .int .i64 0, s6, ?_, rfl, by rw [r3, n5, n04]; exact Nat.le_refl _, fun loc cc ec => ?_⟩
     · have ea : List.map (cA nv) [Value.pointer (some ⟨D, 0, none⟩), .string a, .complex kd 6 c] = [.pointer (some ⟨D, 0, none⟩), .string a, .int .i64 (bit : Nat)] := by
         show [Value.pointer (some ⟨D, 0, none⟩), .string a, cA nv (.complex kd 6 c)] = _
         have h6 : cA nv (.complex kd 6 c) = .int (nv c).1 (nv c).2 := by
           show cV nv (.complex kd 6 c) = _
           unfold cV
           exact if_pos rfl
         rw [h6, b2]
       rw [ea]
       exact r1
     · rw [g5] at ec
       have hin : ∀ i, i < 21 → T.get s6.mem (p.1 + i) = some (.C p.1 (.int .u8 ((AO x bit).getD i 0 : Nat))) := fun i hi => by
         rw [r4, T.get_set, LQ _ _ _ (by omega)]
         by_cases q : i = bit / 8
         · rw [if_pos (by omega), if_pos q, q]
         · rw [if_neg (by omega), if_neg q]
           have h1 := (cl i (.int .u8 (x.getD i 0 : Nat)) (by
             unfold u8l
             rw [List.getElem?_map, List.getElem?_eq_getElem (by omega), List.getD_eq_getElem?_getD, List.getElem?_eq_getElem (by omega)]
             rfl)).2
           rwa [Nat.zero_add] at h1
       by_cases q : p.1 + 0 ≤ loc ∧ loc < p.1 + 0 + l'.length
       · rw [if_pos q] at ec
         obtain ⟨i, rfl⟩ : ∃ i, loc = p.1 + i := ⟨loc - p.1, by omega⟩
         have hi : i < 21 := by omega
         rw [show p.1 + i - (p.1 + 0) = i by omega] at ec
         obtain ⟨v, v1, rfl⟩ := Option.map_eq_some_iff.1 ec
         refine ⟨_, hin i hi, ?_⟩
         have hv : cV nv v = .int .u8 ((AO x bit).getD i 0 : Nat) := by
           have h1 := congrArg (fun m : List Value => m[i]?) b6
           simp only [List.getElem?_map, v1, Option.map_some, u8l] at h1
           rw [List.getElem?_eq_getElem (by rw [CQ]; omega)] at h1
           rw [List.getD_eq_getElem?_getD, List.getElem?_eq_getElem (by rw [CQ]; omega)]
           exact Option.some.inj h1
         show Cell.C p.1 (cV nv v) = Cell.C p.1 _
         rw [hv]
         rfl
       · rw [if_neg q, m04] at ec
         refine ⟨cC nv cc, ?_, (K1 cc).symm⟩
         rw [r4, T.get_set, if_neg (by omega)]
         show T.get (T.mapT (cC nv) s.mem) loc = _
         rw [T.get_mapT, ec]
         rfl
   · cases h
def Kp (l : List Value) : Option Value := match CD l with
  | some x => match (List.range 6).find? fun k => x == Be k with
    | some k => some (.agg (u8l ((tabF k).drop 5)).toArray)
    | none => none
  | none => match tokL l with
    | some a => match IH a with
      | some k => some (.agg (He k))
      | none => none
    | none => none
theorem FO_ {nv : Nat → IntKind × Int} (hs : BU nv) {l : List Value} {v : Value} (h : Kp l = some v) : ∃ hd : List Nat, hd.length = 5 ∧ (∀ x ∈ hd, x < 256) ∧ l.map (cV nv) = u8l hd ∧ cA nv v = .agg (u8l (idB hd)).toArray := by
 unfold Kp at h
 split at h
 · rename_i x e1
   split at h
   · rename_i k e2
     cases h
     have hk : k < 6 := List.mem_range.1 (List.mem_of_find?_eq_some e2)
     have hq : (x == Be k) = true := List.find?_some (p := fun k => x == Be k) e2
     have hx : x = Be k := beq_iff_eq.1 hq
     subst hx
     obtain ⟨h1, h2⟩ := Fb (nv := nv) e1
     refine ⟨_, rfl, h2, h1, ?_⟩
     rw [Kr k hk]
     show Value.agg ((u8l ((tabF k).drop 5)).toArray.map (cV nv)) = _
     rw [List.map_toArray, MS]
   · cases h
 · split at h
   · rename_i a e2
     split at h
     · rename_i k e3
       cases h
       obtain ⟨hk, rfl⟩ := Wo e3
       obtain ⟨hd, g1, g2, g3⟩ := Eg_ hs hk
       obtain ⟨bit, _, _, _, f4, _⟩ := hs.1 k hk
       have hby : ∀ x ∈ hd, x < 256 := fun x hx => by
         obtain ⟨j, hj, rfl⟩ := List.getElem_of_mem hx
         have k1 := g2 j (by omega)
         rw [f4 j (by omega)] at k1
         have k2 := Er (Gk k hk bit) j
         have k3 : hd.getD j 0 = hd[j] := by rw [List.getD_eq_getElem?_getD, List.getElem?_eq_getElem hj]; rfl
         have k4 := congrArg Prod.snd k1
         simp only at k4
         rw [← k3]
         omega
       have hnm : ((Bc (40000 + 100 * k) 5).map fun i => (nv i).2.toNat) = hd := by
         rw [HL hd _ _ 0 5 (fun j hj => by rw [Nat.zero_add]; exact g2 j hj), IA _ 0 5 (by omega), List.drop_zero]
       have hmap := (Hd (nv := nv) e2 fun i hi => by
         unfold Bc at hi
         obtain ⟨i1, i2⟩ := List.mem_range'_1.1 hi
         have := f4 (i - (40000 + 100 * k)) (by omega)
         rw [show 40000 + 100 * k + (i - (40000 + 100 * k)) = i by omega] at this
         exact ⟨_, this, Er (Gk k hk bit) _⟩).1
       rw [hnm] at hmap
       exact ⟨hd, g1, hby, hmap, g3⟩
     · cases h
   · cases h
def idM (args : List Value) : M Value := match args with
  | [.slice (some ⟨b, o, none⟩) 5 c] => M.chk (Nat.ble 5 (c % capU) && Bj c 1) (M.bind (rowR b o 5) fun l => M.on (Kp l) fun v => M.pure v)
  | _ => M.fail
theorem Ep_ (a : List Value) : Loc (idM a) := by
 unfold idM
 split
 · exact Ak _ (Aa (D2 _ _ _) fun _ => Ah _ fun _ => Ab _)
 · exact Ad
theorem FJ_ (a : List Value) : NoPan (idM a) := by
 unfold idM
 split
 · exact An _ (Ac (DK _ _ _) fun _ => Ai _ fun _ => Ag _)
 · exact Aj
theorem S1 (a : List Value) : Bb (idM a) := by
 unfold idM
 split
 · exact .chk _ (.bind (Dt _ _ _) fun _ => .on _ fun _ => .pure _)
 · exact .fail
theorem Wg : OrcOK Tryz.prog 23 idM := IF Tryz.func23 (by kernel_rfl) (by kernel_rfl) Ep_ FJ_ (by
 intro w0 w r args args' s s' v h hr hfr ha
 have hS : Same s s' := S1 args _ _ _ h
 have hsn : BU r.known.nv := hr.known.2
 unfold idM at h
 split at h
 · rename_i b o c
   obtain ⟨hc, h⟩ := AP h
   simp only [Bool.and_eq_true] at hc
   have hc5 : 5 ≤ c % capU := Nat.le_of_ble_eq_true hc.1
   obtain ⟨l, s1, e1, h⟩ := bind_some h
   obtain ⟨u, e2, h⟩ := AS h
   obtain ⟨rfl, _⟩ := Af h
   obtain ⟨hd, g1, hby, hmap, g3⟩ := FO_ hsn e2
   obtain ⟨p', l', rfl, q1, q2⟩ := ha.inv
   have := q2.inv_nil
   subst this
   obtain ⟨r1, r2⟩ := EV e1
   rcases q1.sl_inv with ⟨a', cc, rfl, ⟨b0, o0, b', d, t1, rfl, t3⟩, hcap, hlen⟩ | ⟨e0, _⟩
   · cases t1
     have hcc : 5 ≤ cc := by
       rcases hcap with ⟨_, rfl⟩ | ⟨_, kk, _, _, rfl, _⟩
       · exact Nat.le_trans hc5 (Nat.mod_le _ _)
       · omega
     have H1 : W (AJ envS (runF envS 3000) 23 [ED hd.length cc]) (CI (u8l hd)) fun u _ => u = .agg (u8l (idB hd)).toArray :=
       Rt (s := CI (u8l hd)) (Nat.zero_le _) (ND hd (by omega) (by rw [g1]; decide)) (fun x hx => by obtain ⟨_, h⟩ := hx; show x < (u8l hd).length + 1; rw [A4]; omega) hby (by omega) (by omega) fun s1 _ => rfl
     have hcell : ∀ i x, hd[i]? = some x → w.cell? ⟨b', i + (o + d), none⟩ = some (.int .u8 (x : Nat)) := fun i x hi => by
       have hi5 : i < l.length := by
         have := (List.getElem?_eq_some_iff.1 hi).1
         omega
       obtain ⟨_, y2⟩ := r2 i l[i] (List.getElem?_eq_getElem hi5)
       obtain ⟨b2, d2, v2, z1, z2, z3, z4, _⟩ := hr.cell _ _ _ y2
       rw [t3] at z2
       cases z2
       have z5 : cV r.known.nv l[i] = .int .u8 (x : Nat) := by
         have := congrArg (fun m : List Value => m[i]?) hmap
         simp only [List.getElem?_map, List.getElem?_eq_getElem hi5, hi, u8l, Option.map_some] at this
         exact Option.some.inj this
       have z6 := z4.conc rfl
       rw [z5] at z6
       have z7 := z6.eq_of_plain rfl
       rw [show b + (o + i) - b + d = i + (o + d) by omega] at z3
       rw [z3, z7]
     have hC := GQ_ (E := envS) (b := b') (o := o + d) (cap := cc) IZ (by kernel_rfl) (by kernel_rfl) (by rw [g1]; exact hcc) (by rw [g1]; decide) H1 (Q4 _) (hr.dom _ _ _ t3).2 hcell
     rw [g1] at hC
     refine ⟨_, hC, fun e w' ⟨he, hw⟩ => ⟨_, r, he, ?_, .same hS (hr.beyond hw), hS.2.2.1, hS.2.2.2⟩⟩
     refine .unconcA rfl ?_
     rw [g3]
     exact .of_plain (Q4 _)
   · cases e0
 · cases h)
end Go.Proofs.YtchnfdaebboaeaaGreatDoor.Am
end
