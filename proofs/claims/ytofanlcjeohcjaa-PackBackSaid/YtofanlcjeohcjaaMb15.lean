import Derived.Test.YtofanlcjeohcjaaMb14
import Derived.Test.YtofanlcjeohcjaaMb07
import Derived.KernelRfl
noncomputable section
namespace Go.Proofs.Ytofanlcjeohcjaa.Am
open Go.RowKit
def O1 : Nat := Bt Try.f105
def WV : Code := Try.f105.body.getD .skip
theorem Tx : envS.fn.get 105 = some Try.f105 := by kernel_rfl
theorem KQ_ {a0 : Value} {n : Nat} {s : St} {Q : Value → St → Prop} (h : ∀ tm, T.get tm 0 = some a0 → W (runF envS n ⟨105, 5, O1, tm, [.code WV], .run, .normal, none⟩) (s.cxN cxN) fun p s1 => Q p.1 (s1.cxN s.cx)) : W (Au envS (runF envS n) 105 [a0]) s Q :=
 W.call (by kernel_rfl) (by kernel_rfl) Tx (by kernel_rfl) rfl rfl (by simp) (h _ (by kernel_rfl))
theorem Lh_ : Try.f105.results.toList = [.tmp 2] := by kernel_rfl
def QX : List Item := skim 64 [.code WV]
def JI : List Item := skim 64 QX.tail
theorem Oz_ : skim 64 QX.tail = JI := by kernel_rfl
def RH : List Item := skim 64 JI.tail
theorem IG_ : skim 64 JI.tail = RH := by kernel_rfl
def Z6 (E : Env) (call round : Ab) (tm : T Value) : M (T Value) :=
  mv (some (.int .u32 0)) fun v2 =>
  setF 2 v2 tm fun tm1 =>
  M.pure tm1
theorem NA_ : RegEq 105 5 O1 QX Z6 := ⟨by kernel_rfl, fun _ _ _ _ _ _ _ _ _ => by kernel_rfl⟩
def YF (E : Env) (call round : Ab) (tm : T Value) : M (T Value) :=
  mv (T.get tm 0) fun v3 =>
  M.bind (M.on (some (.func (.func 130) #[] #[])) fun f => M.on (seqO [(some (.int .u32 0)), (some v3)]) fun l => AY call round f l) fun v4 =>
  mv (some v4) fun v2 =>
  setF 2 v2 tm fun tm1 =>
  M.pure tm1
theorem XB_ : RegEq 105 5 O1 JI YF := ⟨by kernel_rfl, fun _ _ _ _ _ _ _ _ _ => by kernel_rfl⟩
theorem NK_ : ∃ k, RH = .code .ret :: k := ⟨RH.tail, by kernel_rfl⟩
def JV : Nat := Bt Try.f64
def XD : Code := Try.f64.body.getD .skip
theorem Zk : envS.fn.get 64 = some Try.f64 := by kernel_rfl
theorem Lb_ {a0 : Value} {n : Nat} {s : St} {Q : Value → St → Prop} (h : ∀ tm, T.get tm 0 = some a0 → W (runF envS n ⟨64, 21, JV, tm, [.code XD], .run, .normal, none⟩) (s.cxN cxN) fun p s1 => Q p.1 (s1.cxN s.cx)) : W (Au envS (runF envS n) 64 [a0]) s Q :=
 W.call (by kernel_rfl) (by kernel_rfl) Zk (by kernel_rfl) rfl rfl (by simp) (h _ (by kernel_rfl))
theorem QE_ : Try.f64.results.toList = [.tmp 2] := by kernel_rfl
def RL : List Item := skim 64 [.code XD]
def MH : List Item := skim 64 RL.tail
theorem Qg_ : skim 64 RL.tail = MH := by kernel_rfl
def Ns : List Item := skim 64 MH.tail
theorem OY_ : skim 64 MH.tail = Ns := by kernel_rfl
def N5 : List Item := skim 64 Ns.tail
theorem UN_ : skim 64 Ns.tail = N5 := by kernel_rfl
def UC (E : Env) (call round : Ab) (tm : T Value) : M (T Value) :=
  mv (some (.slice none 0 0)) fun v2 =>
  setF 2 v2 tm fun tm1 =>
  M.pure tm1
theorem WP_ : RegEq 64 21 JV RL UC := ⟨by kernel_rfl, fun _ _ _ _ _ _ _ _ _ => by kernel_rfl⟩
def An_ (E : Env) (call round : Ab) (tm : T Value) : M (T Value) :=
  mv (T.get tm 0) fun v4 =>
  M.bind (M.on (some (.func (.func 105) #[] #[])) fun f => M.on (seqO [(some v4)]) fun l => AY call round f l) fun v5 =>
  mv (some v5) fun v3 =>
  setF 3 v3 tm fun tm1 =>
  M.pure tm1
theorem FX_ : RegEq 64 21 JV MH An_ := ⟨by kernel_rfl, fun _ _ _ _ _ _ _ _ _ => by kernel_rfl⟩
def Wy (E : Env) (call round : Ab) (tm : T Value) : M (T Value) :=
  mv (T.get tm 0) fun v6 =>
  mv (T.get tm 3) fun v7 =>
  M.bind (oS (some v7) fun a => BM E 51 5 a) fun v8 =>
  mv (T.get tm 3) fun v9 =>
  M.bind (oS (some v9) fun a => oS (some (.int .u64 8)) fun b => Cl.get (aBin E .shr 51 (.tmp 9) (.const (.int .u64 8))) a b) fun v10 =>
  M.bind (oS (some v10) fun a => BM E 51 5 a) fun v11 =>
  mv (T.get tm 3) fun v12 =>
  M.bind (oS (some v12) fun a => oS (some (.int .u64 16)) fun b => Cl.get (aBin E .shr 51 (.tmp 12) (.const (.int .u64 16))) a b) fun v13 =>
  M.bind (oS (some v13) fun a => BM E 51 5 a) fun v14 =>
  mv (T.get tm 3) fun v15 =>
  M.bind (oS (some v15) fun a => oS (some (.int .u64 24)) fun b => Cl.get (aBin E .shr 51 (.tmp 15) (.const (.int .u64 24))) a b) fun v16 =>
  M.bind (oS (some v16) fun a => BM E 51 5 a) fun v17 =>
  M.bind (oS (seqP [(0, (some v8)), (1, (some v11)), (2, (some v14)), (3, (some v17))]) fun ps => Cj E 22 4 ps) fun v18 =>
  M.bind (oS (seqP [(0, (some v6)), (1, (some v18))]) fun ps => Cj E 43 2 ps) fun v19 =>
  M.bind (M.on (some (.func (.func 63) #[] #[])) fun f => M.on (seqO [(some v19)]) fun l => AY call round f l) fun v20 =>
  mv (some v20) fun v2 =>
  setF 2 v2 tm fun tm1 =>
  M.pure tm1
theorem EH_ : RegEq 64 21 JV Ns Wy := ⟨by kernel_rfl, fun _ _ _ _ _ _ _ _ _ => by kernel_rfl⟩
theorem Gf_ : ∃ k, N5 = .code .ret :: k := ⟨N5.tail, by kernel_rfl⟩
def GI : Nat := Bt Try.f81
def Aq_ : Code := Try.f81.body.getD .skip
theorem M7 : envS.fn.get 81 = some Try.f81 := by kernel_rfl
theorem GF_ {a0 : Value} {n : Nat} {s : St} {Q : Value → St → Prop} (h : ∀ tm, T.get tm 0 = some a0 → W (runF envS n ⟨81, 23, GI, tm, [.code Aq_], .run, .normal, none⟩) (s.cxN cxN) fun p s1 => Q p.1 (s1.cxN s.cx)) : W (Au envS (runF envS n) 81 [a0]) s Q :=
 W.call (by kernel_rfl) (by kernel_rfl) M7 (by kernel_rfl) rfl rfl (by simp) (h _ (by kernel_rfl))
theorem Rg : Try.f81.results.toList = [.tmp 2, .tmp 3] := by kernel_rfl
def Qk : List Item := skim 64 [.code Aq_]
def LK : List Item := skim 64 Qk.tail
theorem VM_ : skim 64 Qk.tail = LK := by kernel_rfl
def Kh : List Item := skim 64 LK.tail
theorem Ug_ : skim 64 LK.tail = Kh := by kernel_rfl
def Hb : List Item := skim 64 Kh.tail
theorem P0 : skim 64 Kh.tail = Hb := by kernel_rfl
def Ky : List Item := skim 64 (brT Hb)
theorem T3 : skim 64 (brT Hb) = Ky := by kernel_rfl
def Ke : List Item := skim 64 (brF Hb)
theorem Oq_ : skim 64 (brF Hb) = Ke := by kernel_rfl
def OQ : List Item := skim 64 Ky.tail
theorem Au_ : skim 64 Ky.tail = OQ := by kernel_rfl
def Ri : List Item := skim 64 Ke.tail
theorem Oi_ : skim 64 Ke.tail = Ri := by kernel_rfl
def YU (E : Env) (call round : Ab) (tm : T Value) : M (T Value) :=
  mv (some (.slice none 0 0)) fun v2 =>
  setF 2 v2 tm fun tm1 =>
  mv (some (.int .i64 0)) fun v3 =>
  setF 3 v3 tm1 fun tm2 =>
  M.pure tm2
theorem Lu_ : RegEq 81 23 GI Qk YU := ⟨by kernel_rfl, fun _ _ _ _ _ _ _ _ _ => by kernel_rfl⟩
def Vp (E : Env) (call round : Ab) (tm : T Value) : M (T Value) :=
  mv (T.get tm 0) fun v5 =>
  M.bind (oS (seqO [(some v5)]) fun l => AS E .len [22] l) fun v6 =>
  M.bind (oS (some v6) fun a => oS (some (.int .i64 4)) fun b => Cl.get (aBin E .sub 3 (.tmp 6) (.const (.int .i64 4))) a b) fun v7 =>
  mv (some v7) fun v4 =>
  setF 4 v4 tm fun tm1 =>
  M.pure tm1
theorem LY_ : RegEq 81 23 GI LK Vp := ⟨by kernel_rfl, fun _ _ _ _ _ _ _ _ _ => by kernel_rfl⟩
def Qg (E : Env) (call round : Ab) (tm : T Value) : M (T Value) :=
  mv (T.get tm 4) fun v8 =>
  M.bind (oS (some v8) fun a => oS (some (.int .i64 0)) fun b => Cl.get (aBin E .lss 3 (.tmp 8) (.const (.int .i64 0))) a b) fun v9 =>
  mv (some v9) fun v10 =>
  M.bind (M.chk (isK v10) (M.if (isB v10 false) (oS (T.get tm 0) fun a => M.pure a) (M.pure undef))) fun v11 =>
  M.bind (M.chk (isK v10) (M.if (isB v10 false) (oS (T.get tm 4) fun a => M.pure a) (M.pure undef))) fun v12 =>
  M.bind (M.chk (isK v10) (M.if (isB v10 false) (M.on (some v11) fun a => M.on (some none) fun b => M.on (onO (some v12) fun v => some (some v)) fun c => Bv E 22 a b c) (M.pure undef))) fun v13 =>
  M.bind (M.chk (isK v10) (M.if (isB v10 false) (M.on (some (.func (.func 64) #[] #[])) fun f => M.on (seqO [(some v13)]) fun l => AY call round f l) (M.pure undef))) fun v14 =>
  M.bind (M.chk (isK v10) (M.if (isB v10 false) (oS (T.get tm 0) fun a => M.pure a) (M.pure undef))) fun v15 =>
  M.bind (M.chk (isK v10) (M.if (isB v10 false) (M.on (some (.func (.func 116) #[] #[])) fun f => M.on (seqO [(some v14), (some v15)]) fun l => AY call round f l) (M.pure undef))) fun v16 =>
  M.bind (M.chk (isK v10) (M.if (isB v10 false) (oS (some v16) fun a => kUn E.P .not a) (M.pure undef))) fun v17 =>
  M.bind (M.on (some v10) fun a => M.on (some (.bool true)) fun b => M.on (some v17) fun c => BI a b c) fun v18 =>
  setF 18 v18 tm fun tm1 =>
  M.pure tm1
theorem So_ : RegEq 81 23 GI Kh Qg := ⟨by kernel_rfl, fun _ _ _ _ _ _ _ _ _ => by kernel_rfl⟩
theorem Pc : A2 Hb = some 18 := by kernel_rfl
def Qr (E : Env) (call round : Ab) (tm : T Value) : M (T Value) :=
  mv (some (.slice none 0 0)) fun v2 =>
  setF 2 v2 tm fun tm1 =>
  mv (some (.int .i64 4)) fun v3 =>
  setF 3 v3 tm1 fun tm2 =>
  M.pure tm2
theorem T9 : RegEq 81 23 GI Ky Qr := ⟨by kernel_rfl, fun _ _ _ _ _ _ _ _ _ => by kernel_rfl⟩
def X2 (E : Env) (call round : Ab) (tm : T Value) : M (T Value) :=
  mv (T.get tm 0) fun v19 =>
  mv (T.get tm 4) fun v20 =>
  M.bind (M.on (some v19) fun a => M.on (some none) fun b => M.on (onO (some v20) fun v => some (some v)) fun c => Bv E 22 a b c) fun v21 =>
  M.bind (M.on (some (.func (.func 117) #[] #[])) fun f => M.on (seqO [(some v21)]) fun l => AY call round f l) fun v22 =>
  mv (some v22) fun v2 =>
  setF 2 v2 tm fun tm1 =>
  mv (some (.int .i64 0)) fun v3 =>
  setF 3 v3 tm1 fun tm2 =>
  M.pure tm2
theorem NV_ : RegEq 81 23 GI Ke X2 := ⟨by kernel_rfl, fun _ _ _ _ _ _ _ _ _ => by kernel_rfl⟩
theorem VK : ∃ k, OQ = .code .ret :: k := ⟨OQ.tail, by kernel_rfl⟩
theorem Th_ : ∃ k, Ri = .code .ret :: k := ⟨Ri.tail, by kernel_rfl⟩
def Cf : Nat := Bt Try.f63
abbrev Lg : Nat := 36
def Xm : Code := Try.f63.body.getD .skip
theorem UV : envS.fn.get 63 = some Try.f63 := by kernel_rfl
theorem MU_ {a0 : Value} {n : Nat} {s : St} {Q : Value → St → Prop} (h : ∀ tm, T.get tm 0 = some a0 → W (runF envS n ⟨63, 36, Cf, tm, [.code Xm], .run, .normal, none⟩) (s.cxN cxN) fun p s1 => Q p.1 (s1.cxN s.cx)) : W (Au envS (runF envS n) 63 [a0]) s Q :=
 W.call (by kernel_rfl) (by kernel_rfl) UV (by kernel_rfl) rfl rfl (by simp) (h _ (by kernel_rfl))
theorem Xu_ : Try.f63.results.toList = [.tmp 2] := by kernel_rfl
def Oz : List Item := skim 64 [.code Xm]
def MT : List Item := skim 64 Oz.tail
theorem Fr_ : skim 64 Oz.tail = MT := by kernel_rfl
def Nt : List Item := skim 64 MT.tail
theorem Pm_ : skim 64 MT.tail = Nt := by kernel_rfl
def Gp : List Item := skim 64 Nt.tail
theorem Jr_ : skim 64 Nt.tail = Gp := by kernel_rfl
def Hp : List Item := skim 64 Gp.tail
theorem YJ : skim 64 Gp.tail = Hp := by kernel_rfl
def Le : List Item := skim 64 (brT Hp)
theorem XV_ : skim 64 (brT Hp) = Le := by kernel_rfl
def Iz : List Item := skim 64 (brF Hp)
theorem UG_ : skim 64 (brF Hp) = Iz := by kernel_rfl
def Nu : List Item := skim 64 Le.tail
theorem Nw_ : skim 64 Le.tail = Nu := by kernel_rfl
def M5 : List Item := skim 64 Iz.tail
theorem DX_ : skim 64 Iz.tail = M5 := by kernel_rfl
def J5 : List Item := skim 64 Nu.tail
theorem Jt_ : skim 64 Nu.tail = J5 := by kernel_rfl
def Gg : List Item := skim 64 M5.tail
theorem LT_ : skim 64 M5.tail = Gg := by kernel_rfl
def KN : List Item := skim 64 J5.tail
theorem Je_ : skim 64 J5.tail = KN := by kernel_rfl
def GS : List Item := skim 64 Gg.tail
theorem VG : skim 64 Gg.tail = GS := by kernel_rfl
def QS : List Item := skim 64 (brF KN)
theorem Xo_ : skim 64 (brF KN) = QS := by kernel_rfl
def KC : List Item := skim 64 (brT GS)
theorem EC_ : skim 64 (brT GS) = KC := by kernel_rfl
def I4 : List Item := skim 64 (brF GS)
theorem UZ_ : skim 64 (brF GS) = I4 := by kernel_rfl
theorem Fx_ : skim 64 QS.tail = Gp := by kernel_rfl
def Mr : List Item := skim 64 KC.tail
theorem Uj_ : skim 64 KC.tail = Mr := by kernel_rfl
def N8 : List Item := skim 64 I4.tail
theorem DL_ : skim 64 I4.tail = N8 := by kernel_rfl
def SA : List Item := skim 64 Mr.tail
theorem Tg_ : skim 64 Mr.tail = SA := by kernel_rfl
theorem VD_ : skim 64 SA.tail = Gg := by kernel_rfl
def Y9 (E : Env) (call round : Ab) (tm : T Value) : M (T Value) :=
  mv (some (.slice none 0 0)) fun v2 =>
  setF 2 v2 tm fun tm1 =>
  M.pure tm1
theorem VP_ : RegEq 63 36 Cf Oz Y9 := ⟨by kernel_rfl, fun _ _ _ _ _ _ _ _ _ => by kernel_rfl⟩
def Zy (E : Env) (call round : Ab) (tm : T Value) : M (T Value) :=
  mv (some (.int .i64 0)) fun v3 =>
  setF 3 v3 tm fun tm1 =>
  M.pure tm1
theorem Xy_ : RegEq 63 36 Cf MT Zy := ⟨by kernel_rfl, fun _ _ _ _ _ _ _ _ _ => by kernel_rfl⟩
def Ws (E : Env) (call round : Ab) (tm : T Value) : M (T Value) :=
  mv (T.get tm 0) fun v9 =>
  setF 9 v9 tm fun tm1 =>
  M.bind (oS (seqO [(some v9)]) fun l => AS E .len [43] l) fun v10 =>
  setF 10 v10 tm1 fun tm2 =>
  mv (some (.int .i64 0)) fun v11 =>
  setF 11 v11 tm2 fun tm3 =>
  M.pure tm3
theorem Ri_ : RegEq 63 36 Cf Nt Ws := ⟨by kernel_rfl, fun _ _ _ _ _ _ _ _ _ => by kernel_rfl⟩
def QZ (E : Env) (call round : Ab) (tm : T Value) : M (T Value) :=
  M.bind (oS (T.get tm 11) fun a => oS (T.get tm 10) fun b => Cl.get (aBin E .lss 3 (.tmp 11) (.tmp 10)) a b) fun v12 =>
  setF 12 v12 tm fun tm1 =>
  M.pure tm1
theorem ZO : RegEq 63 36 Cf Gp QZ := ⟨by kernel_rfl, fun _ _ _ _ _ _ _ _ _ => by kernel_rfl⟩
theorem SO : A2 Hp = some 12 := by kernel_rfl
def AX_ (E : Env) (call round : Ab) (tm : T Value) : M (T Value) :=
  M.bind (oS (T.get tm 9) fun a => oS (T.get tm 11) fun b => BJ E 43 a b) fun v13 =>
  M.bind (oS (some v13) fun a => AQ E 22 a) fun v14 =>
  mv (some v14) fun v5 =>
  setF 5 v5 tm fun tm1 =>
  M.pure tm1
theorem Qz_ : RegEq 63 36 Cf Le AX_ := ⟨by kernel_rfl, fun _ _ _ _ _ _ _ _ _ => by kernel_rfl⟩
def Te (E : Env) (call round : Ab) (tm : T Value) : M (T Value) :=
  mv (T.get tm 3) fun v23 =>
  M.bind (M.on (some (.func (.func 106) #[] #[])) fun f => M.on (seqO [(some (.slice none 0 0)), (some v23)]) fun l => AY call round f l) fun v24 =>
  mv (some v24) fun v6 =>
  setF 6 v6 tm fun tm1 =>
  M.pure tm1
theorem Lf_ : RegEq 63 36 Cf Iz Te := ⟨by kernel_rfl, fun _ _ _ _ _ _ _ _ _ => by kernel_rfl⟩
def WW (E : Env) (call round : Ab) (tm : T Value) : M (T Value) :=
  mv (T.get tm 3) fun v15 =>
  mv (T.get tm 5) fun v16 =>
  M.bind (oS (seqO [(some v16)]) fun l => AS E .len [22] l) fun v17 =>
  M.bind (oS (some v15) fun a => oS (some v17) fun b => Cl.get (aBin E .add 3 (.tmp 15) (.tmp 17)) a b) fun v18 =>
  mv (some v18) fun v3 =>
  setF 3 v3 tm fun tm1 =>
  M.pure tm1
theorem OZ_ : RegEq 63 36 Cf Nu WW := ⟨by kernel_rfl, fun _ _ _ _ _ _ _ _ _ => by kernel_rfl⟩
def Cq_ (E : Env) (call round : Ab) (tm : T Value) : M (T Value) :=
  mv (T.get tm 0) fun v25 =>
  setF 25 v25 tm fun tm1 =>
  M.bind (oS (seqO [(some v25)]) fun l => AS E .len [43] l) fun v26 =>
  setF 26 v26 tm1 fun tm2 =>
  mv (some (.int .i64 0)) fun v27 =>
  setF 27 v27 tm2 fun tm3 =>
  M.pure tm3
theorem IC_ : RegEq 63 36 Cf M5 Cq_ := ⟨by kernel_rfl, fun _ _ _ _ _ _ _ _ _ => by kernel_rfl⟩
def Cl_ (E : Env) (call round : Ab) (tm : T Value) : M (T Value) :=
  mv (T.get tm 3) fun v19 =>
  M.bind (oS (some v19) fun a => oS (some (.int .i64 0)) fun b => Cl.get (aBin E .lss 3 (.tmp 19) (.const (.int .i64 0))) a b) fun v20 =>
  setF 20 v20 tm fun tm1 =>
  M.pure tm1
theorem Xm_ : RegEq 63 36 Cf J5 Cl_ := ⟨by kernel_rfl, fun _ _ _ _ _ _ _ _ _ => by kernel_rfl⟩
def OH (E : Env) (call round : Ab) (tm : T Value) : M (T Value) :=
  M.bind (oS (T.get tm 27) fun a => oS (T.get tm 26) fun b => Cl.get (aBin E .lss 3 (.tmp 27) (.tmp 26)) a b) fun v28 =>
  setF 28 v28 tm fun tm1 =>
  M.pure tm1
theorem Vc : RegEq 63 36 Cf Gg OH := ⟨by kernel_rfl, fun _ _ _ _ _ _ _ _ _ => by kernel_rfl⟩
theorem Qc_ : A2 KN = some 20 := by kernel_rfl
theorem YB : A2 GS = some 28 := by kernel_rfl
def XH (E : Env) (call round : Ab) (tm : T Value) : M (T Value) :=
  M.bind (oS (T.get tm 11) fun a => oS (some (.int .i64 1)) fun b => Cl.get (aBin E .add 3 (.tmp 11) (.const (.int .i64 1))) a b) fun v22 =>
  mv (some v22) fun v11 =>
  setF 11 v11 tm fun tm1 =>
  M.pure tm1
theorem Pj_ : RegEq 63 36 Cf QS XH := ⟨by kernel_rfl, fun _ _ _ _ _ _ _ _ _ => by kernel_rfl⟩
def Tj (E : Env) (call round : Ab) (tm : T Value) : M (T Value) :=
  M.bind (oS (T.get tm 25) fun a => oS (T.get tm 27) fun b => BJ E 43 a b) fun v29 =>
  M.bind (oS (some v29) fun a => AQ E 22 a) fun v30 =>
  mv (some v30) fun v8 =>
  setF 8 v8 tm fun tm1 =>
  M.pure tm1
theorem GA_ : RegEq 63 36 Cf KC Tj := ⟨by kernel_rfl, fun _ _ _ _ _ _ _ _ _ => by kernel_rfl⟩
def YO (E : Env) (call round : Ab) (tm : T Value) : M (T Value) :=
  mv (T.get tm 6) fun v35 =>
  mv (some v35) fun v2 =>
  setF 2 v2 tm fun tm1 =>
  M.pure tm1
theorem Sl_ : RegEq 63 36 Cf I4 YO := ⟨by kernel_rfl, fun _ _ _ _ _ _ _ _ _ => by kernel_rfl⟩
def WQ (E : Env) (call round : Ab) (tm : T Value) : M (T Value) :=
  mv (T.get tm 6) fun v31 =>
  mv (T.get tm 8) fun v32 =>
  M.bind (oS (seqO [(some v31), (some v32)]) fun l => AS E .append [22, 22] l) fun v33 =>
  mv (some v33) fun v6 =>
  setF 6 v6 tm fun tm1 =>
  M.pure tm1
theorem LB_ : RegEq 63 36 Cf Mr WQ := ⟨by kernel_rfl, fun _ _ _ _ _ _ _ _ _ => by kernel_rfl⟩
theorem Me_ : ∃ k, N8 = .code .ret :: k := ⟨N8.tail, by kernel_rfl⟩
def Ul (E : Env) (call round : Ab) (tm : T Value) : M (T Value) :=
  M.bind (oS (T.get tm 27) fun a => oS (some (.int .i64 1)) fun b => Cl.get (aBin E .add 3 (.tmp 27) (.const (.int .i64 1))) a b) fun v34 =>
  mv (some v34) fun v27 =>
  setF 27 v27 tm fun tm1 =>
  M.pure tm1
theorem Wh_ : RegEq 63 36 Cf SA Ul := ⟨by kernel_rfl, fun _ _ _ _ _ _ _ _ _ => by kernel_rfl⟩
def Fq : Nat := Bt Try.f106
def Uz : Code := Try.f106.body.getD .skip
theorem VZ : envS.fn.get 106 = some Try.f106 := by kernel_rfl
theorem DA_ {a0 a1 : Value} {n : Nat} {s : St} {Q : Value → St → Prop} (h : ∀ tm, T.get tm 0 = some a0 → T.get tm 1 = some a1 → W (runF envS n ⟨106, 27, Fq, tm, [.code Uz], .run, .normal, none⟩) (s.cxN cxN) fun p s1 => Q p.1 (s1.cxN s.cx)) : W (Au envS (runF envS n) 106 [a0, a1]) s Q :=
 W.call (by kernel_rfl) (by kernel_rfl) VZ (by kernel_rfl) rfl rfl (by simp) (h _ (by kernel_rfl) (by kernel_rfl))
theorem PE_ : Try.f106.results.toList = [.tmp 4] := by kernel_rfl
def Q6 : List Item := skim 64 [.code Uz]
def MQ : List Item := skim 64 Q6.tail
theorem RN_ : skim 64 Q6.tail = MQ := by kernel_rfl
def Nl : List Item := skim 64 MQ.tail
theorem Dd_ : skim 64 MQ.tail = Nl := by kernel_rfl
def Ml : List Item := skim 64 (brF Nl)
theorem Lc_ : skim 64 (brF Nl) = Ml := by kernel_rfl
def MA : List Item := skim 64 Ml.tail
theorem HA_ : skim 64 Ml.tail = MA := by kernel_rfl
def IL : List Item := skim 64 MA.tail
theorem FY_ : skim 64 MA.tail = IL := by kernel_rfl
def Ov : List Item := skim 64 (brT IL)
theorem NI_ : skim 64 (brT IL) = Ov := by kernel_rfl
def LX : List Item := skim 64 (brF IL)
theorem OF_ : skim 64 Ov.tail = LX := by kernel_rfl
def QY : List Item := skim 64 LX.tail
theorem VX_ : skim 64 LX.tail = QY := by kernel_rfl
def Tc (E : Env) (call round : Ab) (tm : T Value) : M (T Value) :=
  mv (some (.slice none 0 0)) fun v4 =>
  setF 4 v4 tm fun tm1 =>
  M.pure tm1
theorem RT_ : RegEq 106 27 Fq Q6 Tc := ⟨by kernel_rfl, fun _ _ _ _ _ _ _ _ _ => by kernel_rfl⟩
def Bi_ (E : Env) (call round : Ab) (tm : T Value) : M (T Value) :=
  mv (T.get tm 1) fun v5 =>
  M.bind (oS (some v5) fun a => oS (some (.int .i64 0)) fun b => Cl.get (aBin E .lss 3 (.tmp 5) (.const (.int .i64 0))) a b) fun v6 =>
  setF 6 v6 tm fun tm1 =>
  M.pure tm1
theorem Nv_ : RegEq 106 27 Fq MQ Bi_ := ⟨by kernel_rfl, fun _ _ _ _ _ _ _ _ _ => by kernel_rfl⟩
theorem ME_ : A2 Nl = some 6 := by kernel_rfl
def AE_ (E : Env) (call round : Ab) (tm : T Value) : M (T Value) :=
  mv (T.get tm 1) fun v8 =>
  mv (T.get tm 0) fun v9 =>
  M.bind (oS (seqO [(some v9)]) fun l => AS E .cap [22] l) fun v10 =>
  mv (T.get tm 0) fun v11 =>
  M.bind (oS (seqO [(some v11)]) fun l => AS E .len [22] l) fun v12 =>
  M.bind (oS (some v10) fun a => oS (some v12) fun b => Cl.get (aBin E .sub 3 (.tmp 10) (.tmp 12)) a b) fun v13 =>
  M.bind (oS (some v8) fun a => oS (some v13) fun b => Cl.get (aBin E .sub 3 (.tmp 8) (.tmp 13)) a b) fun v14 =>
  mv (some v14) fun v1 =>
  setF 1 v1 tm fun tm1 =>
  M.pure tm1
theorem Gh_ : RegEq 106 27 Fq Ml AE_ := ⟨by kernel_rfl, fun _ _ _ _ _ _ _ _ _ => by kernel_rfl⟩
def BK_ (E : Env) (call round : Ab) (tm : T Value) : M (T Value) :=
  mv (T.get tm 1) fun v15 =>
  M.bind (oS (some v15) fun a => oS (some (.int .i64 0)) fun b => Cl.get (aBin E .gtr 3 (.tmp 15) (.const (.int .i64 0))) a b) fun v16 =>
  setF 16 v16 tm fun tm1 =>
  M.pure tm1
theorem Xn_ : RegEq 106 27 Fq MA BK_ := ⟨by kernel_rfl, fun _ _ _ _ _ _ _ _ _ => by kernel_rfl⟩
theorem Hu_ : A2 IL = some 16 := by kernel_rfl
def VW (E : Env) (call round : Ab) (tm : T Value) : M (T Value) :=
  mv (T.get tm 0) fun v17 =>
  mv (T.get tm 0) fun v18 =>
  M.bind (oS (seqO [(some v18)]) fun l => AS E .cap [22] l) fun v19 =>
  M.bind (M.on (some v17) fun a => M.on (some none) fun b => M.on (onO (some v19) fun v => some (some v)) fun c => Bv E 22 a b c) fun v20 =>
  mv (T.get tm 1) fun v21 =>
  M.bind (oS (seqO [(some v20), (some v21)]) fun l => AS E .append [22, 3] l) fun v22 =>
  mv (T.get tm 0) fun v23 =>
  M.bind (oS (seqO [(some v23)]) fun l => AS E .len [22] l) fun v24 =>
  M.bind (M.on (some v22) fun a => M.on (some none) fun b => M.on (onO (some v24) fun v => some (some v)) fun c => Bv E 22 a b c) fun v25 =>
  mv (some v25) fun v0 =>
  setF 0 v0 tm fun tm1 =>
  M.pure tm1
theorem Il_ : RegEq 106 27 Fq Ov VW := ⟨by kernel_rfl, fun _ _ _ _ _ _ _ _ _ => by kernel_rfl⟩
def Xd (E : Env) (call round : Ab) (tm : T Value) : M (T Value) :=
  mv (T.get tm 0) fun v26 =>
  mv (some v26) fun v4 =>
  setF 4 v4 tm fun tm1 =>
  M.pure tm1
theorem QW_ : RegEq 106 27 Fq LX Xd := ⟨by kernel_rfl, fun _ _ _ _ _ _ _ _ _ => by kernel_rfl⟩
theorem DI_ : ∃ k, QY = .code .ret :: k := ⟨QY.tail, by kernel_rfl⟩
def CU : Nat := Bt Try.f116
abbrev IE_ : Nat := 26
def UK : Code := Try.f116.body.getD .skip
theorem JP : envS.fn.get 116 = some Try.f116 := by kernel_rfl
theorem CK_ {a0 a1 : Value} {n : Nat} {s : St} {Q : Value → St → Prop} (h : ∀ tm, T.get tm 0 = some a0 → T.get tm 1 = some a1 → W (runF envS n ⟨116, 26, CU, tm, [.code UK], .run, .normal, none⟩) (s.cxN cxN) fun p s1 => Q p.1 (s1.cxN s.cx)) : W (Au envS (runF envS n) 116 [a0, a1]) s Q :=
 W.call (by kernel_rfl) (by kernel_rfl) JP (by kernel_rfl) rfl rfl (by simp) (h _ (by kernel_rfl) (by kernel_rfl))
theorem R7 : Try.f116.results.toList = [.tmp 4] := by kernel_rfl
def Re : List Item := skim 64 [.code UK]
def JH : List Item := skim 64 Re.tail
theorem CR_ : skim 64 Re.tail = JH := by kernel_rfl
def Gf : List Item := skim 64 JH.tail
theorem YX : skim 64 JH.tail = Gf := by kernel_rfl
def J8 : List Item := skim 64 (brT Gf)
theorem Nr_ : skim 64 (brT Gf) = J8 := by kernel_rfl
def MF : List Item := skim 64 (brF Gf)
theorem Sq_ : skim 64 (brF Gf) = MF := by kernel_rfl
def NP : List Item := skim 64 J8.tail
theorem Ji_ : skim 64 J8.tail = NP := by kernel_rfl
def HJ : List Item := skim 64 MF.tail
theorem QG_ : skim 64 MF.tail = HJ := by kernel_rfl
def Ha : List Item := skim 64 HJ.tail
theorem Uo : skim 64 HJ.tail = Ha := by kernel_rfl
def JT : List Item := skim 64 (brT Ha)
theorem Fp_ : skim 64 (brT Ha) = JT := by kernel_rfl
def Lh : List Item := skim 64 (brF Ha)
theorem WB_ : skim 64 (brF Ha) = Lh := by kernel_rfl
def Il : List Item := skim 64 JT.tail
theorem Kj_ : skim 64 JT.tail = Il := by kernel_rfl
def Q8 : List Item := skim 64 Lh.tail
theorem GX_ : skim 64 Lh.tail = Q8 := by kernel_rfl
def Hw : List Item := skim 64 Il.tail
theorem XU : skim 64 Il.tail = Hw := by kernel_rfl
def Nb : List Item := skim 64 (brT Hw)
theorem Dq_ : skim 64 (brT Hw) = Nb := by kernel_rfl
def NO : List Item := skim 64 (brF Hw)
theorem SN_ : skim 64 (brF Hw) = NO := by kernel_rfl
def Sy : List Item := skim 64 Nb.tail
theorem SL_ : skim 64 Nb.tail = Sy := by kernel_rfl
theorem My_ : skim 64 NO.tail = HJ := by kernel_rfl
def UX (E : Env) (call round : Ab) (tm : T Value) : M (T Value) :=
  mv (some (.bool false)) fun v4 =>
  setF 4 v4 tm fun tm1 =>
  M.pure tm1
theorem QH_ : RegEq 116 26 CU Re UX := ⟨by kernel_rfl, fun _ _ _ _ _ _ _ _ _ => by kernel_rfl⟩
def Uw (E : Env) (call round : Ab) (tm : T Value) : M (T Value) :=
  mv (T.get tm 0) fun v6 =>
  M.bind (oS (seqO [(some v6)]) fun l => AS E .len [22] l) fun v7 =>
  mv (T.get tm 1) fun v8 =>
  M.bind (oS (seqO [(some v8)]) fun l => AS E .len [22] l) fun v9 =>
  M.bind (oS (some v7) fun a => oS (some v9) fun b => Cl.get (aBin E .neq 3 (.tmp 7) (.tmp 9)) a b) fun v10 =>
  setF 10 v10 tm fun tm1 =>
  M.pure tm1
theorem Pp_ : RegEq 116 26 CU JH Uw := ⟨by kernel_rfl, fun _ _ _ _ _ _ _ _ _ => by kernel_rfl⟩
theorem AL_ : A2 Gf = some 10 := by kernel_rfl
def AF_ (E : Env) (call round : Ab) (tm : T Value) : M (T Value) :=
  mv (some (.bool false)) fun v4 =>
  setF 4 v4 tm fun tm1 =>
  M.pure tm1
theorem Xz_ : RegEq 116 26 CU J8 AF_ := ⟨by kernel_rfl, fun _ _ _ _ _ _ _ _ _ => by kernel_rfl⟩
def Y5 (E : Env) (call round : Ab) (tm : T Value) : M (T Value) :=
  mv (T.get tm 0) fun v11 =>
  M.bind (oS (seqO [(some v11)]) fun l => AS E .len [22] l) fun v12 =>
  setF 12 v12 tm fun tm1 =>
  mv (some (.int .i64 0)) fun v13 =>
  setF 13 v13 tm1 fun tm2 =>
  M.pure tm2
theorem IL_ : RegEq 116 26 CU MF Y5 := ⟨by kernel_rfl, fun _ _ _ _ _ _ _ _ _ => by kernel_rfl⟩
theorem Jf_ : ∃ k, NP = .code .ret :: k := ⟨NP.tail, by kernel_rfl⟩
def Ru (E : Env) (call round : Ab) (tm : T Value) : M (T Value) :=
  M.bind (oS (T.get tm 13) fun a => oS (T.get tm 12) fun b => Cl.get (aBin E .lss 3 (.tmp 13) (.tmp 12)) a b) fun v14 =>
  setF 14 v14 tm fun tm1 =>
  M.pure tm1
theorem AM_ : RegEq 116 26 CU HJ Ru := ⟨by kernel_rfl, fun _ _ _ _ _ _ _ _ _ => by kernel_rfl⟩
theorem Vb : A2 Ha = some 14 := by kernel_rfl
def WN (E : Env) (call round : Ab) (tm : T Value) : M (T Value) :=
  mv (T.get tm 13) fun v15 =>
  mv (some v15) fun v5 =>
  setF 5 v5 tm fun tm1 =>
  M.pure tm1
theorem Vn_ : RegEq 116 26 CU JT WN := ⟨by kernel_rfl, fun _ _ _ _ _ _ _ _ _ => by kernel_rfl⟩
def Yb (E : Env) (call round : Ab) (tm : T Value) : M (T Value) :=
  mv (some (.bool true)) fun v4 =>
  setF 4 v4 tm fun tm1 =>
  M.pure tm1
theorem Sf_ : RegEq 116 26 CU Lh Yb := ⟨by kernel_rfl, fun _ _ _ _ _ _ _ _ _ => by kernel_rfl⟩
def Ym (E : Env) (call round : Ab) (tm : T Value) : M ((Rho × T Value) × List OpLog) :=
  M.bind (apartO (oS (T.get tm 0) fun a => M.pure a)) fun p0 =>
  M.bind (apartO (oS (T.get tm 5) fun a => M.pure a)) fun p1 =>
  M.bind (apartO (oS (some p0.1) fun a => oS (some p1.1) fun b => BJ E 22 a b)) fun p2 =>
  M.bind (apartO (oS (some p2.1) fun a => AQ E 5 a)) fun p3 =>
  M.bind (apartO (oS (T.get tm 1) fun a => M.pure a)) fun p4 =>
  M.bind (apartO (oS (T.get tm 5) fun a => M.pure a)) fun p5 =>
  M.bind (apartO (oS (some p4.1) fun a => oS (some p5.1) fun b => BJ E 22 a b)) fun p6 =>
  M.bind (apartO (oS (some p6.1) fun a => AQ E 5 a)) fun p7 =>
  M.pure (([p7.1, p6.1, p5.1, p4.1, p3.1, p2.1, p1.1, p0.1], tm), [p7.2, p6.2, p5.2, p4.2, p3.2, p2.2, p1.2, p0.2])
theorem Rp_ : DrawEq 116 26 CU Il [0, 0, 3, 7, 0, 0, 48, 112, 255] Ym := ⟨by kernel_rfl, by kernel_rfl, fun _ _ _ _ _ _ _ _ _ => by kernel_rfl⟩
theorem Rh_ (E : Env) (call round : Ab) (x16 x17 x18 x19 x20 x21 x22 x23 : Value) (tm : T Value) (s : St) : BF call round (Cq E CU 26 (hdC Il)) [x23, x22, x21, x20, x19, x18, x17, x16] tm s = (M.bind (oS (some x19) fun a => oS (some x23) fun b => Cl.get (aBin E .neq 5 (.tmp 19) (.tmp 23)) a b) fun v24 => setT 24 v24 tm fun tm1 => M.pure tm1) s := by kernel_rfl
theorem JK_ : ∃ k, Q8 = .code .ret :: k := ⟨Q8.tail, by kernel_rfl⟩
theorem UN : A2 Hw = some 24 := by kernel_rfl
def X4 (E : Env) (call round : Ab) (tm : T Value) : M (T Value) :=
  mv (some (.bool false)) fun v4 =>
  setF 4 v4 tm fun tm1 =>
  M.pure tm1
theorem NM_ : RegEq 116 26 CU Nb X4 := ⟨by kernel_rfl, fun _ _ _ _ _ _ _ _ _ => by kernel_rfl⟩
def XC (E : Env) (call round : Ab) (tm : T Value) : M (T Value) :=
  M.bind (oS (T.get tm 13) fun a => oS (some (.int .i64 1)) fun b => Cl.get (aBin E .add 3 (.tmp 13) (.const (.int .i64 1))) a b) fun v25 =>
  mv (some v25) fun v13 =>
  setF 13 v13 tm fun tm1 =>
  M.pure tm1
theorem Vw_ : RegEq 116 26 CU NO XC := ⟨by kernel_rfl, fun _ _ _ _ _ _ _ _ _ => by kernel_rfl⟩
theorem Tt_ : ∃ k, Sy = .code .ret :: k := ⟨Sy.tail, by kernel_rfl⟩
def LU : Nat := Bt Try.f117
def Z9 : Code := Try.f117.body.getD .skip
theorem Sw : envS.fn.get 117 = some Try.f117 := by kernel_rfl
theorem DJ_ {a0 : Value} {n : Nat} {s : St} {Q : Value → St → Prop} (h : ∀ tm, T.get tm 0 = some a0 → W (runF envS n ⟨117, 8, LU, tm, [.code Z9], .run, .normal, none⟩) (s.cxN cxN) fun p s1 => Q p.1 (s1.cxN s.cx)) : W (Au envS (runF envS n) 117 [a0]) s Q :=
 W.call (by kernel_rfl) (by kernel_rfl) Sw (by kernel_rfl) rfl rfl (by simp) (h _ (by kernel_rfl))
theorem Xq : Try.f117.results.toList = [.tmp 2] := by kernel_rfl
def PK : List Item := skim 64 [.code Z9]
def K2 : List Item := skim 64 PK.tail
theorem VB_ : skim 64 PK.tail = K2 := by kernel_rfl
def NC : List Item := skim 64 K2.tail
theorem Kc_ : skim 64 K2.tail = NC := by kernel_rfl
def ME : List Item := skim 64 (brF NC)
theorem Jk_ : skim 64 (brF NC) = ME := by kernel_rfl
def Sr : List Item := skim 64 ME.tail
theorem YG : skim 64 ME.tail = Sr := by kernel_rfl
def VM (E : Env) (call round : Ab) (tm : T Value) : M (T Value) :=
  mv (some (.slice none 0 0)) fun v2 =>
  setF 2 v2 tm fun tm1 =>
  M.pure tm1
theorem Fq_ : RegEq 117 8 LU PK VM := ⟨by kernel_rfl, fun _ _ _ _ _ _ _ _ _ => by kernel_rfl⟩
def Ar_ (E : Env) (call round : Ab) (tm : T Value) : M (T Value) :=
  mv (T.get tm 0) fun v3 =>
  M.bind (oS (some v3) fun a => oS (some (.slice none 0 0)) fun b => Cl.get (aBin E .eql 22 (.tmp 3) (.const (.slice none 0 0))) a b) fun v4 =>
  setF 4 v4 tm fun tm1 =>
  M.pure tm1
theorem Qr_ : RegEq 117 8 LU K2 Ar_ := ⟨by kernel_rfl, fun _ _ _ _ _ _ _ _ _ => by kernel_rfl⟩
theorem Tn_ : A2 NC = some 4 := by kernel_rfl
def Cd_ (E : Env) (call round : Ab) (tm : T Value) : M (T Value) :=
  M.bind (oS (seqP []) fun ps => Cj E 22 0 ps) fun v5 =>
  mv (T.get tm 0) fun v6 =>
  M.bind (oS (seqO [(some v5), (some v6)]) fun l => AS E .append [22, 22] l) fun v7 =>
  mv (some v7) fun v2 =>
  setF 2 v2 tm fun tm1 =>
  M.pure tm1
theorem Sy_ : RegEq 117 8 LU ME Cd_ := ⟨by kernel_rfl, fun _ _ _ _ _ _ _ _ _ => by kernel_rfl⟩
theorem W8 : ∃ k, Sr = .code .ret :: k := ⟨Sr.tail, by kernel_rfl⟩
section
variable {s : St}
def Bn (s : St) (v : Value) (l : List Nat) : Prop := ∃ b o c, v = .slice (some ⟨b, o, none⟩) l.length c ∧ l.length ≤ c % capU ∧ CA c 1 = true ∧ Row s b o (u8l l)
theorem Bn.bs {v : Value} {l : List Nat} (h : Bn s v l) : Bs s v l := .inr h
theorem Bn.ext {F G : Nat → Prop} {s s' : St} {v : Value} {l : List Nat} (h : Bn s v l) (e : Ext F G s s') (hG : ∀ x, BsF v x → ¬ G x) : Bn s' v l := by
 rcases h.bs.ext e hG with ⟨rfl, _⟩ | h'
 · obtain ⟨_, _, _, e, _⟩ := h; cases e
 · exact h'
theorem Bn.ext0 {F : Nat → Prop} {s s' : St} {v : Value} {l : List Nat} (h : Bn s v l) (e : Ext F Non s s') : Bn s' v l := h.ext e fun _ _ => id
def Byt (l : List Nat) : Prop := ∀ x ∈ l, x < 256
theorem Qs : ∀ {l : List Nat}, Byt l → u8s (u8l l) = some l
 | [], _ => rfl
 | n :: l, h => by
   have e := Qs (l := l) fun x hx => h x (by simp [hx])
   show (match Value.int .u8 (.ofNat n), u8s (u8l l) with | .int .u8 (.ofNat n), some ns => bif Nat.blt n 256 then some (n :: ns) else none | _, _ => none) = _
   rw [e]
   simp -implicitDefEqProofs only [B2 (h n (by simp)), cond_true]
theorem W.rdB {b o : Nat} {l : List Nat} {Q : List Value → St → Prop} (h : Row s b o (u8l l)) (q : ∀ s1, s1.mem = s.mem → s1.next = s.next → Ext (In b o l.length) Non s s1 → Q (u8l l) s1) : W (Am.rdL l.length ⟨b, o, none⟩) s Q := by
 have hl : l.length = (u8l l).length := (A0 l).symm
 rw [hl]
 refine W.rdL h fun s1 e1 e2 e3 => q s1 e1 e2 ?_
 rw [A0] at e3
 exact e3
theorem W.more {sum : Nat} {v : Value} {l : List Nat} {Q : Value → St → Prop} (h : Bn s v l) (hl : Byt l) (hz : l.length ≤ 4611686018427387904) (hs : sum < 4294967296)
   (q : ∀ s1, s1.mem = s.mem → s1.next = s.next → Ext (BsF v) Non s s1 → Q (.int .u32 (CQ sum l : Nat)) s1) : W (D3 [.int .u32 (sum : Nat), v]) s Q := by
 obtain ⟨b, o, c, rfl, h1, h2, h3⟩ := h
 refine W.chk (by rw [B2 hs]; simpa using hz) (W.bind (W.rdB h3 fun s1 e1 e2 e3 => W.on (Qs hl) ?_))
 rw [Mv]
 exact W.pure (q s1 e1 e2 e3)
end
theorem WX {n : Nat} {s : St} {v : Value} {l : List Nat} {Q : Value → St → Prop} (hn : 10 ≤ n) (h : Bn s v l) (hl : Byt l) (hz : l.length ≤ 4611686018427387904)
   (q : ∀ s1, s1.mem = s.mem → s1.next = s.next → Ext (BsF v) Non s s1 → Q (.int .u32 (CQ 0 l : Nat)) s1) : W (Au envS (runF envS n) 105 [v]) s Q := by
 refine KQ_ fun tm h0 => ?_
 refine NA_.w rfl (by omega) ?_
 simp -implicitDefEqProofs only [Z6, Aa, W_mv, Ac]
 refine XB_.w Oz_ (by omega) ?_
 simp -implicitDefEqProofs only [YF, Ad, W_on, Aa, W_mv, Ac, T.get_set, Ap, Al, Ak, AW, reduceIte, reduceCtorEq, ↓reduceIte, h0]
 refine W.orc (m := D3) (by kernel_rfl) ?_
 change W (D3 [.int .u32 ((0 : Nat) : Int), v]) _ _
 refine W.more (s := s.cxN cxN) h hl hz (by decide) fun s1 e1 e2 e3 => ?_
 refine W.end' (rs := [2]) (vs := [.int .u32 (CQ 0 l : Nat)]) IG_ (.inl NK_) (by omega) Tx Lh_ e3.cx (by simp [T.get_set]) ?_
 refine q _ e1 e2 ⟨e3.nxt, e3.lim, rfl, e3.mem, e3.rd, e3.wr⟩
theorem A1 : slN envS 22 = some 1 := by kernel_rfl
theorem Ca : slN envS 43 = some 1 := by kernel_rfl
theorem E3 : elT envS 22 = some (1, 1, [.int .u8 0]) := by kernel_rfl
theorem Ic : appT envS 22 22 = some (1, 1, false, [.int .u8 0]) := by kernel_rfl
theorem La_ : appT envS 22 3 = some (1, 1, true, [.int .u8 0]) := by kernel_rfl
theorem CL : tyS envS 22 = some (1, false) := by kernel_rfl
theorem If : tyS envS 5 = some (1, false) := by kernel_rfl
theorem IJ (n : Nat) : rep n [Value.int .u8 0] = List.replicate n (Value.int .u8 0) := by
 induction n with
 | zero => rfl
 | succ n ih =>
   show [Value.int .u8 0] ++ rep n [Value.int .u8 0] = _
   rw [ih]; rfl
structure Room (s s' : St) (N : Nat) (v : Value) (b : Nat) : Prop where
  val : v = .slice (some ⟨b, 0, none⟩) 0 (capU * ((b + N * 1) * 1024 + 1) + N)
  new : s.next ≤ b
  own : Af s' b 0 (List.replicate N (.int .u8 0))
theorem Lx_ {n N : Nat} {s : St} {Q : Value → St → Prop} (hbd : s.lim ≤ s.next) (hn : 20 ≤ n) (hN : 0 < N) (hN2 : N ≤ 1000000)
   (q : ∀ s1 v b, Room s s1 N v b → Ext Non Non s s1 → Q v s1) : W (Au envS (runF envS n) 106 [.slice none 0 0, .int .i64 (N : Nat)]) s Q := by
 refine DA_ fun tm h0 h1 => ?_
 refine RT_.w rfl (by omega) ?_
 simp -implicitDefEqProofs only [Tc, Aa, W_mv, Ac]
 refine Nv_.w RN_ (by omega) ?_
 simp -implicitDefEqProofs only [Bi_, Ad, W_oS, Aa, W_mv, Ac, T.get_set, reduceIte, Nat.reduceEqDiff, ↓reduceIte, Bm, h1]
 refine W.cond (v := false) Dd_ ME_ (by simp [T.get_set]) (by omega) (fun h => by cases h) fun _ => ?_
 refine Gh_.w Lc_ (by omega) ?_
 simp -implicitDefEqProofs only [AE_, Ad, W_oS, Aa, W_mv, Ac, T.get_set, Ap, Al, Ak, reduceIte, Nat.reduceEqDiff, reduceCtorEq, ↓reduceIte, Ep, h0, h1, W3 A1, BS A1]
 refine Xn_.w HA_ (by omega) ?_
 have e1 : wrap64 ((N : Int) - wrap64 (((0 : Nat) : Int) - ((0 : Nat) : Int))) = (N : Nat) := by
   rw [Bl (n := ((0 : Nat) : Int) - ((0 : Nat) : Int)) (by simp) (by simp), Bl] <;> simp <;> omega
 simp -implicitDefEqProofs only [BK_, Ad, W_oS, Aa, W_mv, Ac, T.get_set, reduceIte, ↓reduceIte, Dk, e1]
 refine W.cond (v := true) FY_ Hu_ (by simp [T.get_set, hN]) (by omega) (fun _ => ?_) fun h => by cases h
 refine Il_.w NI_ (by omega) ?_
 simp -implicitDefEqProofs only [VW, Ad, W_oS, W_on, Aa, W_mv, Ac, T.get_set, Ap, Al, Ak, reduceIte, Nat.reduceEqDiff, reduceCtorEq, ↓reduceIte, h0, W3 A1, Rb (lo := none) (hi := some (.int .i64 ((0 : Nat) : Int))) A1 rfl rfl, E5]
 refine W.appNil (s := s.cxN cxN) hbd (n := N) (l := rep N [.int .u8 0]) La_ (Ni_ (by omega)) hN (by decide) (by decide) (by omega) (by rw [IJ]; simp) (by rw [IJ]; simp [oneCell]) fun s2 v b hf x2 => ?_
 obtain ⟨rfl, hnew, hown, hlen, htok, hlt⟩ := hf
 have hc := OO (q := (b + N * 1) * 1024 + 1) (BD (n := N) (by omega))
 simp -implicitDefEqProofs only [BS A1, Sa (l := 0) (h := 0) (lo := none) (hi := some (.int .i64 ((0 : Nat) : Int))) A1 rfl rfl (Nat.le_refl _) (Nat.zero_le _) (H1 (m := b + N * 1) (BD (n := N) (by omega)) (by decide)), reduceIte, ↓reduceIte, hc, hN]
 refine QW_.w OF_ (by omega) ?_
 simp -implicitDefEqProofs only [Xd, Aa, W_mv, Ac, T.get_set, reduceIte, ↓reduceIte]
 refine W.end' (rs := [4]) (vs := [.slice (some ⟨b, 0, none⟩) 0 (capU * ((b + N * 1) * 1024 + 1) + N)]) VX_ (.inl DI_) (by omega) VZ PE_ x2.cx (by simp [T.get_set]) ?_
 exact q _ _ b ⟨rfl, hnew, fun i v e => (hown i v (by rw [IJ]; exact e)).same rfl rfl⟩ ⟨x2.nxt, x2.lim, rfl, x2.mem, x2.rd, x2.wr⟩
def tot (l : List (Value × List Nat)) : Nat := (l.map fun p => p.2.length).sum
theorem Wy_ {l : List (Value × List Nat)} {i : Nat} {p : Value × List Nat} (h : l[i]? = some p) : tot (l.take (i + 1)) = tot (l.take i) + p.2.length := by
 unfold tot
 rw [List.take_add_one, h]
 simp
theorem SK {l : List (Value × List Nat)} (i : Nat) : tot (l.take i) ≤ tot l := by
 unfold tot
 have : (l.map fun p => p.2.length).sum = ((l.take i).map fun p => p.2.length).sum + ((l.drop i).map fun p => p.2.length).sum := by
   rw [← List.sum_append, ← List.map_append, List.take_append_drop]
 omega
def Cz (b o : Nat) (l : List (Value × List Nat)) : Nat → Prop := fun x => In b o l.length x ∨ ∃ p ∈ l, BsF p.1 x
structure Parts (s : St) (b o : Nat) (l : List (Value × List Nat)) : Prop where
  row : Row s b o (l.map (·.1))
  bs : ∀ p ∈ l, Bs s p.1 p.2
theorem Parts.same {s s' : St} {b o : Nat} {l : List (Value × List Nat)} (h : Parts s b o l) (hm : s'.mem = s.mem) (hn : s'.next = s.next) : Parts s' b o l :=
 ⟨fun i v e => (h.row i v e).same hm hn, fun p hp => (h.bs p hp).same hm hn⟩
theorem Parts.ext0 {F : Nat → Prop} {s s' : St} {b o : Nat} {l : List (Value × List Nat)} (h : Parts s b o l) (e : Ext F Non s s') : Parts s' b o l := ⟨h.row.ext0 e, fun p hp => (h.bs p hp).ext0 e⟩
section
variable {b o c : Nat} {parts : List (Value × List Nat)}
theorem Parts.get {s : St} (h : Parts s b o parts) {i : Nat} (hi : i < parts.length) : At s b (o + i * 1) parts[i].1 ∧ Bs s parts[i].1 parts[i].2 := by
 refine ⟨?_, h.bs _ (List.getElem_mem hi)⟩
 rw [Nat.mul_one]
 exact h.row i _ (by simp [hi])
theorem PR {i : Nat} (hi : i < parts.length) : tot (parts.take (i + 1)) = tot (parts.take i) + parts[i].2.length := Wy_ (List.getElem?_eq_getElem hi)
theorem Gq_ (ht : tot parts ≤ 1000000) (hlen : parts.length ≤ 4611686018427387904) {F : Nat → Prop} (hF : ∀ x, Cz b o parts x → F x) {Q : Value × FrameMode → St → Prop} {s0 : St} (hb0 : s0.lim ≤ s0.next) (hp : Parts s0 b o parts) : ∀ (k i n : Nat) (tm : T Value) (s : St) (td : List Item), i + k = parts.length → 7 * k + 7 ≤ n → skim 64 td = Gp → Ext F Non s0 s → s.mem = s0.mem → s.next = s0.next →
   T.get tm 0 = some (.slice (some ⟨b, o, none⟩) parts.length c) → T.get tm 9 = some (.slice (some ⟨b, o, none⟩) parts.length c) → T.get tm 10 = some (.int .i64 (parts.length : Nat)) → T.get tm 11 = some (.int .i64 (i : Nat)) → T.get tm 3 = some (.int .i64 (tot (parts.take i) : Nat)) →
   (∀ n' tm' s1 td', n ≤ n' + 7 * k + 2 → skim 64 td' = Iz → Ext F Non s0 s1 → s1.mem = s0.mem → s1.next = s0.next → T.get tm' 0 = some (.slice (some ⟨b, o, none⟩) parts.length c) → T.get tm' 3 = some (.int .i64 (tot parts : Nat)) → W (runF envS n' ⟨63, Lg, Cf, tm', td', .run, .normal, none⟩) s1 Q) →
   W (runF envS n ⟨63, Lg, Cf, tm, td, .run, .normal, none⟩) s Q := by
 intro k
 induction k with
 | zero =>
   intro i n tm s td hi hn hT hx hm hnx h0 h9 h10 h11 h3 q
   refine ZO.w hT (by omega) ?_
   simp -implicitDefEqProofs only [QZ, Ad, W_oS, Aa, Ac, Bm, h10, h11]
   refine W.cond (v := false) YJ SO (by simp [T.get_set]; omega) (by omega) (fun h => by cases h) fun _ => ?_
   have e : tot (parts.take i) = tot parts := by rw [show i = parts.length by omega, List.take_length]
   rw [e] at h3
   exact q _ _ _ _ (by omega) UG_ hx hm hnx (by simp [T.get_set, h0]) (by simp [T.get_set, h3])
 | succ k ih =>
   intro i n tm s td hi hn hT hx hm hnx h0 h9 h10 h11 h3 q
   have hil : i < parts.length := by omega
   obtain ⟨g1, g2⟩ := hp.get hil
   have hlt := PR hil
   have htl := SK (l := parts) (i + 1)
   refine ZO.w hT (by omega) ?_
   simp -implicitDefEqProofs only [QZ, Ad, W_oS, Aa, Ac, Bm, h10, h11]
   refine W.cond (v := true) YJ SO (by simp [T.get_set]; omega) (by omega) (fun _ => ?_) fun h => by cases h
   refine Qz_.w XV_ (by omega) ?_
   simp -implicitDefEqProofs only [AX_, Ad, W_oS, Aa, W_mv, Ac, T.get_set, reduceIte, Nat.reduceEqDiff, ↓reduceIte, h9, h11, Ck Ca hil]
   refine W.load1 CL (g1.same hm hnx) ?_
   refine OZ_.w Nw_ (by omega) ?_
   have ew : wrap64 ((tot (parts.take i) : Nat) + (parts[i].2.length : Nat) : Int) = (tot (parts.take (i + 1)) : Nat) := by
     rw [Bl (by omega) (by omega), hlt]; simp
   have ei : wrap64 ((i : Nat) + 1 : Int) = ((i + 1 : Nat) : Int) := by
     have : parts.length ≤ 4611686018427387904 := hlen
     rw [Bl (by omega) (by omega)]; simp
   have hx1 : Ext F Non s0 (s.rdN (b + (o + i * 1))) := hx.trans (Ext.rdN (F := F) s _ fun _ => hF _ (.inl ⟨by omega, by omega⟩)) hb0 (fun _ _ h => h) fun _ _ h => h
   simp -implicitDefEqProofs only [WW, Ad, W_oS, Aa, W_mv, Ac, T.get_set, Ap, Al, Ak, reduceIte, Nat.reduceEqDiff, ↓reduceIte, BY, h3, Bs.len (s := s.rdN (b + (o + i * 1))) (g2.same hm hnx) A1, ew]
   refine Xm_.w Jt_ (by omega) ?_
   simp -implicitDefEqProofs only [Cl_, Ad, W_oS, Aa, W_mv, Ac, T.get_set, reduceIte, ↓reduceIte, Bm]
   refine W.cond (v := false) Je_ Qc_ (by simp [T.get_set]) (by omega) (fun h => by cases h) fun _ => ?_
   refine Pj_.w Xo_ (by omega) ?_
   simp -implicitDefEqProofs only [XH, Ad, W_oS, Aa, W_mv, Ac, T.get_set, reduceIte, Nat.reduceEqDiff, ↓reduceIte, BY, h11, ei]
   exact ih (i + 1) _ _ _ _ (by omega) (by omega) Fx_ hx1 hm hnx (by simp [T.get_set, h0]) (by simp [T.get_set, h9]) (by simp [T.get_set, h10]) (by simp [T.get_set]) (by simp [T.get_set]) fun n' tm' s1 td' e => q n' tm' s1 td' (by omega)
end
section
variable {b o c : Nat} {parts : List (Value × List Nat)}
def fl (l : List (Value × List Nat)) : List Nat := (l.map (·.2)).flatten
theorem Lc (l : List (Value × List Nat)) : (fl l).length = tot l := by
 unfold fl tot
 rw [List.length_flatten, List.map_map]
 rfl
theorem Ry_ {l : List (Value × List Nat)} {i : Nat} (h : i < l.length) : fl (l.take (i + 1)) = fl (l.take i) ++ l[i].2 := by
 unfold fl
 rw [List.take_add_one, List.getElem?_eq_getElem h, List.map_append, List.flatten_append]
 simp
theorem Gx_ (ht : tot parts ≤ 1000000) (hlen : parts.length ≤ 4611686018427387904) {F : Nat → Prop} (hF : ∀ x, Cz b o parts x → F x) {Q : Value × FrameMode → St → Prop} {s0 : St} (hb0 : s0.lim ≤ s0.next) (hp : Parts s0 b o parts) {nb cc : Nat} (hnb : s0.next ≤ nb) (hcc : cc % capU = tot parts) : ∀ (k i n : Nat) (tm : T Value) (s : St) (td : List Item), i + k = parts.length → 6 * k + 6 ≤ n → skim 64 td = Gg → Ext F Non s0 s → AT s nb 0 (tot parts) → Af s nb 0 (u8l (fl (parts.take i))) →
   T.get tm 25 = some (.slice (some ⟨b, o, none⟩) parts.length c) → T.get tm 26 = some (.int .i64 (parts.length : Nat)) → T.get tm 27 = some (.int .i64 (i : Nat)) → T.get tm 6 = some (.slice (some ⟨nb, 0, none⟩) (tot (parts.take i)) cc) →
   (∀ n' tm' s1 td', n ≤ n' + 6 * k + 2 → skim 64 td' = I4 → Ext F Non s0 s1 → Af s1 nb 0 (u8l (fl parts)) → T.get tm' 6 = some (.slice (some ⟨nb, 0, none⟩) (tot parts) cc) → W (runF envS n' ⟨63, Lg, Cf, tm', td', .run, .normal, none⟩) s1 Q) →
   W (runF envS n ⟨63, Lg, Cf, tm, td, .run, .normal, none⟩) s Q := by
 intro k
 induction k with
 | zero =>
   intro i n tm s td hi hn hT hx hown hrow h25 h26 h27 h6 q
   refine Vc.w hT (by omega) ?_
   simp -implicitDefEqProofs only [OH, Ad, W_oS, Aa, Ac, Bm, h26, h27]
   refine W.cond (v := false) VG YB (by simp [T.get_set]; omega) (by omega) (fun h => by cases h) fun _ => ?_
   have e : parts.take i = parts := by rw [show i = parts.length by omega, List.take_length]
   rw [e] at h6 hrow
   exact q _ _ _ _ (by omega) UZ_ hx hrow (by simp [T.get_set, h6])
 | succ k ih =>
   intro i n tm s td hi hn hT hx hown hrow h25 h26 h27 h6 q
   have hil : i < parts.length := by omega
   obtain ⟨g1, g2⟩ := (hp.ext0 hx).get hil
   have hlt := PR hil
   have htl := SK (l := parts) (i + 1)
   refine Vc.w hT (by omega) ?_
   simp -implicitDefEqProofs only [OH, Ad, W_oS, Aa, Ac, Bm, h26, h27]
   refine W.cond (v := true) VG YB (by simp [T.get_set]; omega) (by omega) (fun _ => ?_) fun h => by cases h
   refine GA_.w EC_ (by omega) ?_
   simp -implicitDefEqProofs only [Tj, Ad, W_oS, Aa, W_mv, Ac, T.get_set, reduceIte, Nat.reduceEqDiff, ↓reduceIte, h25, h27, Ck Ca hil]
   refine W.load1 CL g1 ?_
   have hx1 : Ext F Non s0 (s.rdN (b + (o + i * 1))) := hx.trans (Ext.rdN (F := F) s _ fun _ => hF _ (.inl ⟨by omega, by omega⟩)) hb0 (fun _ _ h => h) fun _ _ h => h
   refine LB_.w Uj_ (by omega) ?_
   simp -implicitDefEqProofs only [WQ, Ad, W_oS, Aa, W_mv, Ac, T.get_set, Ap, Al, Ak, reduceIte, Nat.reduceEqDiff, ↓reduceIte, h6, E5]
   refine W.appIn (s := s.rdN (b + (o + i * 1))) Ic (g2.same (s' := s.rdN (b + (o + i * 1))) rfl rfl).src.g (by rw [hcc]; omega) (by rw [A0, Nat.mul_one]) (BT _) (fun j hj => ?_) fun s2 n2 x2 r2 => ?_
   · obtain ⟨u, hu⟩ := hown (tot (parts.take i) + j) (by omega)
     exact ⟨u, by rw [show 0 + tot (parts.take i) * 1 + j = 0 + (tot (parts.take i) + j) by omega]; exact hu⟩
   have ei : wrap64 ((i : Nat) + 1 : Int) = ((i + 1 : Nat) : Int) := by
     rw [Bl (by omega) (by omega)]; simp
   have hx2 : Ext F Non s0 s2 := hx1.step x2 hb0 (fun l hl h => by
     rcases h with h | h
     · exact hF _ (.inr ⟨_, List.getElem_mem hil, h⟩)
     · exact absurd h.1 (by omega)) fun l h => by have := h.1; omega
   have el : parts[i].2.length * 1 = (u8l parts[i].2).length := by rw [A0, Nat.mul_one]
   rw [el] at x2
   have hown2 : AT s2 nb 0 (tot parts) := AT.ext (s := s.rdN (b + (o + i * 1))) (fun j hj => let ⟨u, hu⟩ := hown j hj; ⟨u, hu.same rfl rfl⟩) x2 r2
   have hrow2 : Af s2 nb 0 (u8l (fl (parts.take (i + 1)))) := by
     rw [Ry_ hil]
     unfold u8l
     rw [List.map_append]
     refine Af.append (Af.ext (s := s.rdN (b + (o + i * 1))) (fun j v e => (hrow j v e).same rfl rfl) x2 fun j hj => ?_) ?_
     · rw [A0, Lc] at hj
       intro h
       have := h.1
       omega
     · rw [A0, Lc]
       rw [Nat.mul_one] at r2
       exact r2
   refine Wh_.w Tg_ (by omega) ?_
   simp -implicitDefEqProofs only [Ul, Ad, W_oS, Aa, W_mv, Ac, T.get_set, reduceIte, Nat.reduceEqDiff, ↓reduceIte, BY, h27, ei]
   exact ih (i + 1) _ _ _ _ (by omega) (by omega) VD_ hx2 hown2 hrow2 (by simp [T.get_set, h25]) (by simp [T.get_set, h26]) (by simp [T.get_set]) (by simp [T.get_set, hlt]) fun n' tm' s1 td' e => q n' tm' s1 td' (by omega)
end
structure New (s s' : St) (v : Value) (l : List Nat) : Prop where
  bn : Bn s' v l
  new : ∀ x, BsF v x → s.next ≤ x
theorem Ext.cx' {F G : Nat → Prop} {s s1 : St} {c : Ctx} (x : Ext F G (s.cxN c) s1) : Ext F G s (s1.cxN s.cx) := ⟨x.nxt, x.lim, rfl, x.mem, x.rd, x.wr⟩
theorem Bn.same {s s' : St} {v : Value} {l : List Nat} (h : Bn s v l) (hm : s'.mem = s.mem) (hn : s'.next = s.next) : Bn s' v l := by
 obtain ⟨b, o, c, h0, h1, h2, h3⟩ := h
 exact ⟨b, o, c, h0, h1, h2, fun i v e => (h3 i v e).same hm hn⟩
theorem Rp {n : Nat} {s : St} {b o c : Nat} {parts : List (Value × List Nat)} {Q : Value → St → Prop} (hbd : s.lim ≤ s.next) (hp : Parts s b o parts) (h0 : 0 < tot parts) (ht : tot parts ≤ 1000000) (hlen : parts.length ≤ 4611686018427387904) (hn : 13 * parts.length + 60 ≤ n)
   (q : ∀ s1 v, Ext (Cz b o parts) Non s s1 → New s s1 v (fl parts) → Q v s1) : W (Au envS (runF envS n) 63 [.slice (some ⟨b, o, none⟩) parts.length c]) s Q := by
 refine MU_ fun tm hk0 => ?_
 have hpc : Parts (s.cxN cxN) b o parts := hp.same rfl rfl
 refine VP_.w rfl (by omega) ?_
 simp -implicitDefEqProofs only [Y9, Aa, W_mv, Ac]
 refine Xy_.w Fr_ (by omega) ?_
 simp -implicitDefEqProofs only [Zy, Aa, W_mv, Ac]
 refine Ri_.w Pm_ (by omega) ?_
 simp -implicitDefEqProofs only [Ws, Ad, W_oS, Aa, W_mv, Ac, T.get_set, Ap, Al, Ak, reduceIte, reduceCtorEq, ↓reduceIte, hk0, BS Ca]
 refine Gq_ (c := c) ht hlen (F := Cz b o parts) (fun _ h => h) (s0 := s.cxN cxN) hbd hpc parts.length 0 _ _ _ _ (by omega) (by omega) Jr_ (Ext.refl _) rfl rfl (by simp [T.get_set, hk0]) (by simp [T.get_set]) (by simp [T.get_set]) (by simp [T.get_set]) (by simp [T.get_set, tot]) fun n1 tm1 s1 td1 hn1 hT1 hx1 hm1 hnx1 g0 g3 => ?_
 refine Lf_.w hT1 (by omega) ?_
 simp -implicitDefEqProofs only [Te, Ad, W_on, Aa, W_mv, Ac, Ap, Al, Ak, AW, g3]
 have hb1 : s1.lim ≤ s1.next := hx1.bnd hbd
 refine Lx_ hb1 (by omega) h0 ht fun s2 v nb hr x2 => ?_
 obtain ⟨rfl, hnew, hown⟩ := hr
 have hx2 : Ext (Cz b o parts) Non (s.cxN cxN) s2 := hx1.step x2 hbd (fun _ _ h => h.elim) fun _ h => h.elim
 have hnb : s.next ≤ nb := by
   have : s1.next = s.next := hnx1
   omega
 have hcc := OO (q := (nb + tot parts * 1) * 1024 + 1) (BD (n := tot parts) (by omega))
 have hok := H1 (m := nb + tot parts * 1) (sz := 1) (BD (n := tot parts) (by omega)) (by decide)
 generalize hC : capU * ((nb + tot parts * 1) * 1024 + 1) + tot parts = C at *
 refine IC_.w DX_ (by omega) ?_
 simp -implicitDefEqProofs only [Cq_, Ad, W_oS, Aa, W_mv, Ac, T.get_set, Ap, Al, Ak, reduceIte, reduceCtorEq, ↓reduceIte, g0, BS Ca]
 refine Gx_ (c := c) ht hlen (F := Cz b o parts) (fun _ h => h) (s0 := s.cxN cxN) hbd hpc (nb := nb) (cc := C) hnb hcc parts.length 0 _ _ _ _ (by omega) (by omega) LT_ hx2 (by have := hown.owned; rwa [List.length_replicate] at this) (fun i v e => by simp [fl] at e) (by simp [T.get_set]) (by simp [T.get_set]) (by simp [T.get_set]) (by simp [T.get_set, tot]) fun n3 tm3 s3 td3 hn3 hT3 hx3 hrow g6 => ?_
 refine Sl_.w hT3 (by omega) ?_
 simp -implicitDefEqProofs only [YO, Aa, W_mv, Ac, g6]
 refine W.end' (rs := [2]) (vs := [.slice (some ⟨nb, 0, none⟩) (tot parts) C]) DL_ (.inl Me_) (by omega) UV Xu_ hx3.cx (by simp [T.get_set]) ?_
 refine q _ _ hx3.cx' ⟨⟨nb, 0, C, by rw [Lc]; rfl, by rw [Lc, hcc]; exact Nat.le_refl _, hok, hrow.row⟩, fun x hx => ?_⟩
 have : nb + 0 ≤ x := hx.1
 omega
theorem Se : elT envS 43 = some (1, 24, [.slice none 0 0]) := by kernel_rfl
theorem Pv : hasT envS 51 = true := by kernel_rfl
theorem IB : intK envS 5 = some .u8 := by kernel_rfl
def le4 (n : Nat) : List Nat := [n % 256, n >>> 8 % 256, n >>> 16 % 256, n >>> 24 % 256]
def gput (l : List Nat) : List Nat := l ++ le4 (CQ 0 l)
theorem Byt.le4 (n : Nat) : Byt (le4 n) := fun x hx => by
 simp -implicitDefEqProofs only [Am.le4, List.mem_cons, List.not_mem_nil, or_false] at hx
 omega
theorem Byt.gput {l : List Nat} (h : Byt l) : Byt (gput l) := fun x hx => by
 rcases List.mem_append.1 hx with hx | hx
 · exact h x hx
 · exact Byt.le4 _ x hx
theorem Vj {n : Nat} {s : St} {v : Value} {l : List Nat} {Q : Value → St → Prop} (hbd : s.lim ≤ s.next) (hn : 120 ≤ n) (h : Bn s v l) (hl : Byt l) (hz : l.length ≤ 900000)
   (q : ∀ s1 w, Ext (BsF v) Non s s1 → New s s1 w (gput l) → Q w s1) : W (Au envS (runF envS n) 64 [v]) s Q := by
 refine Lb_ fun tm h0 => ?_
 have hc : Bn (s.cxN cxN) v l := h.same rfl rfl
 refine WP_.w rfl (by omega) ?_
 simp -implicitDefEqProofs only [UC, Aa, W_mv, Ac]
 refine FX_.w Qg_ (by omega) ?_
 simp -implicitDefEqProofs only [An_, Ad, W_on, Aa, W_mv, Ac, T.get_set, Ap, Al, Ak, AW, reduceIte, reduceCtorEq, ↓reduceIte, h0]
 refine WX (by omega) hc hl (by omega) fun s1 m1 n1 x1 => ?_
 refine EH_.w OY_ (by omega) ?_
 generalize hS : CQ 0 l = S
 simp -implicitDefEqProofs only [Wy, Ad, W_oS, W_on, Aa, W_mv, Ac, T.get_set, Ap, Al, Bj, Bd, Ak, AW, reduceIte, reduceCtorEq, ↓reduceIte, h0]
 simp -implicitDefEqProofs only [FG Pv IB, wrap_u8, JL (k := .u32) (by decide), TB (k := .u32) (by decide), T5 (k := .u32) (by decide)]
 have hb1 : s1.lim ≤ s1.next := x1.bnd hbd
 refine W.buildS hb1 (r := u8l (le4 S)) E3 (by decide) rfl (BD (by decide)) fun s2 n2 x2 r2 => ?_
 have hb2 : s2.lim ≤ s2.next := x2.bnd hb1
 obtain ⟨b, o, c, rfl, hv⟩ := hc
 refine W.buildS hb2 (r := [.slice (some ⟨b, o, none⟩) l.length c, .slice (some ⟨s1.next, 0, none⟩) 4 4]) Se (by decide) rfl (BD (by decide)) fun s3 n3 x3 r3 => ?_
 have hb3 : s3.lim ≤ s3.next := x3.bnd hb2
 have hx1 : Ext (BsF (.slice (some ⟨b, o, none⟩) l.length c)) Non (s.cxN cxN) s1 := x1
 have hx2 := hx1.step x2 hbd (fun _ _ h => h.elim) fun _ h => h.elim
 have hx3 := hx2.step x3 hbd (fun _ _ h => h.elim) fun _ h => h.elim
 have hBv : Bs s3 (.slice (some ⟨b, o, none⟩) l.length c) l := (Bn.bs ⟨b, o, c, rfl, hv⟩).ext0 hx3
 have hB4 : Bs s3 (.slice (some ⟨s1.next, 0, none⟩) 4 4) (le4 S) := (Af.bn r2 (BD (by simp [le4]))).ext0 x3
 have hlt : tot [((.slice (some ⟨b, o, none⟩) l.length c : Value), l), (.slice (some ⟨s1.next, 0, none⟩) 4 4, le4 S)] = l.length + 4 := by simp [tot, le4]
 refine Rp (parts := [(.slice (some ⟨b, o, none⟩) l.length c, l), (.slice (some ⟨s1.next, 0, none⟩) 4 4, le4 S)]) hb3 ⟨r3.row, fun p hp => ?_⟩ (by rw [hlt]; omega) (by rw [hlt]; omega) (by simp) (by simp; omega) fun s4 w x4 hw => ?_
 · rcases List.mem_cons.1 hp with rfl | hp
   · exact hBv
   · rcases List.mem_cons.1 hp with rfl | hp
     · exact hB4
     · cases hp
 have hx4 := hx3.step x4 hbd (fun x hx h => by
   have hn1 : s.next ≤ s1.next := x1.nxt
   have hn2 : s1.next ≤ s2.next := x2.nxt
   have hxl : x < s.lim := hx
   rcases h with h | ⟨p, hp, h⟩
   · have := h.1; omega
   · rcases List.mem_cons.1 hp with rfl | hp
     · exact h
     · rcases List.mem_cons.1 hp with rfl | hp
       · have : s1.next + 0 ≤ x := h.1
         omega
       · cases hp) fun _ h => h.elim
 refine W.end' (rs := [2]) (vs := [w]) UN_ (.inl Gf_) (by omega) Zk QE_ hx4.cx (by simp [T.get_set]) ?_
 refine q _ _ hx4.cx' ⟨?_, fun x hx => ?_⟩
 · have := hw.bn.same (s' := s4.cxN s.cx) rfl rfl
   show Bn (s4.cxN s.cx) w (gput l)
   unfold gput
   rw [hS]
   simpa [fl] using this
 · have h1 := hw.new x hx
   have h2 : s.next ≤ s3.next := hx3.nxt
   omega
theorem Bs.at {s : St} {v : Value} {l : List Nat} (h : Bs s v l) {i : Nat} (hi : i < l.length) : ∃ b o c, v = .slice (some ⟨b, o, none⟩) l.length c ∧ At s b (o + i * 1) (u8 l[i]) ∧ (∀ x, x = b + (o + i * 1) → BsF v x) := by
 rcases h with ⟨rfl, rfl⟩ | ⟨b, o, c, rfl, _, _, h3⟩
 · simp at hi
 · refine ⟨b, o, c, rfl, ?_, fun x hx => ⟨by omega, by omega⟩⟩
   rw [Nat.mul_one]
   exact h3.at (List.getElem?_eq_getElem hi)
section
variable {va vb : Value} {la lb : List Nat}
theorem WT_ {F : Nat → Prop} (hFa : ∀ x, BsF va x → F x) (hFb : ∀ x, BsF vb x → F x) {Q : Value × FrameMode → St → Prop} {s0 : St} (hb0 : s0.lim ≤ s0.next) (ha : Bs s0 va la) (hb : Bs s0 vb lb) (hlen : la.length = lb.length) (hz : la.length ≤ 4611686018427387904) (hcx : s0.cx = .cx none (some [])) (q : ∀ s1, Ext F Non s0 s1 → s1.mem = s0.mem → s1.next = s0.next → Q (.bool (decide (la = lb)), .run) s1) :
   ∀ (k i n : Nat) (tm : T Value) (s : St) (td : List Item), i + k = la.length → 7 * k + 20 ≤ n → skim 64 td = HJ → Ext F Non s0 s → s.mem = s0.mem → s.next = s0.next → la.take i = lb.take i →
   T.get tm 0 = some va → T.get tm 1 = some vb → T.get tm 12 = some (.int .i64 (la.length : Nat)) → T.get tm 13 = some (.int .i64 (i : Nat)) →
   W (runF envS n ⟨116, IE_, CU, tm, td, .run, .normal, none⟩) s Q := by
 intro k
 induction k with
 | zero =>
   intro i n tm s td hi hn hT hx hm hnx heq h0 h1 h12 h13
   refine AM_.w hT (by omega) ?_
   simp -implicitDefEqProofs only [Ru, Ad, W_oS, Aa, Ac, Bm, h12, h13]
   refine W.cond (v := false) Uo Vb (by simp [T.get_set]; omega) (by omega) (fun h => by cases h) fun _ => ?_
   refine Sf_.w WB_ (by omega) ?_
   simp -implicitDefEqProofs only [Yb, Aa, W_mv, Ac]
   have e : la = lb := by
     rw [show i = la.length by omega, List.take_length, hlen, List.take_length] at heq
     exact heq
   refine W.end' (rs := [4]) (vs := [.bool true]) GX_ (.inl JK_) (by omega) JP R7 (hx.cx.trans hcx) (by simp [T.get_set]) ?_
   have := q s hx hm hnx
   rw [decide_eq_true e] at this
   exact this
 | succ k ih =>
   intro i n tm s td hi hn hT hx hm hnx heq h0 h1 h12 h13
   have hia : i < la.length := by omega
   have hib : i < lb.length := by omega
   obtain ⟨ba, oa, ca, rfl, ga, fa⟩ := ha.at hia
   obtain ⟨bb, ob, cb, rfl, gb, fb⟩ := hb.at hib
   refine AM_.w hT (by omega) ?_
   simp -implicitDefEqProofs only [Ru, Ad, W_oS, Aa, Ac, Bm, h12, h13]
   refine W.cond (v := true) Uo Vb (by simp [T.get_set]; omega) (by omega) (fun _ => ?_) fun h => by cases h
   refine Vn_.w Fp_ (by omega) ?_
   simp -implicitDefEqProofs only [WN, Aa, W_mv, Ac, T.get_set, reduceIte, Nat.reduceEqDiff, ↓reduceIte, h13]
   refine Rp_.w Kj_ (by omega) ?_
   simp -implicitDefEqProofs only [Ym, T.get_set, Nat.reduceEqDiff, ↓reduceIte, h0, h1, Ci, A5]
   rw [W_dq fun s Q => Ck (s := s) A1 hia Q]
   refine W.dload If (ga.same hm hnx) fun rd1 hr1 => ?_
   simp -implicitDefEqProofs only [A5]
   rw [W_dq fun s Q => Ck (s := s) A1 hib Q]
   refine W.dload If (gb.same hm hnx) fun rd2 hr2 => ?_
   rw [Aa]
   refine ⟨Fo (by simp) (by simp), ?_⟩
   refine W.cast (Rh_ _ _ _ _ _ _ _ _ _ _ _ _ _) ?_
   simp -implicitDefEqProofs only [Ad, W_oS, Aa, Bb, Uy_]
   generalize hs' : (⟨(dSt s.mem s.next).mem, (dSt s.mem s.next).next, s.lim, _, _, s.cx⟩ : St) = s'
   have hx' : Ext F Non s0 s' := by
     rw [← hs']
     refine hx.trans (Ext.draw (F := F) (Nat.le_refl _) (fun _ _ => rfl) (by simp) (by
       simp -implicitDefEqProofs only [List.mem_cons, List.not_mem_nil, or_false]
       rintro m (rfl | rfl | rfl | rfl | rfl | rfl | rfl | rfl) x hx _ <;> first | (exact hFa _ (fa _ (hr1 _ hx))) | (exact hFb _ (fb _ (hr2 _ hx))) | (cases hx))) hb0 (fun _ _ h => h) fun _ _ h => h
   have hm' : s'.mem = s0.mem := by rw [← hs']; exact hm
   have hn' : s'.next = s0.next := by rw [← hs']; exact hnx
   by_cases he : la[i] = lb[i]
   · refine W.cond (v := false) XU UN (by simp [T.get_set, he]) (by omega) (fun h => by cases h) fun _ => ?_
     refine Vw_.w SN_ (by omega) ?_
     have ei : wrap64 ((i : Nat) + 1 : Int) = ((i + 1 : Nat) : Int) := by
       rw [Bl (by omega) (by omega)]; simp
     simp -implicitDefEqProofs only [XC, Ad, W_oS, Aa, W_mv, Ac, T.get_set, reduceIte, Nat.reduceEqDiff, ↓reduceIte, BY, h13, ei]
     refine ih (i + 1) _ _ _ _ (by omega) (by omega) My_ hx' hm' hn' ?_ (by simp [T.get_set, h0]) (by simp [T.get_set, h1]) (by simp [T.get_set, h12]) (by simp [T.get_set])
     rw [List.take_add_one, List.take_add_one, heq, List.getElem?_eq_getElem hia, List.getElem?_eq_getElem hib, he]
   · refine W.cond (v := true) XU UN (by simp [T.get_set, he]) (by omega) (fun _ => ?_) fun h => by cases h
     refine NM_.w Dq_ (by omega) ?_
     simp -implicitDefEqProofs only [X4, Aa, W_mv, Ac]
     have e : la ≠ lb := by
       intro e
       subst e
       exact he rfl
     refine W.end' (rs := [4]) (vs := [.bool false]) SL_ (.inl Tt_) (by omega) JP R7 (hx'.cx.trans hcx) (by simp [T.get_set]) ?_
     have := q s' hx' hm' hn'
     rw [decide_eq_false e] at this
     exact this
theorem QF_ {n : Nat} {s : St} {Q : Value → St → Prop} (hbd : s.lim ≤ s.next) (ha : Bs s va la) (hb : Bs s vb lb) (hz : la.length ≤ 4611686018427387904) (hn : 7 * la.length + 40 ≤ n)
   (q : ∀ s1, Ext (fun x => BsF va x ∨ BsF vb x) Non s s1 → s1.mem = s.mem → s1.next = s.next → Q (.bool (decide (la = lb))) s1) : W (Au envS (runF envS n) 116 [va, vb]) s Q := by
 refine CK_ fun tm h0 h1 => ?_
 have ha' : Bs (s.cxN cxN) va la := ha.same rfl rfl
 have hb' : Bs (s.cxN cxN) vb lb := hb.same rfl rfl
 refine QH_.w rfl (by omega) ?_
 simp -implicitDefEqProofs only [UX, Aa, W_mv, Ac]
 refine Pp_.w CR_ (by omega) ?_
 simp -implicitDefEqProofs only [Uw, Ad, W_oS, Aa, W_mv, Ac, T.get_set, Ap, Al, Ak, reduceIte, Nat.reduceEqDiff, reduceCtorEq, ↓reduceIte, D9, h0, h1, ha'.len A1, hb'.len A1]
 by_cases hlen : la.length = lb.length
 · refine W.cond (v := false) YX AL_ (by simp [T.get_set, hlen]) (by omega) (fun h => by cases h) fun _ => ?_
   refine IL_.w Sq_ (by omega) ?_
   simp -implicitDefEqProofs only [Y5, Ad, W_oS, Aa, W_mv, Ac, T.get_set, Ap, Al, Ak, reduceIte, reduceCtorEq, ↓reduceIte, h0, ha'.len A1]
   exact WT_ (s0 := s.cxN cxN) (F := fun x => BsF va x ∨ BsF vb x) (fun _ h => .inl h) (fun _ h => .inr h) hbd ha' hb' hlen hz rfl (fun s1 x1 m1 n1 => q _ x1.cx' m1 n1) la.length 0 _ _ _ _ (by omega) (by omega) QG_ (Ext.refl _) rfl rfl (by simp) (by simp [T.get_set, h0]) (by simp [T.get_set, h1]) (by simp [T.get_set]) (by simp [T.get_set])
 · refine W.cond (v := true) YX AL_ (by simp [T.get_set]; omega) (by omega) (fun _ => ?_) fun h => by cases h
   refine Xz_.w Nr_ (by omega) ?_
   simp -implicitDefEqProofs only [AF_, Aa, W_mv, Ac]
   have e : la ≠ lb := fun e => hlen (by rw [e])
   refine W.end' (rs := [4]) (vs := [.bool false]) Ji_ (.inl Jf_) (by omega) JP R7 rfl (by simp [T.get_set]) ?_
   have := q _ (Ext.refl s) rfl rfl
   rw [decide_eq_false e] at this
   exact this
end
theorem Fresh1.toNew {s s' : St} {v : Value} {b : Nat} {l : List Nat} (h : Fresh1 s s' 1 l.length (u8l l) v b) (hl : l.length < capU) : New s s' v l := by
 obtain ⟨rfl, hnew, hown, _, _, _⟩ := h
 refine ⟨⟨b, 0, _, rfl, by rw [OO hl]; exact Nat.le_refl _, H1 hl (by decide), hown.row⟩, fun x hx => ?_⟩
 have : b + 0 ≤ x := hx.1
 omega
theorem JU_ {n : Nat} {s : St} {v : Value} {l : List Nat} {Q : Value → St → Prop} (hbd : s.lim ≤ s.next) (h : Bn s v l) (hz : l.length ≤ 1000000) (hn : 30 ≤ n)
   (q : ∀ s1 w, Ext (BsF v) Non s s1 → New s s1 w l → Q w s1) : W (Au envS (runF envS n) 117 [v]) s Q := by
 refine DJ_ fun tm h0 => ?_
 have hc : Bn (s.cxN cxN) v l := h.same rfl rfl
 refine Fq_.w rfl (by omega) ?_
 simp -implicitDefEqProofs only [VM, Aa, W_mv, Ac]
 refine Qr_.w VB_ (by omega) ?_
 obtain ⟨b, o, c, rfl, hv⟩ := hc
 simp -implicitDefEqProofs only [Ar_, Ad, W_oS, Aa, W_mv, Ac, T.get_set, reduceIte, reduceCtorEq, ↓reduceIte, h0, JN_ A1]
 refine W.cond (v := false) Kc_ Tn_ (by simp [T.get_set]) (by omega) (fun h => by cases h) fun _ => ?_
 refine Sy_.w Jk_ (by omega) ?_
 simp -implicitDefEqProofs only [Cd_, Ad, W_oS, Aa, W_mv, Ac, T.get_set, Ap, Al, Bd, Ak, reduceIte, reduceCtorEq, ↓reduceIte, h0]
 refine W.buildS (s := s.cxN cxN) hbd (r := []) E3 (by decide) rfl (BD (by decide)) fun s1 n1 x1 r1 => ?_
 have hb1 : s1.lim ≤ s1.next := x1.bnd hbd
 have hx1 : Ext (BsF (.slice (some ⟨b, o, none⟩) l.length c)) Non (s.cxN cxN) s1 := x1.weak hbd (fun _ _ h => h.elim) fun _ _ h => h
 have hv1 : Bs s1 (.slice (some ⟨b, o, none⟩) l.length c) l := (Bn.bs ⟨b, o, c, rfl, hv⟩).ext0 hx1
 rw [E5]
 by_cases hl : 0 < l.length
 · refine W.appEmp hb1 Ic hv1.src.g hl (by decide) (by decide) (by omega) (by rw [A0, Nat.mul_one]) (BT _) fun s2 w nb hf x2 => ?_
   have hx2 := hx1.step x2 hbd (fun _ _ h => h) fun _ h => h.elim
   refine W.end' (rs := [2]) (vs := [w]) YG (.inl W8) (by omega) Sw Xq hx2.cx (by simp [T.get_set]) ?_
   have hN := hf.toNew (BD (by omega))
   refine q _ _ hx2.cx' ⟨hN.bn.same rfl rfl, fun x hx => ?_⟩
   have h1 := hN.new x hx
   have h2 : s.next ≤ s1.next := hx1.nxt
   omega
 · have h0l : l = [] := List.eq_nil_of_length_eq_zero (by omega)
   subst h0l
   refine W.appIn (s := s1) (n := 0) (len := 0) (c := 0) (l := []) Ic hv1.src.g (by simp) rfl rfl (fun i hi => absurd hi (by omega)) fun s2 n2 x2 r2 => ?_
   have hx2 := hx1.step x2 hbd (fun _ _ h => by
     rcases h with h | h
     · exact h
     · have h3 := h.1; have h4 := h.2; omega) fun l h => by have h3 := h.1; have h4 := h.2; omega
   refine W.end' (rs := [2]) (vs := [.slice (some ⟨s.next, 0, none⟩) (0 + 0) 0]) YG (.inl W8) (by omega) Sw Xq hx2.cx (by simp [T.get_set]; rfl) ?_
   refine q _ _ hx2.cx' ⟨⟨s.next, 0, 0, rfl, by simp, J0 (by unfold capU; decide), fun i v e => by simp at e⟩, fun x hx => ?_⟩
   have h3 : s.next + 0 ≤ x := hx.1
   have h4 : x < s.next + 0 + (0 + 0) := hx.2
   omega
theorem W.cut {E : Env} {t : Nat} {s : St} {v : Value} {l : List Nat} {i j : Nat} {lo hi : Option Value} {Q : Value → St → Prop} (h : Bn s v l) (ht : slN E t = some 1) (hlo : bndV lo 0 = some i) (hhi : bndV hi l.length = some j) (hij : i ≤ j) (hj : j ≤ l.length)
   (q : ∀ v', Bn s v' ((l.take j).drop i) → (∀ x, BsF v' x → BsF v x) → Q v' s) : W (Bv E t v lo hi) s Q := by
 obtain ⟨b, o, c, rfl, h1, h2, h3⟩ := h
 rw [Sa ht hlo hhi hij (by omega) h2]
 obtain ⟨o', e1, e2, e3, e4, e5⟩ := Bs.sub' hij hj h1 h2 h3
 rw [e1]
 refine q _ ⟨b, o', c - i, rfl, e2, e3, e4⟩ fun x hx => ?_
 have hlen : ((l.take j).drop i).length = j - i := by rw [List.length_drop, List.length_take]; omega
 have h6 : b + o' ≤ x := hx.1
 have h7 : x < b + o' + ((l.take j).drop i).length := hx.2
 rw [hlen] at h7
 rcases e5 with rfl | e5
 · exact ⟨by omega, by omega⟩
 · rw [hlen] at e5; omega
def GOk (l : List Nat) : Prop := 4 ≤ l.length ∧ gput (l.take (l.length - 4)) = l
instance (l : List Nat) : Decidable (GOk l) := by unfold GOk; infer_instance
theorem Fk (l : List Nat) : (gput l).length = l.length + 4 := by simp [gput, le4]
theorem CC_ {n : Nat} {s : St} {v : Value} {l : List Nat} {Q : Value → St → Prop} (hbd : s.lim ≤ s.next) (h : Bn s v l) (hb : Byt l) (hz : l.length ≤ 900000) (hn : 7 * l.length + 200 ≤ n)
   (q1 : GOk l → ∀ s1 w, Ext (BsF v) Non s s1 → New s s1 w (l.take (l.length - 4)) → Q (.tuple #[w, .int .i64 0]) s1) (q2 : ¬ GOk l → ∀ s1, Ext (BsF v) Non s s1 → Q (.tuple #[.slice none 0 0, .int .i64 4]) s1) : W (Au envS (runF envS n) 81 [v]) s Q := by
 refine GF_ fun tm h0 => ?_
 have hc : Bn (s.cxN cxN) v l := h.same rfl rfl
 refine Lu_.w rfl (by omega) ?_
 simp -implicitDefEqProofs only [YU, Aa, W_mv, Ac]
 refine LY_.w VM_ (by omega) ?_
 simp -implicitDefEqProofs only [Vp, Ad, W_oS, Aa, W_mv, Ac, T.get_set, Ap, Al, Ak, reduceIte, reduceCtorEq, ↓reduceIte, Ep, h0, hc.bs.len A1]
 refine So_.w Ug_ (by omega) ?_
 by_cases h4 : 4 ≤ l.length
 · have ek : wrap64 ((l.length : Nat) - 4 : Int) = ((l.length - 4 : Nat) : Int) := by
     rw [Bl (by omega) (by omega)]; omega
   have ed : decide (((l.length - 4 : Nat) : Int) < 0) = false := by simp
   simp -implicitDefEqProofs only [Qg, Ad, W_oS, W_on, Aa, W_mv, Ac, T.get_set, Ap, Al, Ak, AW, reduceIte, AX, Bg, A7, Bh, AV, reduceCtorEq, ↓reduceIte, Bm, h0, ek, ed]
   have hcut : (l.take (l.length - 4)).drop 0 = l.take (l.length - 4) := rfl
   refine W.cut hc A1 (i := 0) (j := l.length - 4) rfl rfl (Nat.zero_le _) (by omega) fun v1 hv1 hF1 => ?_
   rw [hcut] at hv1
   have hB1 : Byt (l.take (l.length - 4)) := fun x hx => hb x (List.mem_of_mem_take hx)
   have hl1 : (l.take (l.length - 4)).length = l.length - 4 := by rw [List.length_take]; omega
   refine Vj (s := s.cxN cxN) hbd (by omega) hv1 hB1 (by omega) fun s1 w1 x1 hw1 => ?_
   have hb1 : s1.lim ≤ s1.next := x1.bnd hbd
   have hx1 : Ext (BsF v) Non (s.cxN cxN) s1 := x1.weak hbd (fun x _ hx => hF1 x hx) fun _ _ h => h
   refine QF_ hb1 hw1.bn.bs (hc.ext0 hx1).bs (by rw [Fk]; omega) (by rw [Fk]; omega) fun s2 x2 m2 n2 => ?_
   have hx2 : Ext (BsF v) Non (s.cxN cxN) s2 := hx1.step x2 hbd (fun x hx h => by
     rcases h with h | h
     · have h5 : s.next ≤ x := hw1.new x h
       have h6 : x < s.lim := hx
       omega
     · exact h) fun _ h => h.elim
   have hb2 : s2.lim ≤ s2.next := hx2.bnd hbd
   simp -implicitDefEqProofs only [De]
   by_cases hg : gput (l.take (l.length - 4)) = l
   · refine W.cond (v := false) P0 Pc (by simp [T.get_set, hg]) (by omega) (fun h => by cases h) fun _ => ?_
     refine NV_.w Oq_ (by omega) ?_
     simp -implicitDefEqProofs only [X2, Ad, W_on, Aa, W_mv, Ac, T.get_set, Ap, Al, Ak, AW, reduceIte, Nat.reduceEqDiff, reduceCtorEq, ↓reduceIte, h0]
     refine W.cut (hc.ext0 hx2) A1 (i := 0) (j := l.length - 4) rfl rfl (Nat.zero_le _) (by omega) fun v3 hv3 hF3 => ?_
     rw [hcut] at hv3
     refine JU_ hb2 hv3 (by omega) (by omega) fun s3 w x3 hw3 => ?_
     have hx3 : Ext (BsF v) Non (s.cxN cxN) s3 := hx2.step x3 hbd (fun x _ hx => hF3 x hx) fun _ h => h.elim
     refine W.end' (rs := [2, 3]) (vs := [w, .int .i64 0]) Oi_ (.inl Th_) (by omega) M7 Rg hx3.cx (by simp [T.get_set]) ?_
     refine q1 ⟨h4, hg⟩ _ w hx3.cx' ⟨hw3.bn.same rfl rfl, fun x hx => ?_⟩
     have h5 := hw3.new x hx
     have h6 : s.next ≤ s2.next := hx2.nxt
     omega
   · refine W.cond (v := true) P0 Pc (by simp [T.get_set, hg]) (by omega) (fun _ => ?_) fun h => by cases h
     refine T9.w T3 (by omega) ?_
     simp -implicitDefEqProofs only [Qr, Aa, W_mv, Ac]
     refine W.end' (rs := [2, 3]) (vs := [.slice none 0 0, .int .i64 4]) Au_ (.inl VK) (by omega) M7 Rg hx2.cx (by simp [T.get_set]) ?_
     exact q2 (fun h => hg h.2) _ hx2.cx'
 · have ed : decide (wrap64 ((l.length : Nat) - 4 : Int) < 0) = true := by
     rw [Bl (by omega) (by omega)]; simp; omega
   simp -implicitDefEqProofs only [Qg, Ad, W_oS, W_on, Aa, W_mv, Ac, T.get_set, Ap, Al, Ak, reduceIte, AX, By, A7, Bz, AV, reduceCtorEq, ↓reduceIte, Bm, h0, ed]
   refine W.cond (v := true) P0 Pc (by simp [T.get_set]) (by omega) (fun _ => ?_) fun h => by cases h
   refine T9.w T3 (by omega) ?_
   simp -implicitDefEqProofs only [Qr, Aa, W_mv, Ac]
   refine W.end' (rs := [2, 3]) (vs := [.slice none 0 0, .int .i64 4]) Au_ (.inl VK) (by omega) M7 Rg rfl (by simp [T.get_set]) ?_
   exact q2 (fun h => h4 h.1) _ (Ext.refl s)
def Ow : Nat := Bt Try.f110
def TT : Code := Try.f110.body.getD .skip
theorem Ax_ : envS.fn.get 110 = some Try.f110 := by kernel_rfl
theorem Fl_ {n : Nat} {s : St} {Q : Value → St → Prop} (h : ∀ tm, W (runF envS n ⟨110, 4, Ow, tm, [.code TT], .run, .normal, none⟩) (s.cxN cxN) fun p s1 => Q p.1 (s1.cxN s.cx)) : W (Au envS (runF envS n) 110 []) s Q :=
 W.call (by kernel_rfl) (by kernel_rfl) Ax_ (by kernel_rfl) rfl rfl (by simp) (h _ )
theorem Tw_ : Try.f110.results.toList = [.tmp 0] := by kernel_rfl
def PZ : List Item := skim 64 [.code TT]
def LS : List Item := skim 64 PZ.tail
theorem ML_ : skim 64 PZ.tail = LS := by kernel_rfl
def PY : List Item := skim 64 LS.tail
theorem NX_ : skim 64 LS.tail = PY := by kernel_rfl
def SE (E : Env) (call round : Ab) (tm : T Value) : M (T Value) :=
  mv (some (.pointer none)) fun v0 =>
  setF 0 v0 tm fun tm1 =>
  M.pure tm1
theorem VR_ : RegEq 110 4 Ow PZ SE := ⟨by kernel_rfl, fun _ _ _ _ _ _ _ _ _ => by kernel_rfl⟩
def ZK (E : Env) (call round : Ab) (tm : T Value) : M (T Value) :=
  M.bind (M.on (some (.func (.func 133) #[] #[])) fun f => M.on (seqO []) fun l => AY call round f l) fun v1 =>
  M.bind (oS (seqP [(0, (some (.bool true))), (1, (some v1))]) fun ps => Cb E 167 ps) fun v2 =>
  M.bind (oS (some v2) fun a => kBox a) fun v3 =>
  mv (some v3) fun v0 =>
  setF 0 v0 tm fun tm1 =>
  M.pure tm1
theorem Lz_ : RegEq 110 4 Ow LS ZK := ⟨by kernel_rfl, fun _ _ _ _ _ _ _ _ _ => by kernel_rfl⟩
theorem NU_ : ∃ k, PY = .code .ret :: k := ⟨PY.tail, by kernel_rfl⟩
def PM : Nat := Bt Try.f133
def ZR : Code := Try.f133.body.getD .skip
theorem Z1 : envS.fn.get 133 = some Try.f133 := by kernel_rfl
theorem QJ_ {n : Nat} {s : St} {Q : Value → St → Prop} (h : ∀ tm, W (runF envS n ⟨133, 2, PM, tm, [.code ZR], .run, .normal, none⟩) (s.cxN cxN) fun p s1 => Q p.1 (s1.cxN s.cx)) : W (Au envS (runF envS n) 133 []) s Q :=
 W.call (by kernel_rfl) (by kernel_rfl) Z1 (by kernel_rfl) rfl rfl (by simp) (h _ )
theorem ND_ : Try.f133.results.toList = [.cell 0 163] := by kernel_rfl
def Qu : List Item := skim 64 [.code ZR]
def JR : List Item := skim 64 Qu.tail
theorem Ou_ : skim 64 Qu.tail = JR := by kernel_rfl
def Rl : List Item := skim 64 JR.tail
theorem PY_ : skim 64 JR.tail = Rl := by kernel_rfl
def Yj (E : Env) (call round : Ab) (tm : T Value) : M (T Value) :=
  M.bind (BC E 163) fun v0 =>
  setF 0 v0 tm fun tm1 =>
  M.pure tm1
theorem VK_ : RegEq 133 2 PM Qu Yj := ⟨by kernel_rfl, fun _ _ _ _ _ _ _ _ _ => by kernel_rfl⟩
def BB_ (E : Env) (call round : Ab) (tm : T Value) : M (T Value) :=
  M.bind (oS (seqP [(0, (some (.int .u32 1779033703))), (1, (some (.int .u32 3144134277))), (2, (some (.int .u32 1013904242))), (3, (some (.int .u32 2773480762))), (4, (some (.int .u32 1359893119))), (5, (some (.int .u32 2600822924))), (6, (some (.int .u32 528734635))), (7, (some (.int .u32 1541459225)))]) fun ps => Cb E 163 ps) fun v1 =>
  M.bind (oS (T.get tm 0) fun a => oS (some v1) fun b => A3 E 163 a b) fun _ =>
  M.pure tm
theorem DM_ : RegEq 133 2 PM JR BB_ := ⟨by kernel_rfl, fun _ _ _ _ _ _ _ _ _ => by kernel_rfl⟩
theorem Em_ : ∃ k, Rl = .code .ret :: k := ⟨Rl.tail, by kernel_rfl⟩
def Ds : Nat := Bt Try.f111
abbrev OH_ : Nat := 57
def VX : Code := Try.f111.body.getD .skip
theorem Q0 : envS.fn.get 111 = some Try.f111 := by kernel_rfl
theorem In_ {a0 a1 : Value} {n : Nat} {s : St} {Q : Value → St → Prop} (h : ∀ tm, T.get tm 0 = some a0 → T.get tm 1 = some a1 → W (runF envS n ⟨111, 57, Ds, tm, [.code VX], .run, .normal, none⟩) (s.cxN cxN) fun p s1 => Q p.1 (s1.cxN s.cx)) : W (Au envS (runF envS n) 111 [a0, a1]) s Q :=
 W.call (by kernel_rfl) (by kernel_rfl) Q0 (by kernel_rfl) rfl rfl (by simp) (h _ (by kernel_rfl) (by kernel_rfl))
theorem SI : Try.f111.results.toList = [] := by kernel_rfl
def RQ : List Item := skim 64 [.code VX]
def M0 : List Item := skim 64 RQ.tail
theorem Dl_ : skim 64 RQ.tail = M0 := by kernel_rfl
def FM : List Item := skim 64 (brF M0)
theorem SO_ : skim 64 (brF M0) = FM := by kernel_rfl
def G0 : List Item := skim 64 FM.tail
theorem RY : skim 64 FM.tail = G0 := by kernel_rfl
def Kr : List Item := skim 64 (brT G0)
theorem XK_ : skim 64 (brT G0) = Kr := by kernel_rfl
def TQ_ : List Item := skim 64 (brF G0)
theorem ZH : skim 64 (brF G0) = TQ_ := by kernel_rfl
def Nv : List Item := skim 64 Kr.tail
theorem Sj_ : skim 64 Kr.tail = Nv := by kernel_rfl
def NG : List Item := skim 64 Nv.tail
theorem WI_ : skim 64 Nv.tail = NG := by kernel_rfl
def NL : List Item := skim 64 NG.tail
theorem HW_ : skim 64 NG.tail = NL := by kernel_rfl
def Kq : List Item := skim 64 NL.tail
theorem Sc_ : skim 64 NL.tail = Kq := by kernel_rfl
def Je : List Item := skim 64 Kq.tail
theorem Tr : skim 64 Kq.tail = Je := by kernel_rfl
def M1 : List Item := skim 64 (brT Je)
theorem CE_ : skim 64 (brT Je) = M1 := by kernel_rfl
theorem Uk_ : skim 64 (brF Je) = FM := by kernel_rfl
theorem Mf_ : skim 64 M1.tail = FM := by kernel_rfl
def AS_ (E : Env) (call round : Ab) (tm : T Value) : M (T Value) :=
  mv (T.get tm 0) fun v6 =>
  M.bind (oS (some v6) fun a => oS (some (.pointer none)) fun b => Cl.get (aBin E .eql 145 (.tmp 6) (.const (.pointer none))) a b) fun v7 =>
  mv (some v7) fun v8 =>
  M.bind (M.chk (isK v8) (M.if (isB v8 false) (oS (T.get tm 0) fun a => M.pure a) (M.pure undef))) fun v9 =>
  M.bind (M.chk (isK v8) (M.if (isB v8 false) (oS (some v9) fun a => kNil a) (M.pure undef))) fun v10 =>
  M.bind (M.chk (isK v8) (M.if (isB v8 false) (oS (some v10) fun a => kFld E 167 a 0) (M.pure undef))) fun v11 =>
  M.bind (M.chk (isK v8) (M.if (isB v8 false) (oS (some v11) fun a => AQ E 4 a) (M.pure undef))) fun v12 =>
  M.bind (M.chk (isK v8) (M.if (isB v8 false) (oS (some v12) fun a => kUn E.P .not a) (M.pure undef))) fun v13 =>
  M.bind (M.on (some v8) fun a => M.on (some (.bool true)) fun b => M.on (some v13) fun c => BI a b c) fun v14 =>
  setF 14 v14 tm fun tm1 =>
  M.pure tm1
theorem Tp_ : RegEq 111 57 Ds RQ AS_ := ⟨by kernel_rfl, fun _ _ _ _ _ _ _ _ _ => by kernel_rfl⟩
theorem HI_ : A2 M0 = some 14 := by kernel_rfl
def Lj (E : Env) (call round : Ab) (tm : T Value) : M (T Value) :=
  mv (T.get tm 1) fun v15 =>
  M.bind (oS (seqO [(some v15)]) fun l => AS E .len [22] l) fun v16 =>
  M.bind (oS (some v16) fun a => oS (some (.int .i64 0)) fun b => Cl.get (aBin E .gtr 3 (.tmp 16) (.const (.int .i64 0))) a b) fun v17 =>
  setF 17 v17 tm fun tm1 =>
  M.pure tm1
theorem Sk : RegEq 111 57 Ds FM Lj := ⟨by kernel_rfl, fun _ _ _ _ _ _ _ _ _ => by kernel_rfl⟩
theorem Pk : A2 G0 = some 17 := by kernel_rfl
def S8 (E : Env) (call round : Ab) (tm : T Value) : M (T Value) :=
  mv (T.get tm 0) fun v18 =>
  M.bind (oS (some v18) fun a => kNil a) fun v19 =>
  M.bind (oS (some v19) fun a => kFld E 167 a 3) fun v20 =>
  M.bind (oS (some v20) fun a => AQ E 3 a) fun v21 =>
  M.bind (oS (some v21) fun a => oS (some (.int .i64 64)) fun b => Cl.get (aBin E .rem 3 (.tmp 21) (.const (.int .i64 64))) a b) fun v22 =>
  mv (some v22) fun v4 =>
  setF 4 v4 tm fun tm1 =>
  M.pure tm1
theorem PL_ : RegEq 111 57 Ds Kr S8 := ⟨by kernel_rfl, fun _ _ _ _ _ _ _ _ _ => by kernel_rfl⟩
def Wf (E : Env) (call round : Ab) (tm : T Value) : M (T Value) :=
  mv (T.get tm 0) fun v23 =>
  M.bind (oS (some v23) fun a => kNil a) fun v24 =>
  M.bind (oS (some v24) fun a => kFld E 167 a 2) fun v25 =>
  mv (T.get tm 4) fun v26 =>
  M.bind (M.on (some v25) fun a => M.on (onO (some v26) fun v => some (some v)) fun b => M.on (some none) fun c => Bv E 165 a b c) fun v27 =>
  mv (T.get tm 1) fun v28 =>
  M.bind (oS (seqO [(some v27), (some v28)]) fun l => AS E .copy [22, 22] l) fun v29 =>
  mv (some v29) fun v5 =>
  setF 5 v5 tm fun tm1 =>
  M.pure tm1
theorem HV_ : RegEq 111 57 Ds Nv Wf := ⟨by kernel_rfl, fun _ _ _ _ _ _ _ _ _ => by kernel_rfl⟩
def SN (E : Env) (call round : Ab) (tm : T Value) : M (T Value) :=
  mv (T.get tm 1) fun v30 =>
  mv (T.get tm 5) fun v31 =>
  M.bind (M.on (some v30) fun a => M.on (onO (some v31) fun v => some (some v)) fun b => M.on (some none) fun c => Bv E 22 a b c) fun v32 =>
  mv (some v32) fun v1 =>
  setF 1 v1 tm fun tm1 =>
  M.pure tm1
theorem Rv_ : RegEq 111 57 Ds NG SN := ⟨by kernel_rfl, fun _ _ _ _ _ _ _ _ _ => by kernel_rfl⟩
def Vq (E : Env) (call round : Ab) (tm : T Value) : M (T Value) :=
  mv (T.get tm 0) fun v33 =>
  M.bind (oS (some v33) fun a => kNil a) fun v34 =>
  M.bind (oS (some v34) fun a => kFld E 167 a 3) fun v35 =>
  M.bind (oS (some v35) fun a => AQ E 3 a) fun v36 =>
  mv (T.get tm 5) fun v37 =>
  M.bind (oS (some v36) fun a => oS (some v37) fun b => Cl.get (aBin E .add 3 (.tmp 36) (.tmp 37)) a b) fun v38 =>
  M.bind (oS (some v33) fun a => kNil a) fun v39 =>
  M.bind (oS (some v39) fun a => kFld E 167 a 3) fun v40 =>
  M.bind (oS (some v40) fun a => oS (some v38) fun b => A3 E 3 a b) fun _ =>
  M.pure tm
theorem Rq_ : RegEq 111 57 Ds NL Vq := ⟨by kernel_rfl, fun _ _ _ _ _ _ _ _ _ => by kernel_rfl⟩
def TZ (E : Env) (call round : Ab) (tm : T Value) : M (T Value) :=
  mv (T.get tm 4) fun v41 =>
  mv (T.get tm 5) fun v42 =>
  M.bind (oS (some v41) fun a => oS (some v42) fun b => Cl.get (aBin E .add 3 (.tmp 41) (.tmp 42)) a b) fun v43 =>
  M.bind (oS (some v43) fun a => oS (some (.int .i64 64)) fun b => Cl.get (aBin E .eql 3 (.tmp 43) (.const (.int .i64 64))) a b) fun v44 =>
  setF 44 v44 tm fun tm1 =>
  M.pure tm1
theorem Px_ : RegEq 111 57 Ds Kq TZ := ⟨by kernel_rfl, fun _ _ _ _ _ _ _ _ _ => by kernel_rfl⟩
theorem Zg : A2 Je = some 44 := by kernel_rfl
def AY_ (E : Env) (call round : Ab) (tm : T Value) : M ((Rho × T Value) × List OpLog) :=
  M.bind (apartO (oS (T.get tm 0) fun a => M.pure a)) fun p0 =>
  M.bind (apartO (oS (T.get tm 0) fun a => M.pure a)) fun p1 =>
  M.bind (apartO (oS (some p1.1) fun a => kNil a)) fun p2 =>
  M.bind (apartO (oS (some p2.1) fun a => kFld E 167 a 1)) fun p3 =>
  M.bind (apartO (oS (some p3.1) fun a => AQ E 163 a)) fun p4 =>
  M.bind (apartO (oS (T.get tm 0) fun a => M.pure a)) fun p5 =>
  M.bind (apartO (oS (some p5.1) fun a => kNil a)) fun p6 =>
  M.bind (apartO (oS (some p6.1) fun a => kFld E 167 a 2)) fun p7 =>
  M.bind (apartO (M.on (some p7.1) fun a => M.on (some none) fun b => M.on (some none) fun c => Bv E 165 a b c)) fun p8 =>
  M.bind (apartO (M.on (some (.func (.func 134) #[] #[])) fun f => M.on (seqO [(some p4.1), (some p8.1)]) fun l => AY call round f l)) fun p9 =>
  M.bind (apartO (oS (some p0.1) fun a => kNil a)) fun p10 =>
  M.bind (apartO (oS (some p10.1) fun a => kFld E 167 a 1)) fun p11 =>
  M.pure (([p11.1, p10.1, p9.1, p8.1, p7.1, p6.1, p5.1, p4.1, p3.1, p2.1, p1.1, p0.1], tm), [p11.2, p10.2, p9.2, p8.2, p7.2, p6.2, p5.2, p4.2, p3.2, p2.2, p1.2, p0.2])
theorem WZ_ : DrawEq 111 57 Ds M1 [0, 0, 2, 6, 14, 0, 32, 96, 224, 510, 1023, 2047, 4095] AY_ := ⟨by kernel_rfl, by kernel_rfl, fun _ _ _ _ _ _ _ _ _ => by kernel_rfl⟩
theorem NC_ (E : Env) (call round : Ab) (x45 x46 x47 x48 x49 x50 x51 x52 x53 x54 x55 x56 : Value) (tm : T Value) (s : St) : BF call round (Cq E Ds 57 (hdC M1)) [x56, x55, x54, x53, x52, x51, x50, x49, x48, x47, x46, x45] tm s = (M.bind (oS (some x56) fun a => oS (some x54) fun b => A3 E 163 a b) fun _ => M.pure tm) s := by kernel_rfl
def BW : Nat := Bt Try.f112
abbrev HQ : Nat := 74
def XB : Code := Try.f112.body.getD .skip
theorem Tv : envS.fn.get 112 = some Try.f112 := by kernel_rfl
theorem UR_ {a0 : Value} {n : Nat} {s : St} {Q : Value → St → Prop} (h : ∀ tm, T.get tm 0 = some a0 → W (runF envS n ⟨112, 74, BW, tm, [.code XB], .run, .normal, none⟩) (s.cxN cxN) fun p s1 => Q p.1 (s1.cxN s.cx)) : W (Au envS (runF envS n) 112 [a0]) s Q :=
 W.call (by kernel_rfl) (by kernel_rfl) Tv (by kernel_rfl) rfl rfl (by simp) (h _ (by kernel_rfl))
theorem CJ_ : Try.f112.results.toList = [.cell 2 101] := by kernel_rfl
def QD : List Item := skim 64 [.code XB]
def Mj : List Item := skim 64 QD.tail
theorem No_ : skim 64 QD.tail = Mj := by kernel_rfl
def Mb : List Item := skim 64 Mj.tail
theorem XG_ : skim 64 Mj.tail = Mb := by kernel_rfl
def NJ : List Item := skim 64 Mb.tail
theorem Re_ : skim 64 Mb.tail = NJ := by kernel_rfl
def LC : List Item := skim 64 (brF NJ)
theorem Vv_ : skim 64 (brF NJ) = LC := by kernel_rfl
def Io : List Item := skim 64 LC.tail
theorem Xr_ : skim 64 LC.tail = Io := by kernel_rfl
def Kg : List Item := skim 64 Io.tail
theorem DZ_ : skim 64 Io.tail = Kg := by kernel_rfl
def L8 : List Item := skim 64 Kg.tail
theorem CS_ : skim 64 Kg.tail = L8 := by kernel_rfl
def HH : List Item := skim 64 L8.tail
theorem Nt_ : skim 64 L8.tail = HH := by kernel_rfl
def Hn : List Item := skim 64 HH.tail
theorem U5 : skim 64 HH.tail = Hn := by kernel_rfl
def J2 : List Item := skim 64 (brT Hn)
theorem ED_ : skim 64 (brT Hn) = J2 := by kernel_rfl
def Ih : List Item := skim 64 (brF Hn)
theorem HH_ : skim 64 (brF Hn) = Ih := by kernel_rfl
def Qv : List Item := skim 64 J2.tail
theorem Hz_ : skim 64 J2.tail = Qv := by kernel_rfl
def II : List Item := skim 64 Ih.tail
theorem WF_ : skim 64 Ih.tail = II := by kernel_rfl
theorem SI_ : skim 64 Qv.tail = HH := by kernel_rfl
def GF : List Item := skim 64 II.tail
theorem KK_ : skim 64 II.tail = GF := by kernel_rfl
def G4 : List Item := skim 64 GF.tail
theorem XX : skim 64 GF.tail = G4 := by kernel_rfl
def M9 : List Item := skim 64 (brT G4)
theorem Si_ : skim 64 (brT G4) = M9 := by kernel_rfl
def Ij : List Item := skim 64 (brF G4)
theorem WH_ : skim 64 (brF G4) = Ij := by kernel_rfl
def Lo : List Item := skim 64 M9.tail
theorem Vo_ : skim 64 M9.tail = Lo := by kernel_rfl
def P1 : List Item := skim 64 Ij.tail
theorem Gk_ : skim 64 Ij.tail = P1 := by kernel_rfl
def Ra : List Item := skim 64 Lo.tail
theorem EF_ : skim 64 Lo.tail = Ra := by kernel_rfl
theorem Na_ : skim 64 Ra.tail = GF := by kernel_rfl
def Vs (E : Env) (call round : Ab) (tm : T Value) : M (T Value) :=
  M.bind (BC E 101) fun v2 =>
  setF 2 v2 tm fun tm1 =>
  M.pure tm1
theorem JS_ : RegEq 112 74 BW QD Vs := ⟨by kernel_rfl, fun _ _ _ _ _ _ _ _ _ => by kernel_rfl⟩
def TL (E : Env) (call round : Ab) (tm : T Value) : M (T Value) :=
  M.bind (BC E 101) fun v3 =>
  setF 3 v3 tm fun tm1 =>
  M.pure tm1
theorem HM_ : RegEq 112 74 BW Mj TL := ⟨by kernel_rfl, fun _ _ _ _ _ _ _ _ _ => by kernel_rfl⟩
def Cj_ (E : Env) (call round : Ab) (tm : T Value) : M (T Value) :=
  mv (T.get tm 0) fun v9 =>
  M.bind (oS (some v9) fun a => oS (some (.pointer none)) fun b => Cl.get (aBin E .eql 145 (.tmp 9) (.const (.pointer none))) a b) fun v10 =>
  mv (some v10) fun v11 =>
  M.bind (M.chk (isK v11) (M.if (isB v11 false) (oS (T.get tm 0) fun a => M.pure a) (M.pure undef))) fun v12 =>
  M.bind (M.chk (isK v11) (M.if (isB v11 false) (oS (some v12) fun a => kNil a) (M.pure undef))) fun v13 =>
  M.bind (M.chk (isK v11) (M.if (isB v11 false) (oS (some v13) fun a => kFld E 167 a 0) (M.pure undef))) fun v14 =>
  M.bind (M.chk (isK v11) (M.if (isB v11 false) (oS (some v14) fun a => AQ E 4 a) (M.pure undef))) fun v15 =>
  M.bind (M.chk (isK v11) (M.if (isB v11 false) (oS (some v15) fun a => kUn E.P .not a) (M.pure undef))) fun v16 =>
  M.bind (M.on (some v11) fun a => M.on (some (.bool true)) fun b => M.on (some v16) fun c => BI a b c) fun v17 =>
  setF 17 v17 tm fun tm1 =>
  M.pure tm1
theorem Wu_ : RegEq 112 74 BW Mb Cj_ := ⟨by kernel_rfl, fun _ _ _ _ _ _ _ _ _ => by kernel_rfl⟩
theorem Ll_ : A2 NJ = some 17 := by kernel_rfl
def UL (E : Env) (call round : Ab) (tm : T Value) : M (T Value) :=
  mv (T.get tm 0) fun v19 =>
  M.bind (oS (some v19) fun a => kNil a) fun v20 =>
  M.bind (oS (some v20) fun a => AQ E 167 a) fun v21 =>
  M.bind (BC E 167) fun v4 =>
  setF 4 v4 tm fun tm1 =>
  M.bind (oS (some v4) fun a => oS (some v21) fun b => A3 E 167 a b) fun _ =>
  M.pure tm1
theorem PK_ : RegEq 112 74 BW LC UL := ⟨by kernel_rfl, fun _ _ _ _ _ _ _ _ _ => by kernel_rfl⟩
def AG_ (E : Env) (call round : Ab) (tm : T Value) : M (T Value) :=
  mv (T.get tm 0) fun v22 =>
  M.bind (oS (some v22) fun a => kNil a) fun v23 =>
  M.bind (oS (some v23) fun a => kFld E 167 a 3) fun v24 =>
  M.bind (oS (some v24) fun a => AQ E 3 a) fun v25 =>
  M.bind (oS (some v25) fun a => oS (some (.int .i64 64)) fun b => Cl.get (aBin E .rem 3 (.tmp 25) (.const (.int .i64 64))) a b) fun v26 =>
  M.bind (oS (some (.int .i64 119)) fun a => oS (some v26) fun b => Cl.get (aBin E .sub 3 (.const (.int .i64 119)) (.tmp 26)) a b) fun v27 =>
  M.bind (oS (some v27) fun a => oS (some (.int .i64 64)) fun b => Cl.get (aBin E .rem 3 (.tmp 27) (.const (.int .i64 64))) a b) fun v28 =>
  M.bind (oS (some (.int .i64 1)) fun a => oS (some v28) fun b => Cl.get (aBin E .add 3 (.const (.int .i64 1)) (.tmp 28)) a b) fun v29 =>
  M.bind (oS (some v29) fun a => oS (some (.int .i64 80)) fun b => Ef E 22 a b) fun v30 =>
  mv (some v30) fun v5 =>
  setF 5 v5 tm fun tm1 =>
  M.pure tm1
theorem Ls_ : RegEq 112 74 BW Io AG_ := ⟨by kernel_rfl, fun _ _ _ _ _ _ _ _ _ => by kernel_rfl⟩
def S9 (E : Env) (call round : Ab) (tm : T Value) : M (T Value) :=
  mv (T.get tm 5) fun v31 =>
  M.bind (oS (some v31) fun a => oS (some (.int .i64 0)) fun b => BJ E 22 a b) fun v32 =>
  M.bind (oS (some v32) fun a => oS (some (.int .u8 128)) fun b => A3 E 5 a b) fun _ =>
  M.pure tm
theorem Jl_ : RegEq 112 74 BW Kg S9 := ⟨by kernel_rfl, fun _ _ _ _ _ _ _ _ _ => by kernel_rfl⟩
def YM (E : Env) (call round : Ab) (tm : T Value) : M (T Value) :=
  mv (some (.int .i64 56)) fun v6 =>
  setF 6 v6 tm fun tm1 =>
  M.pure tm1
theorem UQ_ : RegEq 112 74 BW L8 YM := ⟨by kernel_rfl, fun _ _ _ _ _ _ _ _ _ => by kernel_rfl⟩
def PN (E : Env) (call round : Ab) (tm : T Value) : M (T Value) :=
  mv (T.get tm 6) fun v33 =>
  M.bind (oS (some v33) fun a => oS (some (.int .i64 0)) fun b => Cl.get (aBin E .geq 3 (.tmp 33) (.const (.int .i64 0))) a b) fun v34 =>
  setF 34 v34 tm fun tm1 =>
  M.pure tm1
theorem AI_ : RegEq 112 74 BW HH PN := ⟨by kernel_rfl, fun _ _ _ _ _ _ _ _ _ => by kernel_rfl⟩
theorem Cf_ : A2 Hn = some 34 := by kernel_rfl
def WT (E : Env) (call round : Ab) (tm : T Value) : M (T Value) :=
  mv (T.get tm 5) fun v37 =>
  mv (T.get tm 0) fun v38 =>
  M.bind (oS (some v38) fun a => kNil a) fun v39 =>
  M.bind (oS (some v39) fun a => kFld E 167 a 3) fun v40 =>
  M.bind (oS (some v40) fun a => AQ E 3 a) fun v41 =>
  M.bind (oS (some (.int .i64 8)) fun a => oS (some v41) fun b => Cl.get (aBin E .mul 3 (.const (.int .i64 8)) (.tmp 41)) a b) fun v42 =>
  mv (T.get tm 6) fun v43 =>
  M.bind (oS (some v42) fun a => oS (some v43) fun b => Cl.get (aBin E .shr 3 (.tmp 42) (.tmp 43)) a b) fun v44 =>
  M.bind (oS (some v44) fun a => BM E 3 5 a) fun v45 =>
  M.bind (oS (seqP [(0, (some v45))]) fun ps => Cj E 22 1 ps) fun v46 =>
  M.bind (oS (seqO [(some v37), (some v46)]) fun l => AS E .append [22, 22] l) fun v47 =>
  mv (some v47) fun v5 =>
  setF 5 v5 tm fun tm1 =>
  M.pure tm1
theorem Nf_ : RegEq 112 74 BW J2 WT := ⟨by kernel_rfl, fun _ _ _ _ _ _ _ _ _ => by kernel_rfl⟩
def Yg (E : Env) (call round : Ab) (tm : T Value) : M (T Value) :=
  mv (T.get tm 5) fun v48 =>
  M.bind (M.on (some (.func (.func 111) #[] #[])) fun f => M.on (seqO [(T.get tm 4), (some v48)]) fun l => AY call round f l) fun v49 =>
  M.pure tm
theorem Xe_ : RegEq 112 74 BW Ih Yg := ⟨by kernel_rfl, fun _ _ _ _ _ _ _ _ _ => by kernel_rfl⟩
def ZQ (E : Env) (call round : Ab) (tm : T Value) : M (T Value) :=
  mv (T.get tm 6) fun v35 =>
  M.bind (oS (some v35) fun a => oS (some (.int .i64 8)) fun b => Cl.get (aBin E .sub 3 (.tmp 35) (.const (.int .i64 8))) a b) fun v36 =>
  mv (some v36) fun v6 =>
  setF 6 v6 tm fun tm1 =>
  M.pure tm1
theorem CD_ : RegEq 112 74 BW Qv ZQ := ⟨by kernel_rfl, fun _ _ _ _ _ _ _ _ _ => by kernel_rfl⟩
def XN (E : Env) (call round : Ab) (tm : T Value) : M (T Value) :=
  M.bind (oS (T.get tm 4) fun a => kFld E 167 a 1) fun v50 =>
  M.bind (oS (some v50) fun a => AQ E 163 a) fun v51 =>
  setF 51 v51 tm fun tm1 =>
  mv (some (.int .i64 0)) fun v52 =>
  setF 52 v52 tm1 fun tm2 =>
  M.pure tm2
theorem Ds_ : RegEq 112 74 BW II XN := ⟨by kernel_rfl, fun _ _ _ _ _ _ _ _ _ => by kernel_rfl⟩
def N9 (E : Env) (call round : Ab) (tm : T Value) : M (T Value) :=
  M.bind (oS (T.get tm 52) fun a => oS (some (.int .i64 8)) fun b => Cl.get (aBin E .lss 3 (.tmp 52) (.const (.int .i64 8))) a b) fun v53 =>
  setF 53 v53 tm fun tm1 =>
  M.pure tm1
theorem Wa : RegEq 112 74 BW GF N9 := ⟨by kernel_rfl, fun _ _ _ _ _ _ _ _ _ => by kernel_rfl⟩
theorem Yt : A2 G4 = some 53 := by kernel_rfl
def BT_ (E : Env) (call round : Ab) (tm : T Value) : M (T Value) :=
  mv (T.get tm 52) fun v54 =>
  M.bind (oS (T.get tm 51) fun a => oS (T.get tm 52) fun b => kIdx E 163 a b) fun v55 =>
  mv (some v54) fun v7 =>
  setF 7 v7 tm fun tm1 =>
  mv (some v55) fun v8 =>
  setF 8 v8 tm1 fun tm2 =>
  M.pure tm2
theorem Ih_ : RegEq 112 74 BW M9 BT_ := ⟨by kernel_rfl, fun _ _ _ _ _ _ _ _ _ => by kernel_rfl⟩
def Ze (E : Env) (call round : Ab) (tm : T Value) : M (T Value) :=
  M.bind (oS (T.get tm 3) fun a => AQ E 101 a) fun v73 =>
  M.bind (oS (T.get tm 2) fun a => oS (some v73) fun b => A3 E 101 a b) fun _ =>
  M.pure tm
theorem Ld_ : RegEq 112 74 BW Ij Ze := ⟨by kernel_rfl, fun _ _ _ _ _ _ _ _ _ => by kernel_rfl⟩
def X5 (E : Env) (call round : Ab) (tm : T Value) : M (T Value) :=
  mv (T.get tm 7) fun v56 =>
  M.bind (oS (some (.int .i64 4)) fun a => oS (some v56) fun b => Cl.get (aBin E .mul 3 (.const (.int .i64 4)) (.tmp 56)) a b) fun v57 =>
  M.bind (M.on (T.get tm 3) fun a => M.on (onO (some v57) fun v => some (some v)) fun b => M.on (some none) fun c => Bv E 101 a b c) fun v58 =>
  mv (T.get tm 8) fun v59 =>
  M.bind (oS (some v59) fun a => oS (some (.int .u64 24)) fun b => Cl.get (aBin E .shr 51 (.tmp 59) (.const (.int .u64 24))) a b) fun v60 =>
  M.bind (oS (some v60) fun a => BM E 51 5 a) fun v61 =>
  mv (T.get tm 8) fun v62 =>
  M.bind (oS (some v62) fun a => oS (some (.int .u64 16)) fun b => Cl.get (aBin E .shr 51 (.tmp 62) (.const (.int .u64 16))) a b) fun v63 =>
  M.bind (oS (some v63) fun a => BM E 51 5 a) fun v64 =>
  mv (T.get tm 8) fun v65 =>
  M.bind (oS (some v65) fun a => oS (some (.int .u64 8)) fun b => Cl.get (aBin E .shr 51 (.tmp 65) (.const (.int .u64 8))) a b) fun v66 =>
  M.bind (oS (some v66) fun a => BM E 51 5 a) fun v67 =>
  mv (T.get tm 8) fun v68 =>
  M.bind (oS (some v68) fun a => BM E 51 5 a) fun v69 =>
  M.bind (oS (seqP [(0, (some v61)), (1, (some v64)), (2, (some v67)), (3, (some v69))]) fun ps => Cj E 22 4 ps) fun v70 =>
  M.bind (oS (seqO [(some v58), (some v70)]) fun l => AS E .copy [22, 22] l) fun v71 =>
  M.pure tm
theorem Iq_ : RegEq 112 74 BW Lo X5 := ⟨by kernel_rfl, fun _ _ _ _ _ _ _ _ _ => by kernel_rfl⟩
theorem JB_ : ∃ k, P1 = .code .ret :: k := ⟨P1.tail, by kernel_rfl⟩
def Cx_ (E : Env) (call round : Ab) (tm : T Value) : M (T Value) :=
  M.bind (oS (T.get tm 52) fun a => oS (some (.int .i64 1)) fun b => Cl.get (aBin E .add 3 (.tmp 52) (.const (.int .i64 1))) a b) fun v72 =>
  mv (some v72) fun v52 =>
  setF 52 v52 tm fun tm1 =>
  M.pure tm1
theorem Gm_ : RegEq 112 74 BW Ra Cx_ := ⟨by kernel_rfl, fun _ _ _ _ _ _ _ _ _ => by kernel_rfl⟩
def Jl : Nat := Bt Try.f73
def WJ : Code := Try.f73.body.getD .skip
theorem SP : envS.fn.get 73 = some Try.f73 := by kernel_rfl
theorem GW_ {a0 : Value} {n : Nat} {s : St} {Q : Value → St → Prop} (h : ∀ tm, T.get tm 0 = some a0 → W (runF envS n ⟨73, 10, Jl, tm, [.code WJ], .run, .normal, none⟩) (s.cxN cxN) fun p s1 => Q p.1 (s1.cxN s.cx)) : W (Au envS (runF envS n) 73 [a0]) s Q :=
 W.call (by kernel_rfl) (by kernel_rfl) SP (by kernel_rfl) rfl rfl (by simp) (h _ (by kernel_rfl))
theorem Nj_ : Try.f73.results.toList = [.cell 2 101] := by kernel_rfl
def Ot : List Item := skim 64 [.code WJ]
def LJ : List Item := skim 64 Ot.tail
theorem NG_ : skim 64 Ot.tail = LJ := by kernel_rfl
def M2 : List Item := skim 64 LJ.tail
theorem Jo_ : skim 64 LJ.tail = M2 := by kernel_rfl
def Lm : List Item := skim 64 M2.tail
theorem HR_ : skim 64 M2.tail = Lm := by kernel_rfl
def Qq : List Item := skim 64 Lm.tail
theorem Ky_ : skim 64 Lm.tail = Qq := by kernel_rfl
def W5 (E : Env) (call round : Ab) (tm : T Value) : M (T Value) :=
  M.bind (BC E 101) fun v2 =>
  setF 2 v2 tm fun tm1 =>
  M.pure tm1
theorem XP_ : RegEq 73 10 Jl Ot W5 := ⟨by kernel_rfl, fun _ _ _ _ _ _ _ _ _ => by kernel_rfl⟩
def ZE (E : Env) (call round : Ab) (tm : T Value) : M (T Value) :=
  M.bind (M.on (some (.func (.func 110) #[] #[])) fun f => M.on (seqO []) fun l => AY call round f l) fun v4 =>
  mv (some v4) fun v3 =>
  setF 3 v3 tm fun tm1 =>
  M.pure tm1
theorem Qp_ : RegEq 73 10 Jl LJ ZE := ⟨by kernel_rfl, fun _ _ _ _ _ _ _ _ _ => by kernel_rfl⟩
def Up (E : Env) (call round : Ab) (tm : T Value) : M (T Value) :=
  mv (T.get tm 3) fun v5 =>
  mv (T.get tm 0) fun v6 =>
  M.bind (M.on (some (.func (.func 111) #[] #[])) fun f => M.on (seqO [(some v5), (some v6)]) fun l => AY call round f l) fun v7 =>
  M.pure tm
theorem Lm_ : RegEq 73 10 Jl M2 Up := ⟨by kernel_rfl, fun _ _ _ _ _ _ _ _ _ => by kernel_rfl⟩
def SM (E : Env) (call round : Ab) (tm : T Value) : M (T Value) :=
  mv (T.get tm 3) fun v8 =>
  M.bind (M.on (some (.func (.func 112) #[] #[])) fun f => M.on (seqO [(some v8)]) fun l => AY call round f l) fun v9 =>
  M.bind (oS (T.get tm 2) fun a => oS (some v9) fun b => A3 E 101 a b) fun _ =>
  M.pure tm
theorem Ks_ : RegEq 73 10 Jl Lm SM := ⟨by kernel_rfl, fun _ _ _ _ _ _ _ _ _ => by kernel_rfl⟩
theorem Su_ : ∃ k, Qq = .code .ret :: k := ⟨Qq.tail, by kernel_rfl⟩
def LT : Nat := Bt Try.f32
def BE_ : Code := Try.f32.body.getD .skip
theorem Ta : envS.fn.get 32 = some Try.f32 := by kernel_rfl
theorem TT_ {a0 : Value} {n : Nat} {s : St} {Q : Value → St → Prop} (h : ∀ tm, T.get tm 0 = some a0 → W (runF envS n ⟨32, 9, LT, tm, [.code BE_], .run, .normal, none⟩) (s.cxN cxN) fun p s1 => Q p.1 (s1.cxN s.cx)) : W (Au envS (runF envS n) 32 [a0]) s Q :=
 W.call (by kernel_rfl) (by kernel_rfl) Ta (by kernel_rfl) rfl rfl (by simp) (h _ (by kernel_rfl))
theorem Mg_ : Try.f32.results.toList = [.cell 2 26] := by kernel_rfl
def Q7 : List Item := skim 64 [.code BE_]
def Na : List Item := skim 64 Q7.tail
theorem HK_ : skim 64 Q7.tail = Na := by kernel_rfl
def MK : List Item := skim 64 Na.tail
theorem Wv_ : skim 64 Na.tail = MK := by kernel_rfl
def RC : List Item := skim 64 MK.tail
theorem OA_ : skim 64 MK.tail = RC := by kernel_rfl
def U2 (E : Env) (call round : Ab) (tm : T Value) : M (T Value) :=
  M.bind (BC E 26) fun v2 =>
  setF 2 v2 tm fun tm1 =>
  M.pure tm1
theorem PF_ : RegEq 32 9 LT Q7 U2 := ⟨by kernel_rfl, fun _ _ _ _ _ _ _ _ _ => by kernel_rfl⟩
def SD (E : Env) (call round : Ab) (tm : T Value) : M (T Value) :=
  mv (T.get tm 0) fun v4 =>
  M.bind (M.on (some (.func (.func 73) #[] #[])) fun f => M.on (seqO [(some v4)]) fun l => AY call round f l) fun v5 =>
  M.bind (BC E 101) fun v3 =>
  setF 3 v3 tm fun tm1 =>
  M.bind (oS (some v3) fun a => oS (some v5) fun b => A3 E 101 a b) fun _ =>
  M.pure tm1
theorem Dn_ : RegEq 32 9 LT Na SD := ⟨by kernel_rfl, fun _ _ _ _ _ _ _ _ _ => by kernel_rfl⟩
def XO (E : Env) (call round : Ab) (tm : T Value) : M (T Value) :=
  M.bind (M.on (T.get tm 3) fun a => M.on (some none) fun b => M.on (onO (some (.int .i64 16)) fun v => some (some v)) fun c => Bv E 101 a b c) fun v6 =>
  M.bind (oS (some v6) fun a => Dc E 26 a) fun v7 =>
  M.bind (oS (some v7) fun a => AQ E 26 a) fun v8 =>
  M.bind (oS (T.get tm 2) fun a => oS (some v8) fun b => A3 E 26 a b) fun _ =>
  M.pure tm
theorem KJ_ : RegEq 32 9 LT MK XO := ⟨by kernel_rfl, fun _ _ _ _ _ _ _ _ _ => by kernel_rfl⟩
theorem UU_ : ∃ k, RC = .code .ret :: k := ⟨RC.tail, by kernel_rfl⟩
structure DS where
  st : Sha.St8
  w : List Nat
  n : Nat
def DS.k (d : DS) (b : List Nat) : Nat := Nat.min (64 - d.n % 64) b.length
def DS.w' (d : DS) (b : List Nat) : List Nat := d.w.take (d.n % 64) ++ (b.take (d.k b) ++ d.w.drop (d.n % 64 + d.k b))
def DS.step (d : DS) (b : List Nat) : DS := ⟨if d.n % 64 + d.k b = 64 then Sha.next d.st (fun j => (d.w' b).getD j 0) else d.st, d.w' b, d.n + d.k b⟩
def DS.write : Nat → DS → List Nat → DS
  | 0, d, _ => d
  | f + 1, d, b => if b.length = 0 then d else DS.write f (d.step b) (b.drop (d.k b))
structure Dig (s : St) (D : Nat) (d : DS) : Prop where
  made : Own s D 0 (.bool true)
  st : Af s D 1 (st8V d.st).toList
  w : Af s D 9 (u8l d.w)
  n : Own s D 73 (.int .i64 (d.n : Nat))
  len : d.w.length = 64
  byt : Byt d.w
  ok : d.st.Ok
theorem Dn (r : Sha.St8) : (st8V r).toList.length = 8 := rfl
theorem Dig.ext0 {F : Nat → Prop} {s s' : St} {D : Nat} {d : DS} (h : Dig s D d) (e : Ext F Non s s') : Dig s' D d := ⟨h.made.ext0 e, h.st.ext0 e, h.w.ext0 e, h.n.ext0 e, h.len, h.byt, h.ok⟩
theorem Dig.same {s s' : St} {D : Nat} {d : DS} (h : Dig s D d) (hm : s'.mem = s.mem) (hn : s'.next = s.next) : Dig s' D d :=
 ⟨h.made.same hm hn, fun i v e => (h.st i v e).same hm hn, fun i v e => (h.w i v e).same hm hn, h.n.same hm hn, h.len, h.byt, h.ok⟩
theorem Ub_ {r : Sha.St8} (h : r.Ok) : u32s (st8V r).toList = some [r.a, r.b, r.c, r.d, r.e, r.f, r.g, r.h] := by
 have e : ∀ (n : Nat) (l : List Value) (ns : List Nat), n < 4294967296 → u32s l = some ns → u32s (.int .u32 (n : Int) :: l) = some (n :: ns) := fun n l ns hn hl => by
   show (match Value.int .u32 (.ofNat n), u32s l with | .int .u32 (.ofNat n), some ns => bif Nat.blt n 4294967296 then some (n :: ns) else none | _, _ => none) = _
   rw [hl]
   simp -implicitDefEqProofs only [B2 hn, cond_true]
 exact e _ _ _ h.a (e _ _ _ h.b (e _ _ _ h.c (e _ _ _ h.d (e _ _ _ h.e (e _ _ _ h.f (e _ _ _ h.g (e _ _ _ h.h rfl)))))))
theorem W.next {s : St} {r : Sha.St8} {b o c : Nat} {l : List Nat} {Q : Value → St → Prop} (hr : r.Ok) (h : Row s b o (u8l l)) (hl : l.length = 64) (hb : Byt l)
   (q : ∀ s1, s1.mem = s.mem → s1.next = s.next → Ext (In b o 64) Non s s1 → Q (.agg (st8V (Sha.next r fun j => l.getD j 0))) s1) : W (EF [.agg (st8V r), .slice (some ⟨b, o, none⟩) 64 c]) s Q := by
 refine W.on (Ub_ hr) (W.chk (by decide) (W.bind ?_))
 have h2 : l.length = (u8l l).length := (A0 l).symm
 show W (Am.rdL 64 ⟨b, o, none⟩) s _
 rw [← hl]
 refine W.rdB h fun s1 e1 e2 e3 => W.on (Qs hb) ?_
 show W (Ju r l st8M) s1 Q
 rw [Ls, KI]
 rw [hl] at e3
 exact W.pure (q s1 e1 e2 e3)
theorem BL_ : fldN envS 167 0 = some (0, 1, false) := by kernel_rfl
theorem Oh : fldN envS 167 1 = some (1, 8, true) := by kernel_rfl
theorem S4 : fldN envS 167 2 = some (9, 64, true) := by kernel_rfl
theorem KP : fldN envS 167 3 = some (73, 1, false) := by kernel_rfl
theorem Ai_ : ptrT envS 145 = true := by kernel_rfl
theorem UM : tyS envS 4 = some (1, false) := by kernel_rfl
theorem Ix : tyS envS 3 = some (1, false) := by kernel_rfl
theorem Xf : arrN envS 165 = some (64, 1) := by kernel_rfl
theorem Is : tyS envS 163 = some (8, true) := by kernel_rfl
theorem Bs.srcK {s : St} {v : Value} {l : List Nat} (h : Bs s v l) {k : Nat} (hk : k ≤ l.length) : ∃ s1, srcL 1 v k s = .some (u8l (l.take k)) s1 ∧ s1.mem = s.mem ∧ s1.next = s.next ∧ Ext (BsF v) Non s s1 := by
 rcases h with ⟨rfl, rfl⟩ | ⟨b, o, c, rfl, _, _, h3⟩
 · simp at hk
   subst hk
   exact ⟨s, rfl, rfl, rfl, Ext.refl s⟩
 · have h4 : Row s b o (u8l (l.take k)) := by
     have := h3.take (n := k)
     rw [← List.map_take] at this
     exact this
   have hl : (l.take k).length = k := by rw [List.length_take]; omega
   obtain ⟨a, s1, e, rfl, h1, h2, h5⟩ := W.rdB (Q := fun a s1 => a = u8l (l.take k) ∧ s1.mem = s.mem ∧ s1.next = s.next ∧ Ext (In b o (l.take k).length) Non s s1) h4 fun s1 e1 e2 e3 => ⟨rfl, e1, e2, e3⟩
   rw [hl] at e h5
   refine ⟨s1, ?_, h1, h2, ?_⟩
   · show Am.rdL (k * 1) ⟨b, o, none⟩ s = _
     rw [Nat.mul_one]
     exact e
   · refine ⟨h5.nxt, h5.lim, h5.cx, h5.mem, ?_, h5.wr⟩
     obtain ⟨d, p1, p2⟩ := h5.rd
     exact ⟨d, p1, fun x hx => ⟨(p2 x hx).1, by have := (p2 x hx).2; exact ⟨this.1, by have := this.2; omega⟩⟩⟩
theorem DS.k_le (d : DS) (b : List Nat) : d.k b ≤ b.length ∧ d.n % 64 + d.k b ≤ 64 := by
 unfold DS.k
 have h1 : Nat.min (64 - d.n % 64) b.length ≤ 64 - d.n % 64 := Nat.min_le_left _ _
 have h2 : Nat.min (64 - d.n % 64) b.length ≤ b.length := Nat.min_le_right _ _
 have h3 : d.n % 64 < 64 := Nat.mod_lt _ (by decide)
 exact ⟨h2, by omega⟩
theorem DS.w'_len (d : DS) (b : List Nat) (h : d.w.length = 64) : (d.w' b).length = 64 := by
 obtain ⟨h1, h2⟩ := d.k_le b
 unfold DS.w'
 rw [List.length_append, List.length_append, List.length_take, List.length_take, List.length_drop, h]
 omega
theorem DS.w'_byt (d : DS) (b : List Nat) (h : Byt d.w) (hb : Byt b) : Byt (d.w' b) := fun x hx => by
 unfold DS.w' at hx
 rcases List.mem_append.1 hx with hx | hx
 · exact h x (List.mem_of_mem_take hx)
 · rcases List.mem_append.1 hx with hx | hx
   · exact hb x (List.mem_of_mem_take hx)
   · exact h x (List.mem_of_mem_drop hx)
theorem Dig.lay {F : Nat → Prop} {s s2 : St} {D : Nat} {d : DS} {b : List Nat} (h : Dig s D d) (x : Ext F (In D (0 + 9 + d.n % 64 * 1) (d.k b * 1)) s s2) (r : Af s2 D (0 + 9 + d.n % 64 * 1) (u8l (b.take (d.k b)))) (hb : Byt b) : Dig s2 D ⟨d.st, d.w' b, d.n⟩ := by
 obtain ⟨h1, h2⟩ := d.k_le b
 have hm : d.n % 64 < 64 := Nat.mod_lt _ (by decide)
 have hkl : (b.take (d.k b)).length = d.k b := by rw [List.length_take]; omega
 refine ⟨h.made.ext x fun q => by have := q.1; omega, h.st.ext x fun i hi q => ?_, ?_, h.n.ext x fun q => by have := q.2; omega, d.w'_len b h.len, d.w'_byt b h.byt hb, h.ok⟩
 · have h3 : i < 8 := hi
   have := q.1; omega
 · show Af s2 D 9 (u8l (d.w' b))
   have e : u8l (d.w' b) = u8l (d.w.take (d.n % 64)) ++ (u8l (b.take (d.k b)) ++ u8l (d.w.drop (d.n % 64 + d.k b))) := by
     unfold DS.w' u8l
     rw [List.map_append, List.map_append]
   have hl1 : (u8l (d.w.take (d.n % 64))).length = d.n % 64 := by rw [A0, List.length_take, h.len]; omega
   have hw1 : Af s D 9 (u8l (d.w.take (d.n % 64))) := by
     have := h.w.take (n := d.n % 64)
     rw [← List.map_take] at this
     exact this
   have hw3 : Af s D (9 + (d.n % 64 + d.k b)) (u8l (d.w.drop (d.n % 64 + d.k b))) := by
     have := h.w.drop (n := d.n % 64 + d.k b)
     rw [← List.map_drop] at this
     exact this
   rw [e]
   refine Af.append (hw1.ext x fun i hi q => ?_) (Af.append ?_ ?_)
   · rw [hl1] at hi
     have := q.1; omega
   · rw [hl1, show 9 + d.n % 64 = 0 + 9 + d.n % 64 * 1 by omega]
     exact r
   · rw [hl1, A0, hkl, Nat.add_assoc]
     refine hw3.ext x fun i hi q => ?_
     have := q.2; omega
end Go.Proofs.Ytofanlcjeohcjaa.Am
end
