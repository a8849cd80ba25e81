import Derived.Test.YtofanlcjeohcjaaMg14
import Derived.Test.YtofanlcjeohcjaaMg07
import Derived.KernelRfl
import Derived.Test.YtofanlcjeohcjaaMg19
import Derived.Test.YtofanlcjeohcjaaMg18
import Derived.Test.YtofanlcjeohcjaaMg08
noncomputable section
namespace Go.Proofs.Ytofanlcjeohcjaa.Am
open Go.RowKit
def Bj_ : Nat := globOf Try.f7
abbrev Kw_ : Nat := 81
def LL_ : Code := Try.f7.body.getD .skip
theorem FM_ : envS.fn.get 7 = some Try.f7 := by kernel_rfl
theorem Vr_ {a0 a1 a2 : Value} {n : Nat} {s : St} {Q : Value → St → Prop} (h : ∀ tm, T.get tm 0 = some a0 → T.get tm 1 = some a1 → T.get tm 2 = some a2 → W (runF envS n ⟨7, 81, Bj_, tm, [.code LL_], .run, .normal, none⟩) (s.cxN cxN) fun p s1 => Q p.1 (s1.cxN s.cx)) : W (callW envS (runF envS n) 7 [a0, a1, a2]) s Q :=
 W.call (by kernel_rfl) (by kernel_rfl) FM_ (by kernel_rfl) rfl rfl (by simp) (h _ (by kernel_rfl) (by kernel_rfl) (by kernel_rfl))
theorem HB_ : Try.f7.results.toList = [.tmp 6] := by kernel_rfl
def JV_ : List Item := skim 64 [.code LL_]
def Go_ : List Item := skim 64 JV_.tail
theorem Ls_ : skim 64 JV_.tail = Go_ := by kernel_rfl
def Gq_ : List Item := skim 64 Go_.tail
theorem LC_ : skim 64 Go_.tail = Gq_ := by kernel_rfl
def Gf_ : List Item := skim 64 Gq_.tail
theorem GH_ : skim 64 Gq_.tail = Gf_ := by kernel_rfl
def CY_ : List Item := skim 64 Gf_.tail
theorem DT_ : skim 64 Gf_.tail = CY_ := by kernel_rfl
def En_ : List Item := skim 64 (brT CY_)
theorem GS_ : skim 64 (brT CY_) = En_ := by kernel_rfl
def Fy_ : List Item := skim 64 (brF CY_)
theorem WL_ : skim 64 (brF CY_) = Fy_ := by kernel_rfl
def JN_ : List Item := skim 64 En_.tail
theorem Ma_ : skim 64 En_.tail = JN_ := by kernel_rfl
def El_ : List Item := skim 64 Fy_.tail
theorem VW_ : skim 64 Fy_.tail = El_ := by kernel_rfl
def Ei_ : List Item := skim 64 El_.tail
theorem WT_ : skim 64 El_.tail = Ei_ := by kernel_rfl
def Dl_ : List Item := skim 64 Ei_.tail
theorem Vg_ : skim 64 Ei_.tail = Dl_ := by kernel_rfl
def EH_ : List Item := skim 64 Dl_.tail
theorem RL_ : skim 64 Dl_.tail = EH_ := by kernel_rfl
def HZ_ : List Item := skim 64 EH_.tail
theorem RP_ : skim 64 EH_.tail = HZ_ := by kernel_rfl
def JO_ (E : Env) (call round : CallT) (tm : T Value) : M (T Value) :=
  mv (some (.bool false)) fun v6 =>
  setF 6 v6 tm fun tm1 =>
  M.pure tm1
theorem Rr_ : RegEq 7 81 Bj_ JV_ JO_ := ⟨by kernel_rfl, fun _ _ _ _ _ _ _ _ _ => by kernel_rfl⟩
def Jj_ (E : Env) (call round : CallT) (tm : T Value) : M (T Value) :=
  M.bind (M.on (some (.func (.func 15) #[] #[])) fun f => M.on (seqO []) fun l => callV call round f l) fun v15 =>
  mv (some v15) fun v7 =>
  setF 7 v7 tm fun tm1 =>
  M.pure tm1
theorem Qf_ : RegEq 7 81 Bj_ Go_ Jj_ := ⟨by kernel_rfl, fun _ _ _ _ _ _ _ _ _ => by kernel_rfl⟩
def Kc_ (E : Env) (call round : CallT) (tm : T Value) : M (T Value) :=
  mv (T.get tm 0) fun v17 =>
  M.bind (M.on (some (.func (.func 30) #[] #[])) fun f => M.on (seqO [(some v17)]) fun l => callV call round f l) fun v18 =>
  mv (some v18) fun v16 =>
  M.bind (oS (some v16) fun a => kExt 0 a) fun v19 =>
  M.bind (oS (some v16) fun a => kExt 1 a) fun v20 =>
  M.bind (oS (some v16) fun a => kExt 2 a) fun v21 =>
  M.bind (oS (some v16) fun a => kExt 3 a) fun v22 =>
  mv (some v19) fun v8 =>
  setF 8 v8 tm fun tm1 =>
  mv (some v20) fun v9 =>
  mv (some v21) fun v10 =>
  setF 10 v10 tm1 fun tm2 =>
  mv (some v22) fun v11 =>
  setF 11 v11 tm2 fun tm3 =>
  M.pure tm3
theorem Rp_ : RegEq 7 81 Bj_ Gq_ Kc_ := ⟨by kernel_rfl, fun _ _ _ _ _ _ _ _ _ => by kernel_rfl⟩
def FR_ (E : Env) (call round : CallT) (tm : T Value) : M (T Value) :=
  mv (T.get tm 11) fun v23 =>
  M.bind (oS (some v23) fun a => kUn E.P .not a) fun v24 =>
  mv (some v24) fun v25 =>
  M.bind (M.chk (isK v25) (M.if (isB v25 false) (oS (T.get tm 0) fun a => M.pure a) (M.pure undef))) fun v26 =>
  M.bind (M.chk (isK v25) (M.if (isB v25 false) (oS (seqO [(some v26)]) fun l => aBuiltin E .len [43] l) (M.pure undef))) fun v27 =>
  M.bind (M.chk (isK v25) (M.if (isB v25 false) (oS (some v27) fun a => oS (some (.int .i64 0)) fun b => Cl.get (aBin E .eql 3 (.tmp 27) (.const (.int .i64 0))) a b) (M.pure undef))) fun v28 =>
  M.bind (M.on (some v25) fun a => M.on (some (.bool true)) fun b => M.on (some v28) fun c => kPick a b c) fun v29 =>
  setF 29 v29 tm fun tm1 =>
  M.pure tm1
theorem JQ_ : RegEq 7 81 Bj_ Gf_ FR_ := ⟨by kernel_rfl, fun _ _ _ _ _ _ _ _ _ => by kernel_rfl⟩
theorem FP_ : condX CY_ = some 29 := by kernel_rfl
def Ja_ (E : Env) (call round : CallT) (tm : T Value) : M (T Value) :=
  mv (T.get tm 7) fun v30 =>
  mv (some v30) fun v6 =>
  setF 6 v6 tm fun tm1 =>
  M.pure tm1
theorem QD_ : RegEq 7 81 Bj_ En_ Ja_ := ⟨by kernel_rfl, fun _ _ _ _ _ _ _ _ _ => by kernel_rfl⟩
def Qq_ (E : Env) (call round : CallT) (tm : T Value) : M (T Value) :=
  mv (T.get tm 1) fun v31 =>
  mv (T.get tm 0) fun v32 =>
  M.bind (oS (seqO [(some v32)]) fun l => aBuiltin E .len [43] l) fun v33 =>
  M.bind (M.on (some (.func (.func 33) #[] #[])) fun f => M.on (seqO [(some v31), (some v33)]) fun l => callV call round f l) fun v34 =>
  mv (T.get tm 2) fun v35 =>
  M.bind (M.on (some (.func (.func 33) #[] #[])) fun f => M.on (seqO [(some v35), (some (.int .i64 48))]) fun l => callV call round f l) fun v36 =>
  mv (some v34) fun v1 =>
  setF 1 v1 tm fun tm1 =>
  mv (some v36) fun v2 =>
  setF 2 v2 tm1 fun tm2 =>
  M.pure tm2
theorem AdL_ : RegEq 7 81 Bj_ Fy_ Qq_ := ⟨by kernel_rfl, fun _ _ _ _ _ _ _ _ _ => by kernel_rfl⟩
theorem PX_ : ∃ k, JN_ = .code .ret :: k := ⟨JN_.tail, by kernel_rfl⟩
def QQ_ (E : Env) (call round : CallT) (tm : T Value) : M (T Value) :=
  mv (T.get tm 10) fun v37 =>
  mv (T.get tm 1) fun v38 =>
  M.bind (oS (some v37) fun a => oS (some v38) fun b => kIdxA E 36 a b) fun v39 =>
  M.bind (oS (some v39) fun a => kFld E 35 a 1) fun v40 =>
  M.bind (oS (some v40) fun a => kLoad E 3 a) fun v41 =>
  mv (some v41) fun v12 =>
  setF 12 v12 tm fun tm1 =>
  M.pure tm1
theorem AdP_ : RegEq 7 81 Bj_ El_ QQ_ := ⟨by kernel_rfl, fun _ _ _ _ _ _ _ _ _ => by kernel_rfl⟩
def Ry_ (E : Env) (call round : CallT) (tm : T Value) : M ((Rho × T Value) × List OpLog) :=
  M.bind (apartO (oS (T.get tm 8) fun a => M.pure a)) fun p0 =>
  M.bind (apartO (oS (T.get tm 12) fun a => M.pure a)) fun p1 =>
  M.bind (apartO (oS (T.get tm 2) fun a => M.pure a)) fun p2 =>
  M.bind (apartO (oS (some p2.1) fun a => oS (some (.int .i64 8)) fun b => Cl.get (aBin E .quo 3 (.tmp 44) (.const (.int .i64 8))) a b)) fun p3 =>
  M.bind (apartO (oS (some p1.1) fun a => oS (some p3.1) fun b => Cl.get (aBin E .add 3 (.tmp 43) (.tmp 45)) a b)) fun p4 =>
  M.bind (apartO (oS (T.get tm 8) fun a => M.pure a)) fun p5 =>
  M.bind (apartO (oS (T.get tm 12) fun a => M.pure a)) fun p6 =>
  M.bind (apartO (oS (T.get tm 2) fun a => M.pure a)) fun p7 =>
  M.bind (apartO (oS (some p7.1) fun a => oS (some (.int .i64 8)) fun b => Cl.get (aBin E .quo 3 (.tmp 49) (.const (.int .i64 8))) a b)) fun p8 =>
  M.bind (apartO (oS (some p6.1) fun a => oS (some p8.1) fun b => Cl.get (aBin E .add 3 (.tmp 48) (.tmp 50)) a b)) fun p9 =>
  M.bind (apartO (oS (some p5.1) fun a => oS (some p9.1) fun b => kIdxA E 22 a b)) fun p10 =>
  M.bind (apartO (oS (some p10.1) fun a => kLoad E 5 a)) fun p11 =>
  M.bind (apartO (oS (T.get tm 2) fun a => M.pure a)) fun p12 =>
  M.bind (apartO (oS (some p12.1) fun a => oS (some (.int .i64 8)) fun b => Cl.get (aBin E .rem 3 (.tmp 54) (.const (.int .i64 8))) a b)) fun p13 =>
  M.bind (apartO (oS (some (.int .u8 1)) fun a => oS (some p13.1) fun b => Cl.get (aBin E .shl 5 (.const (.int .u8 1)) (.tmp 55)) a b)) fun p14 =>
  M.bind (apartO (oS (some p11.1) fun a => oS (some p14.1) fun b => Cl.get (aBin E .xor 5 (.tmp 53) (.tmp 56)) a b)) fun p15 =>
  M.bind (apartO (oS (some p0.1) fun a => oS (some p4.1) fun b => kIdxA E 22 a b)) fun p16 =>
  M.pure (([p16.1, p15.1, p14.1, p13.1, p12.1, p11.1, p10.1, p9.1, p8.1, p7.1, p6.1, p5.1, p4.1, p3.1, p2.1, p1.1, p0.1], tm), [p16.2, p15.2, p14.2, p13.2, p12.2, p11.2, p10.2, p9.2, p8.2, p7.2, p6.2, p5.2, p4.2, p3.2, p2.2, p1.2, p0.2])
theorem Abh_ : DrawEq 7 81 Bj_ Ei_ [0, 0, 0, 4, 14, 0, 0, 0, 128, 448, 992, 2016, 0, 4096, 12288, 32736, 65535, 131071] Ry_ := ⟨by kernel_rfl, by kernel_rfl, fun _ _ _ _ _ _ _ _ _ => by kernel_rfl⟩
theorem Adt_ (E : Env) (call round : CallT) (x42 x43 x44 x45 x46 x47 x48 x49 x50 x51 x52 x53 x54 x55 x56 x57 x58 : Value) (tm : T Value) (s : St) : opsIn call round (lastOps E Bj_ 81 (hdC Ei_)) [x58, x57, x56, x55, x54, x53, x52, x51, x50, x49, x48, x47, x46, x45, x44, x43, x42] tm s = (M.bind (oS (some x58) fun a => oS (some x57) fun b => kStore E 5 a b) fun _ => M.pure tm) s := by kernel_rfl
def OO_ (E : Env) (call round : CallT) (tm : T Value) : M (T Value) :=
  mv (T.get tm 8) fun v60 =>
  mv (T.get tm 10) fun v61 =>
  mv (T.get tm 1) fun v62 =>
  M.bind (oS (some v61) fun a => oS (some v62) fun b => kIdxA E 36 a b) fun v63 =>
  M.bind (oS (some v63) fun a => kLoad E 35 a) fun v64 =>
  M.bind (M.on (some (.func (.func 27) #[] #[])) fun f => M.on (seqO [(some v60), (some v64)]) fun l => callV call round f l) fun v65 =>
  mv (some v65) fun v59 =>
  M.bind (oS (some v59) fun a => kExt 0 a) fun v66 =>
  M.bind (oS (some v59) fun a => kExt 1 a) fun v67 =>
  mv (some v66) fun v13 =>
  mv (some v67) fun v14 =>
  setF 14 v14 tm fun tm1 =>
  M.pure tm1
theorem Aak_ : RegEq 7 81 Bj_ Dl_ OO_ := ⟨by kernel_rfl, fun _ _ _ _ _ _ _ _ _ => by kernel_rfl⟩
def Nk_ (E : Env) (call round : CallT) (tm : T Value) : M (T Value) :=
  mv (T.get tm 7) fun v68 =>
  mv (some v68) fun v69 =>
  M.bind (M.chk (isK v69) (M.if (isB v69 true) (oS (T.get tm 14) fun a => M.pure a) (M.pure undef))) fun v70 =>
  M.bind (M.chk (isK v69) (M.if (isB v69 true) (oS (some v70) fun a => oS (some (.int .i64 6)) fun b => Cl.get (aBin E .eql 27 (.tmp 70) (.const (.int .i64 6))) a b) (M.pure undef))) fun v71 =>
  M.bind (M.on (some v69) fun a => M.on (some v71) fun b => M.on (some (.bool false)) fun c => kPick a b c) fun v72 =>
  mv (some v72) fun v73 =>
  M.bind (M.chk (isK v73) (M.if (isB v73 true) (oS (T.get tm 8) fun a => M.pure a) (M.pure undef))) fun v74 =>
  M.bind (M.chk (isK v73) (M.if (isB v73 true) (oS (T.get tm 12) fun a => M.pure a) (M.pure undef))) fun v75 =>
  M.bind (M.chk (isK v73) (M.if (isB v73 true) (oS (T.get tm 10) fun a => M.pure a) (M.pure undef))) fun v76 =>
  M.bind (M.chk (isK v73) (M.if (isB v73 true) (oS (T.get tm 1) fun a => M.pure a) (M.pure undef))) fun v77 =>
  M.bind (M.chk (isK v73) (M.if (isB v73 true) (M.on (some v76) fun a => M.on (some none) fun b => M.on (onO (some v77) fun v => some (some v)) fun c => aSlice E 36 a b c) (M.pure undef))) fun v78 =>
  M.bind (M.chk (isK v73) (M.if (isB v73 true) (M.on (some (.func (.func 31) #[] #[])) fun f => M.on (seqO [(some v74), (some v75), (some (.int .i64 0)), (some (.int .i64 2)), (some v78)]) fun l => callV call round f l) (M.pure undef))) fun v79 =>
  M.bind (M.on (some v73) fun a => M.on (some v79) fun b => M.on (some (.bool false)) fun c => kPick a b c) fun v80 =>
  mv (some v80) fun v6 =>
  setF 6 v6 tm fun tm1 =>
  M.pure tm1
theorem ZU_ : RegEq 7 81 Bj_ EH_ Nk_ := ⟨by kernel_rfl, fun _ _ _ _ _ _ _ _ _ => by kernel_rfl⟩
theorem AaM_ : ∃ k, HZ_ = .code .ret :: k := ⟨HZ_.tail, by kernel_rfl⟩
end Go.Proofs.Ytofanlcjeohcjaa.Am
namespace Go.Proofs.Ytofanlcjeohcjaa.Am
open Go.RowKit
theorem XJ_ : envS.orc.get 15 = some (closedM (.bool true)) := by kernel_rfl
theorem AiU_ : fldN envS 35 1 = some (16, 1, false) := by kernel_rfl
section
variable {parts : List (Value × List Nat)} {b o c : Nat}
theorem Als_ {n w i j : Nat} {tm : T Value} {td : List Item} {s s0 : St} {vb vh : Value} {b1 b3 : Nat} (hb : s.lim ≤ s.next) (hcx : s.cx = cxN) (hw : w < parts.length) (hi : i < 6) (hj : j < 8) (hby : ∀ p ∈ parts, Byt p.2) (hle : parts.length ≤ 20) (hsm : ∀ p ∈ parts, 1 ≤ p.2.length ∧ p.2.length ≤ 1024)
   (hst : (recsL ((parts.map (·.2)).take w)).length ≤ 100000) (hlen : (recsL (parts.map (·.2))).length ≤ 25000)
   (mb : MkS s 1 (turnB (recsL (parts.map (·.2))) ((recsL ((parts.map (·.2)).take w)).length + i) j).length (u8l (turnB (recsL (parts.map (·.2))) ((recsL ((parts.map (·.2)).take w)).length + i) j)) vb b1) (mh : MkS s 18 parts.length (heldCs (heldsL 0 (parts.map (·.2)))) vh b3)
   (h7 : T.get tm 7 = some (.bool true)) (h8 : T.get tm 8 = some vb) (h10 : T.get tm 10 = some vh) (h1 : T.get tm 1 = some (.int .i64 (w : Nat))) (h12 : T.get tm 12 = some (.int .i64 ((recsL ((parts.map (·.2)).take w)).length : Nat))) (hT : skim 64 td = Dl_) (hn : 2000000 ≤ n) :
   W (runF envS n ⟨7, Kw_, Bj_, tm, td, .run, .normal, none⟩) s fun p s1 => (fun (u : Value) (_ : St) => u = .bool true) p.1 (s1.cxN s0.cx) := by
 generalize hL : parts.map (·.2) = L at *
 have hLl : L.length = parts.length := by rw [← hL, List.length_map]
 have hwL : w < L.length := by omega
 have hfit : Fit L := fun x hx => by
   rw [← hL] at hx
   obtain ⟨p, hp, rfl⟩ := List.mem_map.1 hx
   exact hsm p hp
 have hbyL : Byt (recsL L) := by
   have : ∀ l : List (List Nat), (∀ x ∈ l, Byt x) → Byt (recsL l) := by
     intro l
     induction l with
     | nil => intro _ x hx; cases hx
     | cons x l ih =>
       intro h y hy
       rcases List.mem_append.1 hy with hy | hy
       · exact AgB_ (h x (by simp)) y hy
       · exact ih (fun z hz => h z (by simp [hz])) y hy
   refine this L fun x hx => ?_
   rw [← hL] at hx
   obtain ⟨p, hp, rfl⟩ := List.mem_map.1 hx
   exact hby p hp
 obtain ⟨hsay, hscan⟩ := AfG_ (i := i) (j := j) hwL hfit hi
 generalize hB : turnB (recsL L) ((recsL (L.take w)).length + i) j = B at *
 have hBl : B.length = (recsL L).length := by rw [← hB, Vw_]
 have hBy : Byt B := by rw [← hB]; exact AjY_ hbyL _ _ hj
 have h16 := Ok_ L 0
 have hHl : (heldsL 0 L).length = parts.length := by rw [CS_, hLl]
 have hwH : w < (heldsL 0 L).length := by omega
 have hat := Adk_ hwL
 rw [List.getElem?_eq_getElem hwH] at hat
 have hat' : (heldsL 0 L)[w] = (idB L[w], (recsL (L.take w)).length, L[w].length) := by injection hat
 obtain ⟨cv, ev, hcap, hrow, hpre⟩ := mh.hat hHl.symm h16 hwH
 rw [hat'] at hrow
 subst ev
 have hbs : Bs s vb B := mb.bs (by unfold capU; omega)
 have hlt : ∀ x, BsF vb x → x < s.next := fun x hx => mb.lt x (mb.bsF x hx)
 refine Aak_.w hT (by omega) ?_
 simp -implicitDefEqProofs only [OO_, Ag_, W_oS, W_on, Aa_, W_mv, Ac_, Ae_, Ah_, Ab_, AB_, h8, h10, h1, Cg_ FX_ (show w < parts.length from hw)]
 refine W.loadA OD_ hrow (BY_ (Bz_ _)) fun sa ma na xa => ?_
 have hba : sa.lim ≤ sa.next := xa.bnd hb
 have hmiss : missB B (idB L[w], (recsL (L.take w)).length, L[w].length) = true := by
   unfold missB
   rw [hsay]
   rfl
 refine Aqj_ hba (hbs.same ma na) hBy (by omega) (by show (recsL (L.take w)).length ≤ 1000000; omega) (Bz_ _) (by omega) (fun h _ => by rw [hmiss] at h; cases h) (fun h _ => by rw [hmiss] at h; cases h) fun _ sb xb => ?_
 rw [BG_ (k := 0) rfl, BG_ (k := 1) rfl]
 have hbb : sb.lim ≤ sb.next := xb.bnd hba
 have hna : sa.next = s.next := na
 refine ZU_.w RL_ (by omega) ?_
 simp -implicitDefEqProofs only [Nk_, Ag_, W_oS, W_on, Aa_, W_mv, Ac_, T.get_set, Ae_, Ah_, Ab_, AB_, reduceIte, Aw_, BB_, Bx_, BR_, AQ_, Nat.reduceEqDiff, Nat.reduceEqDiff, ↓reduceIte, Jb_, h7, h8, h10, h1, h12, decide_true]
 obtain ⟨hc1, hc2⟩ := hcap (by unfold capU; omega)
 rw [AlA_ FX_ (l := 0) (h := w) rfl rfl (Nat.zero_le _) (by omega) hc2]
 have hwr : HsR sb (.slice (some ⟨b3, if 0 < cv % capU then 0 + 0 * 18 else 0, none⟩) (w - 0) (cv - 0)) (heldsL 0 (L.take w)) := by
   refine .inr ⟨b3, _, _, by rw [CS_, List.length_take, show min w L.length = w - 0 by omega], ?_⟩
   have h0 : (if 0 < cv % capU then 0 + 0 * 18 else 0) = 0 := by split <;> rfl
   rw [h0, ← Aey_ hwL]
   exact fun q u e => (((hpre w (by omega)) q u e).same ma na).ext0 xb
 try simp -implicitDefEqProofs only [Ag_, W_oS, W_on, Aa_, W_mv, Ac_, Bl_, T.get_set, Ae_, Ah_, AC_, AG_, Ab_, AB_, reduceIte, Aw_, BB_, Bp_, BJ_, Bm_, Bx_, BR_, CD_, AQ_, Cn_, Nat.reduceEqDiff, Nat.reduceEqDiff, reduceCtorEq, ↓reduceIte]
 refine Aja_ (l := B) (hs := heldsL 0 (L.take w)) (size := (recsL (L.take w)).length) (bad := 0) (rest := 2) hbb ((hbs.same ma na).ext0 xb) (fun x hx => by have := hlt x hx; have := xb.nxt; omega) hBy (by omega) hwr (Ok_ _ _) (by rw [CS_, List.length_take]; omega) hscan (by rw [CS_, List.length_take]; omega) fun sc xc => ?_
 try simp -implicitDefEqProofs only [Ag_, W_oS, W_on, Aa_, W_mv, Ac_, Bl_, T.get_set, Ae_, Ah_, AC_, AG_, Ab_, AB_, reduceIte, Aw_, BB_, Bp_, BJ_, Bm_, Bx_, BR_, CD_, AQ_, Cn_, Nat.reduceEqDiff, Nat.reduceEqDiff, reduceCtorEq, ↓reduceIte]
 exact W.end' (rs := [6]) (vs := [.bool true]) RP_ (.inl AaM_) (by omega) FM_ HB_ ((xc.cx.trans (xb.cx.trans xa.cx)).trans hcx) (by simp [T.get_set]) rfl
end
end Go.Proofs.Ytofanlcjeohcjaa.Am
namespace Go.Proofs.Ytofanlcjeohcjaa.Am
open Go.RowKit
section
variable {parts : List (Value × List Nat)} {b o c : Nat}
theorem Aia_ {n w q : Nat} {tm : T Value} {td : List Item} {s s0 s00 : St} {vb ve vh : Value} {b1 b2 b3 : Nat} (hb : s.lim ≤ s.next) (hcx : s.cx = cxN) (hw : w < parts.length) (hq : q < 48) (hby : ∀ p ∈ parts, Byt p.2) (R : AlR s00 parts s vb ve vh b1 b2 b3)
   (h7 : T.get tm 7 = some (.bool true)) (h8 : T.get tm 8 = some vb) (h10 : T.get tm 10 = some vh) (h1 : T.get tm 1 = some (.int .i64 (w : Nat))) (h2 : T.get tm 2 = some (.int .i64 (q : Nat))) (hT : skim 64 td = El_) (hn : 2000010 ≤ n) :
   W (runF envS n ⟨7, Kw_, Bj_, tm, td, .run, .normal, none⟩) s fun p s1 => (fun (u : Value) (_ : St) => u = .bool true) p.1 (s1.cxN s0.cx) := by
 have hle := R.le
 have hsm := R.sm
 have mb := R.mb
 have mh := R.mh
 obtain ⟨L, hL⟩ : ∃ L, parts.map (·.2) = L := ⟨_, rfl⟩
 rw [hL] at mb mh
 have hLl : L.length = parts.length := by rw [← hL, List.length_map]
 have hwL : w < L.length := by omega
 have hHl : (heldsL 0 L).length = parts.length := by rw [CS_, hLl]
 have hwH : w < (heldsL 0 L).length := by omega
 have hat := Adk_ hwL
 rw [List.getElem?_eq_getElem hwH] at hat
 have hat' : (heldsL 0 L)[w] = (idB L[w], (recsL (L.take w)).length, L[w].length) := by injection hat
 obtain ⟨cv, ev, hcap, hrow, hpre⟩ := mh.hat hHl.symm (Ok_ _ 0) hwH
 rw [hat'] at hrow
 have hall : ∀ x ∈ L, x.length ≤ 1024 := fun x hx => by
   rw [← hL] at hx
   obtain ⟨p, hp, rfl⟩ := List.mem_map.1 hx
   exact (hsm p hp).2
 have hlenL : (recsL L).length ≤ 25000 := by
   have h := Aas_ hall
   have h2 : L.length * 1050 ≤ 20 * 1050 := Nat.mul_le_mul_right _ (by omega)
   omega
 have hlen1 : (recsL (L.take w)).length + 26 ≤ (recsL L).length := by
   have e : L = L.take w ++ L[w] :: L.drop (w + 1) := by rw [List.getElem_cons_drop, List.take_append_drop]
   conv => rhs; rw [e, Vb_, List.length_append]
   show _ ≤ _ + (recB _ ++ _).length
   rw [List.length_append, EM_]
   omega
 have hbyL : Byt (recsL L) := by
   have : ∀ l : List (List Nat), (∀ x ∈ l, Byt x) → Byt (recsL l) := by
     intro l
     induction l with
     | nil => intro _ x hx; cases hx
     | cons x l ih =>
       intro h y hy
       rcases List.mem_append.1 hy with hy | hy
       · exact AgB_ (h x (by simp)) y hy
       · exact ih (fun z hz => h z (by simp [hz])) y hy
   refine this L fun x hx => ?_
   rw [← hL] at hx
   obtain ⟨p, hp, rfl⟩ := List.mem_map.1 hx
   exact hby p hp
 have hk : (recsL (L.take w)).length + q / 8 < (recsL L).length := by omega
 obtain ⟨cb, eb, ob⟩ := mb.get hk
 have hr16 := hrow 16 _ (Fq_ (Bz_ L[w])).1
 refine AdP_.w hT (by omega) ?_
 simp -implicitDefEqProofs only [QQ_, Ag_, W_oS, Aa_, W_mv, Ac_, h10, ev, h1, Cg_ FX_ (show w < parts.length from hw), GW_ AiU_ (by decide)]
 refine W.load1 Bk_ hr16 ?_
 have eq : wrap64 (((recsL (L.take w)).length : Nat) + (q / 8 : Nat) : Int) = (((recsL (L.take w)).length + q / 8 : Nat) : Int) := by
   rw [AK_ (by omega) (by omega)]; simp
 refine Abh_.w WT_ (by omega) ?_
 simp -implicitDefEqProofs only [Ry_, T.get_set, Nat.reduceEqDiff, ↓reduceIte, h8, eb, h2, Ce_, AV_]
 rw [W_dq fun s Q => AqF_ (s := s) (by omega) Q]
 dsimp only
 rw [W_dq fun s Q => BC_ (s := s) (((recsL (L.take w)).length : Nat) : Int) ((q / 8 : Nat) : Int), eq]
 simp -implicitDefEqProofs only [AV_]
 rw [W_dq fun s Q => AqF_ (s := s) (by omega) Q]
 dsimp only
 rw [W_dq fun s Q => BC_ (s := s) (((recsL (L.take w)).length : Nat) : Int) ((q / 8 : Nat) : Int), eq]
 dsimp only
 rw [W_dq fun s Q => Cg_ (s := s) AL_ hk Q]
 have oat : At (dSt (s.rdN (b3 + (0 + w * 18 + 16))).mem (s.rdN (b3 + (0 + w * 18 + 16))).next) b1 (0 + ((recsL (L.take w)).length + q / 8) * 1) (.int .u8 ((recsL L).getD ((recsL (L.take w)).length + q / 8) 0 : Nat)) := by
   rw [show 0 + ((recsL (L.take w)).length + q / 8) * 1 = (recsL (L.take w)).length + q / 8 by omega]
   exact (ob.same (s' := dSt (s.rdN (b3 + (0 + w * 18 + 16))).mem (s.rdN (b3 + (0 + w * 18 + 16))).next) rfl rfl).at'
 refine W.dload MY_ oat fun rd1 hr1 => ?_
 simp -implicitDefEqProofs only [AV_]
 rw [W_dq fun s Q => Aug_ (s := s) Q]
 dsimp only
 rw [W_dq fun s Q => AtV_ (s := s) (k := q % 8) (by omega) Q]
 have hx1 : (recsL L).getD ((recsL (L.take w)).length + q / 8) 0 < 2 ^ 8 := by
   rw [List.getD_eq_getElem?_getD, List.getElem?_eq_getElem hk]
   exact hbyL _ (List.getElem_mem hk)
 have hx2 : 2 ^ (q % 8) < 2 ^ 8 := Nat.pow_lt_pow_right (by decide) (by omega)
 have hx3 : (recsL L).getD ((recsL (L.take w)).length + q / 8) 0 ^^^ 2 ^ (q % 8) < 256 := Nat.xor_lt_two_pow hx1 hx2
 dsimp only
 rw [W_dq fun s Q => Aue_ (s := s) hx3 Q]
 dsimp only
 rw [W_dq fun s Q => Cg_ (s := s) AL_ hk Q]
 rw [Aa_]
 refine ⟨Ge_ (by simp) (by simp), ?_⟩
 refine W.cast (Adt_ _ _ _ _ _ _ _ _ _ _ _ _ _ _ _ _ _ _ _ _ _ _) ?_
 simp -implicitDefEqProofs only [Ag_, W_oS, Aa_]
 generalize hs' : (⟨(dSt (s.rdN (b3 + (0 + w * 18 + 16))).mem (s.rdN (b3 + (0 + w * 18 + 16))).next).mem, (dSt (s.rdN (b3 + (0 + w * 18 + 16))).mem (s.rdN (b3 + (0 + w * 18 + 16))).next).next, _, _, _, _⟩ : St) = s'
 have m' : s'.mem = s.mem := by rw [← hs']; rfl
 have n' : s'.next = s.next := by rw [← hs']; rfl
 have l' : s'.lim = s.lim := by rw [← hs']; rfl
 have c' : s'.cx = s.cx := by rw [← hs']; rfl
 have hb' : s'.lim ≤ s'.next := by rw [l', n']; exact hb
 rw [show 0 + ((recsL (L.take w)).length + q / 8) * 1 = (recsL (L.take w)).length + q / 8 by omega]
 refine W.store1 MY_ rfl (ob.same m' n') fun s2 n2 x2 o2 => ?_
 have mb2 := (mb.same m' n').put hk n2 x2 o2
 have hin : ∀ y, In b1 ((recsL (L.take w)).length + q / 8) 1 y → MkF 1 (recsL L).length b1 y := fun y hy => by
   have h1 := In1.1 hy
   exact ⟨by omega, by omega, by omega⟩
 have mh2 : MkS s2 18 parts.length (heldCs (heldsL 0 L)) vh b3 := (mh.same m' n').ext x2 fun y hy hy' => by
   have hd := R.d13 y
   rw [hL] at hd
   exact hd (hin y hy') hy
 subst hL
 exact Als_ (i := q / 8) (j := q % 8) (vb := vb) (vh := vh) (b1 := b1) (b3 := b3) (s0 := s0) (x2.bnd hb') (x2.cx.trans (c'.trans hcx)) hw (by omega) (by omega) hby hle hsm (by omega) (by omega) mb2 mh2 (by simp [T.get_set, h7]) (by simp [T.get_set, h8]) (by simp [T.get_set, h10]) (by simp [T.get_set, h1]) (by simp [T.get_set]) Vg_ (by omega)
end
end Go.Proofs.Ytofanlcjeohcjaa.Am
namespace Go.Proofs.Ytofanlcjeohcjaa.Am
open Go.RowKit
section
variable {parts : List (Value × List Nat)} {b o c : Nat}
theorem Atc_ {n : Nat} {x y : Int} {s : St} (hbd : s.lim ≤ s.next) (hp : Parts s b o parts) (hlt : ∀ p ∈ parts, ∀ x, BsF p.1 x → x < s.next) (hby : ∀ p ∈ parts, Byt p.2) (hn : 2100000 ≤ n) : W (callW envS (runF envS n) 7 [.slice (some ⟨b, o, none⟩) parts.length c, .int .i64 x, .int .i64 y]) s fun u _ => u = .bool true := by
 refine Vr_ fun tm h0 h1 h2 => ?_
 have hp0 : Parts (s.cxN cxN) b o parts := hp.same rfl rfl
 refine Rr_.w rfl (by omega) ?_
 simp -implicitDefEqProofs only [JO_, Aa_, W_mv, Ac_]
 refine Qf_.w Ls_ (by omega) ?_
 simp -implicitDefEqProofs only [Jj_, Ag_, W_on, Aa_, W_mv, Ac_, Ah_, AB_]
 refine W.orc XJ_ (W.pure ?_)
 refine Rp_.w LC_ (by omega) ?_
 simp -implicitDefEqProofs only [Kc_, Ag_, W_oS, W_on, Aa_, W_mv, Ac_, T.get_set, Ae_, Ah_, Ab_, AB_, reduceIte, reduceCtorEq, ↓reduceIte, h0]
 have back : ∀ (s1 : St) (n1 : Nat) (tm1 : T Value) (td : List Item), s1.cx = cxN → 10 ≤ n1 → skim 64 td = En_ → T.get tm1 7 = some (.bool true) → W (runF envS n1 ⟨7, Kw_, Bj_, tm1, td, .run, .normal, none⟩) s1 fun p s1 => (fun (u : Value) (_ : St) => u = .bool true) p.1 (s1.cxN s.cx) := fun s1 n1 tm1 td hcx hn1 hT g7 => by
   refine QD_.w hT (by omega) ?_
   simp -implicitDefEqProofs only [Ja_, Aa_, W_mv, Ac_, g7]
   exact W.end' (rs := [6]) (vs := [.bool true]) Ma_ (.inl PX_) (by omega) FM_ HB_ hcx (by simp [T.get_set]) rfl
 refine Aqs_ (s := s.cxN cxN) hbd hp0 hlt hby (by omega) (fun s1 x1 => ?_) fun s1 vb ve vh b1 b2 b3 x1 R => ?_
 · rw [BG_ (k := 0) rfl, BG_ (k := 1) rfl, BG_ (k := 2) rfl, BG_ (k := 3) rfl]
   refine JQ_.w GH_ (by omega) ?_
   simp -implicitDefEqProofs only [FR_, Ag_, W_oS, W_on, Aa_, W_mv, Ac_, T.get_set, Ae_, Ah_, Ab_, reduceIte, Aw_, Bp_, Bx_, CD_, AQ_, reduceCtorEq, ↓reduceIte, Un_, Bool.not_false]
   refine W.cond (v := true) DT_ FP_ (by simp [T.get_set]) (by omega) (fun _ => ?_) fun h => by cases h
   exact back s1 _ _ _ x1.cx (by omega) GS_ (by simp [T.get_set])
 · rw [BG_ (k := 0) rfl, BG_ (k := 1) rfl, BG_ (k := 2) rfl, BG_ (k := 3) rfl]
   refine JQ_.w GH_ (by omega) ?_
   simp -implicitDefEqProofs only [FR_, Ag_, W_oS, W_on, Aa_, W_mv, Ac_, T.get_set, Ae_, Ah_, Ab_, reduceIte, Aw_, Bm_, Bx_, BR_, AQ_, reduceCtorEq, ↓reduceIte, Jb_, Un_, Bool.not_true, h0, Bu_ Bt_]
   by_cases hz : parts.length = 0
   · refine W.cond (v := true) DT_ FP_ (by simp [T.get_set, hz]) (by omega) (fun _ => ?_) fun h => by cases h
     exact back s1 _ _ _ x1.cx (by omega) GS_ (by simp [T.get_set])
   · refine W.cond (v := false) DT_ FP_ (by simp [T.get_set]; exact fun h => hz (by rw [h]; rfl)) (by omega) (fun h => by cases h) fun _ => ?_
     refine AdL_.w WL_ (by omega) ?_
     simp -implicitDefEqProofs only [Qq_, Ag_, W_oS, W_on, Aa_, W_mv, Ac_, T.get_set, Ae_, Ah_, Ab_, AB_, reduceIte, Nat.reduceEqDiff, Nat.reduceEqDiff, reduceCtorEq, ↓reduceIte, h0, h1, h2, Bu_ Bt_]
     have hle := R.le
     refine ON_ (m := parts.length) (by omega) (by omega) (by omega) fun w hw => ?_
     try simp -implicitDefEqProofs only [Ag_, W_oS, W_on, Aa_, W_mv, Ac_, Bl_, T.get_set, Ae_, Ah_, AC_, AG_, Ab_, AB_, reduceIte, Aw_, BB_, Bp_, BJ_, Bm_, Bx_, BR_, CD_, AQ_, Cn_, Nat.reduceEqDiff, Nat.reduceEqDiff, reduceCtorEq, ↓reduceIte]
     refine ON_ (m := 48) (by omega) (by omega) (by omega) fun q hq => ?_
     try simp -implicitDefEqProofs only [Ag_, W_oS, W_on, Aa_, W_mv, Ac_, Bl_, T.get_set, Ae_, Ah_, AC_, AG_, Ab_, AB_, reduceIte, Aw_, BB_, Bp_, BJ_, Bm_, Bx_, BR_, CD_, AQ_, Cn_, Nat.reduceEqDiff, Nat.reduceEqDiff, reduceCtorEq, ↓reduceIte]
     exact Aia_ (s0 := s) (x1.bnd hbd) x1.cx hw hq hby R (by simp [T.get_set]) (by simp [T.get_set]) (by simp [T.get_set]) (by simp [T.get_set]) (by simp [T.get_set]) VW_ (by omega)
end
end Go.Proofs.Ytofanlcjeohcjaa.Am
namespace Go.Proofs.Ytofanlcjeohcjaa.Am
open Go.RowKit Go.ChangeShapes Go.WideShapes
theorem ArJ_ {n : Nat} {s : St} {Q : Value → St → Prop} (hn : 100 ≤ n) (q : ∀ s1, s1.lim ≤ s1.next ∨ True → s1.cx = s.cx → s1.mem = s.mem → Q (.tuple #[.slice none 0 0, .slice none 0 0, .slice none 0 0, .bool true]) s1) :
   W (callW envS (runF envS n) 30 [.slice none 0 0]) s Q := by
 refine AbM_ fun tm h0 => ?_
 refine XV_.w rfl (by omega) ?_
 simp -implicitDefEqProofs only [Pr_, Aa_, W_mv, Ac_]
 refine XL_.w Qd_ (by omega) ?_
 simp -implicitDefEqProofs only [Pn_, Aa_, W_mv, Ac_]
 refine Yu_.w PR_ (by omega) ?_
 simp -implicitDefEqProofs only [Pb_, Aa_, W_mv, Ac_]
 refine XF_.w RH_ (by omega) ?_
 simp -implicitDefEqProofs only [OX_, Aa_, W_mv, Ac_]
 refine Yd_.w QM_ (by omega) ?_
 simp -implicitDefEqProofs only [Pi_, Aa_, W_mv, Ac_]
 refine XY_.w Rf_ (by omega) ?_
 simp -implicitDefEqProofs only [OU_, Aa_, W_mv, Ac_]
 refine Pd_.w RG_ (by omega) ?_
 have e1 : (decide ((0 : Int) < ((0 : Nat) : Int))) = false := rfl
 have e2 : (decide ((20 : Int) < ((0 : Nat) : Int))) = false := rfl
 have e3 : (decide ((4000 : Int) < 0)) = false := rfl
 simp -implicitDefEqProofs only [KG_, Ag_, W_oS, W_on, Aa_, W_mv, Ac_, T.get_set, Ae_, Ah_, Ab_, reduceIte, Aw_, BJ_, Bx_, CD_, AQ_, reduceCtorEq, ↓reduceIte, Bh_, h0, Bu_ Bt_, e1]
 refine W.cond (v := false) GB_ Ln_ (by simp [T.get_set]) (by omega) (fun h => by cases h) fun _ => ?_
 refine Yp_.w JH_ (by omega) ?_
 simp -implicitDefEqProofs only [Py_, Ag_, W_oS, W_on, Aa_, W_mv, Ac_, T.get_set, Ae_, Ah_, Ab_, reduceIte, Aw_, Bm_, Bx_, BR_, AQ_, Nat.reduceEqDiff, Nat.reduceEqDiff, reduceCtorEq, ↓reduceIte, Er_, h0, Bu_ Bt_, e2, e3]
 refine W.cond (v := false) Eu_ Hz_ (by simp [T.get_set]) (by omega) (fun h => by cases h) fun _ => ?_
 refine VK_.w Mk_ (by omega) ?_
 simp -implicitDefEqProofs only [Nb_, Aa_, W_mv, Ac_]
 refine MN_.w LQ_ (by omega) ?_
 simp -implicitDefEqProofs only [If_, Ag_, W_oS, Aa_, W_mv, Ac_, T.get_set, Ae_, Ah_, Ab_, reduceIte, reduceCtorEq, ↓reduceIte, Bh_, h0, Bu_ Bt_, e1]
 refine W.cond (v := false) GJ_ Mv_ (by simp [T.get_set]) (by omega) (fun h => by cases h) fun _ => ?_
 refine Vk_.w Lz_ (by omega) ?_
 simp -implicitDefEqProofs only [MD_, Aa_, W_mv, Ac_, T.get_set, reduceIte, Nat.reduceEqDiff, Nat.reduceEqDiff, ↓reduceIte]
 refine W.end' (rs := [2, 3, 4, 5]) (vs := [.slice none 0 0, .slice none 0 0, .slice none 0 0, .bool true]) Lr_ (.inl VD_) (by omega) EO_ EW_ rfl (by simp [T.get_set]) ?_
 exact q _ (.inr trivial) rfl rfl
theorem Ane_ {n : Nat} {x y : Int} {s : St} (hn : 200 ≤ n) : W (callW envS (runF envS n) 7 [.slice none 0 0, .int .i64 x, .int .i64 y]) s fun u _ => u = .bool true := by
 refine Vr_ fun tm h0 h1 h2 => ?_
 refine Rr_.w rfl (by omega) ?_
 simp -implicitDefEqProofs only [JO_, Aa_, W_mv, Ac_]
 refine Qf_.w Ls_ (by omega) ?_
 simp -implicitDefEqProofs only [Jj_, Ag_, W_on, Aa_, W_mv, Ac_, Ah_, AB_]
 refine W.orc XJ_ (W.pure ?_)
 refine Rp_.w LC_ (by omega) ?_
 simp -implicitDefEqProofs only [Kc_, Ag_, W_oS, W_on, Aa_, W_mv, Ac_, T.get_set, Ae_, Ah_, Ab_, AB_, reduceIte, reduceCtorEq, ↓reduceIte, h0]
 refine ArJ_ (by omega) fun s1 _ c1 _ => ?_
 rw [BG_ (k := 0) rfl, BG_ (k := 1) rfl, BG_ (k := 2) rfl, BG_ (k := 3) rfl]
 refine JQ_.w GH_ (by omega) ?_
 simp -implicitDefEqProofs only [FR_, Ag_, W_oS, W_on, Aa_, W_mv, Ac_, T.get_set, Ae_, Ah_, Ab_, reduceIte, Aw_, Bm_, Bx_, BR_, AQ_, reduceCtorEq, ↓reduceIte, Jb_, Un_, Bool.not_true, h0, Bu_ Bt_]
 refine W.cond (v := true) DT_ FP_ (by simp [T.get_set]) (by omega) (fun _ => ?_) fun h => by cases h
 refine QD_.w GS_ (by omega) ?_
 simp -implicitDefEqProofs only [Ja_, Aa_, W_mv, Ac_, T.get_set, reduceIte, Nat.reduceEqDiff, Nat.reduceEqDiff, ↓reduceIte]
 exact W.end' (rs := [6]) (vs := [.bool true]) Ma_ (.inl PX_) (by omega) FM_ HB_ c1 (by simp [T.get_set]) rfl
theorem AjI_ : envS.P = Try.prog := by kernel_rfl
theorem AdR_ : Try.f7.params.toList = [43, 3, 3] := by kernel_rfl
theorem AaU_ : Try.f7.params = #[43, 3, 3] := by kernel_rfl
theorem Afd_ : Try.prog.underlying 43 = some (.slice 22) := by kernel_rfl
theorem AbF_ : Try.prog.underlying 22 = some (.slice 5) := by kernel_rfl
theorem AlR_ : Try.prog.underlying 5 = some (.int .u8) := by kernel_rfl
theorem XM_ : Try.prog.underlying 3 = some (.int .i64) := by kernel_rfl
theorem Aef_ : Try.prog.cellsOf 22 = 1 := by kernel_rfl
theorem Ala_ : Try.prog.cellsOf 5 = 1 := by kernel_rfl
theorem Abe_ : envS.orc.get 7 = none := by kernel_rfl
theorem AdI_ : envS.ext.get 7 = none := by kernel_rfl
theorem Ape_ (qs : List Part) {w : World} {vs : List Value} (hlen : vs.length = qs.length) (hok : ∀ (i : Nat) (p : Part) (v : Value), qs[i]? = some p → vs[i]? = some v → PartOk w p v) : ∃ parts : List (Value × List Nat), parts.length = qs.length ∧ Parts (stParts qs) 0 0 parts ∧ (∀ p ∈ parts, ∀ x, BsF p.1 x → x < (stParts qs).next) ∧ ∀ p ∈ parts, Byt p.2 := by
 have each : ∀ i, ∃ p : Value × List Nat, i < qs.length → (valsP (qs.length + 1) qs)[i]? = some p.1 ∧ Bs (stParts qs) p.1 p.2 ∧ Byt p.2 ∧ ∀ x, BsF p.1 x → x < (stParts qs).next := fun i => by
   by_cases hi : i < qs.length
   · obtain ⟨v, h1, h2, h3, h4⟩ := Apb_ qs hlen hok (List.getElem?_eq_getElem hi)
     exact ⟨(v, qs[i].l), fun _ => ⟨h1, h2, h3, h4⟩⟩
   · exact ⟨(undef, []), fun h => absurd h hi⟩
 obtain ⟨f, hf⟩ := Classical.axiomOfChoice each
 refine ⟨(List.range qs.length).map f, by simp, ⟨fun i u e => ?_, fun p hp => ?_⟩, fun p hp => ?_, fun p hp => ?_⟩
 · rw [List.map_map, List.getElem?_map, Option.map_eq_some_iff] at e
   obtain ⟨j, g1, rfl⟩ := e
   have hi := (List.getElem?_eq_some_iff.1 g1).1
   rw [List.length_range] at hi
   rw [List.getElem?_range hi] at g1
   cases g1
   exact Ann_ qs i _ (hf i hi).1
 · obtain ⟨j, hj, rfl⟩ := List.mem_map.1 hp
   exact (hf j (List.mem_range.1 hj)).2.1
 · obtain ⟨j, hj, rfl⟩ := List.mem_map.1 hp
   exact (hf j (List.mem_range.1 hj)).2.2.2
 · obtain ⟨j, hj, rfl⟩ := List.mem_map.1 hp
   exact (hf j (List.mem_range.1 hj)).2.2.1
set_option maxRecDepth 1000000 in
theorem walkHeads {H : Type} {enc : TypeId × Value → H} {w : World} {base : Nat} {args : Array Value} {ds : List (DataW H)} {ps : List MemPlace} (hA : DataW.TrodAll enc Try.prog w 0 (fun _ => true) true Try.f7.params.toList args.toList ds ps)
   (hv : ∀ (j : Nat) t v, Try.f7.params[j]? = some t → args[j]? = some v → Value.okWide Try.prog w .any base t v) : Calls Try.prog 7 args w fun e w' => e = .returned (.bool true) ∧ Below w.heap.size w w' := by
 rw [AdR_] at hA
 rw [AaU_] at hv
 obtain ⟨v, v', v'', d, d', d'', p, p', p'', rfl, rfl, rfl, hj, _, _⟩ := trodAll_three hA
 obtain ⟨x, rfl, _, _⟩ := AqD_ XM_ (hv 1 _ v' rfl rfl)
 obtain ⟨y, rfl, _, _⟩ := AqD_ XM_ (hv 2 _ v'' rfl rfl)
 rcases Asc_ Afd_ AbF_ AlR_ Aef_ Ala_ (hv 0 _ v rfl rfl) hj with rfl | ⟨b, o, len, cap, qs, vs, rfl, hc, hm, rfl, hlen, hb, hok, hcell⟩
 · have h := AeW_ (args := #[.slice none 0 0, .int .i64 x, .int .i64 y]) AmS_ Abe_ AdI_ (Ane_ (n := 2200000) (x := x) (y := y) (s := st0) (by omega)) rfl (by
     intro v hv
     simp -implicitDefEqProofs only [List.mem_cons, List.not_mem_nil, or_false] at hv
     rcases hv with rfl | rfl | rfl <;> rfl) w
   rw [AjI_] at h
   exact h
 · obtain ⟨parts, hpl, hp, hlt, hby⟩ := Ape_ qs hlen hok
   have hrun : W (callW envS (runF envS 2200000) 7 [.slice (some ⟨0, 0, none⟩) qs.length cap, .int .i64 x, .int .i64 y]) (stParts qs) fun u _ => u = .bool true := by
     rw [← hpl]
     exact Atc_ (Nat.zero_le _) hp hlt hby (by omega)
   have h := AiJ_ (fuel := 2200000) (more := [.int .i64 x, .int .i64 y]) (o := o) AmS_ Abe_ AdI_ hc hm (by
     intro v hv
     simp -implicitDefEqProofs only [List.mem_cons, List.not_mem_nil, or_false] at hv
     rcases hv with rfl | rfl <;> rfl) hrun rfl hb hlen hok hcell
   rw [AjI_] at h
   exact h
end Go.Proofs.Ytofanlcjeohcjaa.Am
end
