import Derived.Test.YtofanlcjeohcjaaPPt16
import Derived.Test.YtofanlcjeohcjaaPPt08
import Derived.Test.YtofanlcjeohcjaaPPt15
import Derived.KernelRfl
noncomputable section
namespace Go.Proofs.Ytofanlcjeohcjaa.Am
open Go.RowKit
abbrev DigF (D:Nat)(v:Value):Nat→Prop:=fun x=>In D 0 74 x∨BsF v x
theorem Dig.setN {F:Nat→Prop}{s s2:St}{D:Nat}{d:DS}(h:Dig s D d){m:Nat}(x:Ext F (In D 73 1) s s2)(o:Own s2 D 73 (.int .i64 (m:Nat))):Dig s2 D ⟨d.st,d.w,m⟩:=
 ⟨h.made.ext x fun q=>by have:=q.1;omega,h.st.ext x fun i hi q=>by have h3:i<8:=hi;have:=q.1;omega,h.w.ext x fun i hi q=>by rw[Be,h.len]at hi;have:=q.1;omega,o,h.len,h.byt,h.ok⟩
theorem Dig.setSt {F:Nat→Prop}{s s2:St}{D:Nat}{d:DS}(h:Dig s D d){r:Sha.St8}(hr:r.Ok)(x:Ext F (In D 1 8) s s2)(o:Ah s2 D 1 (st8V r).toList):Dig s2 D ⟨r,d.w,d.n⟩:=
 ⟨h.made.ext x fun q=>by have:=q.1;omega,o,h.w.ext x fun i hi q=>by have:=q.2;omega,h.n.ext x fun q=>by have:=q.2;omega,h.len,h.byt,hr⟩
theorem Row.same' {s s':St}{b o:Nat}{l:List Value}(h:Row s b o l)(hm:s'.mem=s.mem)(hn:s'.next=s.next):Row s' b o l:=fun i v e=>(h i v e).same hm hn
theorem LB_ {D : Nat} {v0 : Value} {Q : Value × FrameMode → St → Prop} {s0 : St} (hb0 : s0.lim ≤ s0.next) (hcx : s0.cx = .cx none (some [])) (hdis : ∀ x, BsF v0 x → ¬ In D 0 74 x) : ∀ (f n : Nat) (tm : T Value) (s : St) (td : List Item) (d : DS) (b : List Nat) (v : Value), b.length ≤ f → 20 * f + 60 ≤ n → skim 64 td = E3 → Ext (DigF D v0) (In D 0 74) s0 s → Dig s D d → d.n + b.length ≤ 1000000000 → (b ≠ [] → Bn s v b) → Bs s v b → Byt b → (∀ x, BsF v x → BsF v0 x) →
   T.get tm 0 = some (.pointer (some ⟨D, 0, none⟩)) → T.get tm 1 = some v → (∀ s1, Ext (DigF D v0) (In D 0 74) s0 s1 → Dig s1 D (DS.write f d b) → Q (.tuple #[], .run) s1) →
   W (runF envS n ⟨111, Pn_, Ds, tm, td, .run, .normal, none⟩) s Q := by
 intro f
 induction f with
 | zero =>
   intro n tm s td d b v hf hn hT hx hd hmax hbn hbs hbyt hv h0 h1 q
   have hb : b = [] := List.eq_nil_of_length_eq_zero (by omega)
   subst hb
   refine Pr.w hT (by omega) ?_
   simp -implicitDefEqProofs only [KK, Ac, W_oS, Ab, W_mv, Ad, Ag, Af, Ae, Bc, h1, hbs.len BA]
   refine W.cond (v := false) O0 NB (by simp [T.get_set]) (by omega) (fun h => by cases h) fun _ => ?_
   refine W.end' (rs := []) (vs := []) Y7 (.inr (by kernel_rfl)) (by omega) PT Aj_ (hx.cx.trans hcx) rfl ?_
   exact q s hx hd
 | succ f ih =>
   intro n tm s td d b v hf hn hT hx hd hmax hbn hbs hbyt hv h0 h1 q
   by_cases hbe : b.length = 0
   · have hb : b = [] := List.eq_nil_of_length_eq_zero hbe
     subst hb
     refine Pr.w hT (by omega) ?_
     simp -implicitDefEqProofs only [KK, Ac, W_oS, Ab, W_mv, Ad, Ag, Af, Ae, Bc, h1, hbs.len BA]
     refine W.cond (v := false) O0 NB (by simp [T.get_set]) (by omega) (fun h => by cases h) fun _ => ?_
     refine W.end' (rs := []) (vs := []) Y7 (.inr (by kernel_rfl)) (by omega) PT Aj_ (hx.cx.trans hcx) rfl ?_
     exact q s hx hd
   · have hbne : b ≠ [] := fun e => hbe (by rw [e]; rfl)
     obtain ⟨hk1, hk2⟩ := d.k_le b
     have hm : d.n % 64 < 64 := Nat.mod_lt _ (by decide)
     have hk0 : 0 < d.k b := by
       unfold DS.k
       exact Nat.lt_min.2 ⟨by omega, by omega⟩
     refine Pr.w hT (by omega) ?_
     simp -implicitDefEqProofs only [KK, Ac, W_oS, Ab, W_mv, Ad, Ag, Af, Ae, Bc, h1, hbs.len BA]
     refine W.cond (v := true) O0 NB (by simp [T.get_set]; omega) (by omega) (fun _ => ?_) fun h => by cases h
     refine Oe_.w Ec_ (by omega) ?_
     simp -implicitDefEqProofs only [SW, Ac, W_oS, Ab, W_mv, Ad, T.get_set, reduceIte, Ao, reduceCtorEq, ↓reduceIte, h0, Dx KI (by decide : 0 < 1)]
     refine W.load1 H5 hd.n.at' ?_
     have hxa : Ext (DigF D v0) (In D 0 74) s0 (s.rdN (D + (0 + 73))) := hx.trans (Ext.rdN (F := DigF D v0) s _ fun _ => .inl ⟨by omega, by omega⟩) hb0 (fun _ _ h => h) fun _ _ h => h
     have hda : Dig (s.rdN (D + (0 + 73))) D d := hd.same rfl rfl
     have hba : Bn (s.rdN (D + (0 + 73))) v b := (hbn hbne).same rfl rfl
     generalize s.rdN (D + (0 + 73)) = sa at hxa hda hba ⊢
     simp -implicitDefEqProofs only [LE]
     refine AS_.w Lo_ (by omega) ?_
     simp -implicitDefEqProofs only [W9, Ac, W_oS, W_on, Ab, W_mv, Ad, T.get_set, Ag, Af, Ae, reduceIte, Ao, Nat.reduceEqDiff, reduceCtorEq, ↓reduceIte, h0, h1, Dx YF (by decide : 0 < 64), Fc (lo := some (.int .i64 ((d.n % 64 : Nat) : Int))) (hi := none) (l := d.n % 64) (h := 64) Zg (Bt (by decide)) rfl rfl (by omega) (Nat.le_refl _)]
     rw [if_neg (by omega)]
     obtain ⟨p, c, rfl⟩ := hba.bs.sl
     refine W.copy CK rfl (hba.bs.srcK hk1) (by rw [Be, List.length_take]; show Nat.min (d.k b) b.length = d.k b * 1; rw [Nat.mul_one]; exact Nat.min_eq_left hk1) (BY _) (fun i hi => ?_) fun sb nb xb rb => ?_
     · have hi' : i < d.k b * 1 := hi
       have := hda.w (d.n % 64 + i) (u8 (d.w[d.n % 64 + i]'(by rw [hda.len]; omega))) (by rw [List.getElem?_map, List.getElem?_eq_getElem (by rw [hda.len]; omega)]; rfl)
       exact ⟨_, by rw [show 0 + 9 + d.n % 64 * 1 + i = 9 + (d.n % 64 + i) by omega]; exact this⟩
     have hdisb : ∀ x, BsF (.slice p b.length c) x → ¬ In D 0 74 x := fun x hx' => hdis x (hv x hx')
     have hxb : Ext (DigF D v0) (In D 0 74) s0 sb := hxa.trans xb hb0 (fun x _ h => by
       rcases h with h | h
       · exact .inr (hv x h)
       · exact .inl ⟨by have := h.1; omega, by have := h.2; have h3 : d.k b ≤ 64 := by omega
                                               have h4 : x < D + (0 + 9 + d.n % 64 * 1) + d.k b * 1 := h.2
                                               omega⟩) fun x _ h => ⟨by have := h.1; omega, by have h4 : x < D + (0 + 9 + d.n % 64 * 1) + d.k b * 1 := h.2
                                                                                               omega⟩
     have hdb : Dig sb D ⟨d.st, d.w' b, d.n⟩ := hda.lay xb rb hbyt
     have hbb : Bn sb (.slice p b.length c) b := hba.ext xb fun x hx' h => hdisb x hx' ⟨by have := h.1; omega, by have h4 : x < D + (0 + 9 + d.n % 64 * 1) + d.k b * 1 := h.2
                                                                                                                  omega⟩
     clear xb rb hda hba hxa nb
     have hkmin : Nat.min (64 - d.n % 64) b.length = d.k b := rfl
     simp -implicitDefEqProofs only [hkmin]
     refine Ry_.w RP_ (by omega) ?_
     simp -implicitDefEqProofs only [Tk, Ac, W_on, Ab, W_mv, Ad, T.get_set, Ae, reduceIte, Nat.reduceEqDiff, ↓reduceIte, h1]
     refine W.cut hbb BA (i := d.k b) (j := b.length) rfl rfl hk1 (Nat.le_refl _) fun v1 hv1 hF1 => ?_
     rw [List.take_length] at hv1
     refine Rv_.w NP_ (by omega) ?_
     simp -implicitDefEqProofs only [Zv, Ac, W_oS, Ab, W_mv, T.get_set, reduceIte, Ao, Nat.reduceEqDiff, reduceCtorEq, ↓reduceIte, h0, Dx KI (by decide : 0 < 1)]
     refine W.load1 H5 hdb.n.at' ?_
     have en : wrap64 ((d.n : Nat) + (d.k b : Nat) : Int) = ((d.n + d.k b : Nat) : Int) := by
       rw [BB (by omega) (by omega)]; simp
     simp -implicitDefEqProofs only [A7, en]
     have hxb1 : Ext (DigF D v0) (In D 0 74) s0 (sb.rdN (D + (0 + 73))) := hxb.trans (Ext.rdN (F := DigF D v0) sb _ fun _ => .inl ⟨by omega, by omega⟩) hb0 (fun _ _ h => h) fun _ _ h => h
     have hdb1 : Dig (sb.rdN (D + (0 + 73))) D ⟨d.st, d.w' b, d.n⟩ := hdb.same rfl rfl
     have hv2 : Bn (sb.rdN (D + (0 + 73))) v1 (b.drop (d.k b)) := hv1.same rfl rfl
     generalize sb.rdN (D + (0 + 73)) = sc at hxb1 hdb1 hv2 ⊢
     refine W.store1 H5 rfl hdb1.n fun se ne xe oe => ?_
     have hxe : Ext (DigF D v0) (In D 0 74) s0 se := hxb1.trans xe hb0 (fun x _ h => .inl ⟨by have := h.1; omega, by have := h.2; omega⟩) fun x _ h => ⟨by have := h.1; omega, by have := h.2; omega⟩
     have hde : Dig se D ⟨d.st, d.w' b, d.n + d.k b⟩ := hdb1.setN xe oe
     have hve : Bn se v1 (b.drop (d.k b)) := hv2.ext xe fun x hx' h => hdisb x (hF1 x hx') ⟨by have := h.1; omega, by have := h.2; omega⟩
     clear xe oe hdb1 hv2 hxb1 hdb hxb
     refine KE_.w QS_ (by omega) ?_
     have ea : wrap64 ((d.n % 64 : Nat) + (d.k b : Nat) : Int) = ((d.n % 64 + d.k b : Nat) : Int) := by
       rw [BB (by omega) (by omega)]; simp
     simp -implicitDefEqProofs only [Wb, Ac, W_oS, Ab, W_mv, Ad, T.get_set, reduceIte, Nat.reduceEqDiff, ↓reduceIte, A7, Bg, ea]
     have hlen1 : (b.drop (d.k b)).length ≤ f := by rw [List.length_drop]; omega
     have hmax1 : d.n + d.k b + (b.drop (d.k b)).length ≤ 1000000000 := by rw [List.length_drop]; omega
     have hby1 : Byt (b.drop (d.k b)) := fun x hx' => hbyt x (List.mem_of_mem_drop hx')
     by_cases hfull : d.n % 64 + d.k b = 64
     · refine W.cond (v := true) UA Tf (by simp [T.get_set]; omega) (by omega) (fun _ => ?_) fun h => by cases h
       refine VY_.w Bx_ (by omega) ?_
       have hde' : Dig (dSt se.mem se.next) D ⟨d.st, d.w' b, d.n + d.k b⟩ := hde.same rfl rfl
       simp -implicitDefEqProofs only [R7, T.get_set, Nat.reduceEqDiff, ↓reduceIte, h0, Bq, BL, Bh]
       rw [W_dq fun s Q => Ao (s := s) ⟨D, 0, none⟩ Q, W_dq fun s Q => Dx (s := s) NZ (by decide : 0 < 8) Q]
       refine W.dloadA Ik hde'.st.row (DK _) fun mem1 rd1 hm1 hr1 => ?_
       rw [hm1]
       simp -implicitDefEqProofs only [Bh]
       rw [W_dq fun s Q => Ao (s := s) ⟨D, 0, none⟩ Q, W_dq fun s Q => Dx (s := s) YF (by decide : 0 < 64) Q, W_dq fun s Q => Fc (s := s) (lo := none) (hi := none) (l := 0) (h := 64) Zg (Bt (by decide)) rfl rfl (Nat.zero_le _) (Nat.le_refl _) Q]
       simp -implicitDefEqProofs only [Ag, Af, Ae, BL]
       refine W.dop ?_
       rw [Ak]
       refine W.orc (m := Ei) (by kernel_rfl) ?_
       refine W.next hde.ok (hde'.w.row.same' rfl rfl) hde'.len hde'.byt fun s1 m1 n1 x1 => ⟨In D 9 64, x1, fun rd2 hr2 => ?_⟩
       have m1' : s1.mem = se.mem := m1
       have n1' : s1.next = se.next := n1
       rw [m1', n1']
       simp -implicitDefEqProofs only [Bh]
       rw [W_dq fun s Q => Ao (s := s) ⟨D, 0, none⟩ Q, W_dq fun s Q => Dx (s := s) NZ (by decide : 0 < 8) Q]
       rw [Ab]
       refine ⟨Pz (by simp) (by simp), ?_⟩
       refine W.cast (AX_ _ _ _ _ _ _ _ _ _ _ _ _ _ _ _ _ _) ?_
       simp -implicitDefEqProofs only [Ac, W_oS, Ab]
       generalize hs' : (⟨(dSt se.mem se.next).mem, (dSt se.mem se.next).next, se.lim, _, _, se.cx⟩ : St) = s'
       have hx' : Ext (DigF D v0) (In D 0 74) s0 s' := by
         rw [← hs']
         refine hxe.trans (Ext.draw (F := fun x => In D 0 74 x) (Nat.le_refl _) (fun _ _ => rfl) (by simp) (by
           simp -implicitDefEqProofs only [List.mem_cons, List.not_mem_nil, or_false]
           rintro m (rfl | rfl | rfl | rfl | rfl | rfl | rfl | rfl | rfl | rfl | rfl | rfl) x hx _ <;> first | (have h3 := hr1 _ hx; exact ⟨by have := h3.1; omega, by have := h3.2; omega⟩) | (have h3 := (hr2 _ hx).2; exact ⟨by have := h3.1; omega, by have := h3.2; omega⟩) | (cases hx))) hb0 (fun _ _ h => .inl h) fun _ _ h => h.elim
       have hdf : Dig s' D ⟨d.st, d.w' b, d.n + d.k b⟩ := by rw [← hs']; exact hde.same rfl rfl
       have hvf : Bn s' v1 (b.drop (d.k b)) := by rw [← hs']; exact hve.same rfl rfl
       clear hs' hr1 hr2 hm1 m1 n1 m1' n1' x1
       have hr : (Sha.next d.st fun j => (d.w' b).getD j 0).Ok := Sha.plus_ok _ _
       have hst : d.step b = ⟨Sha.next d.st fun j => (d.w' b).getD j 0, d.w' b, d.n + d.k b⟩ := by unfold DS.step; rw [if_pos hfull]
       generalize (Sha.next d.st fun j => (d.w' b).getD j 0) = r at hr hst ⊢
       refine W.store Ik rfl rfl (fun i hi => ⟨_, by rw [show 0 + 1 + i = 1 + i by omega]; exact hdf.st i _ (List.getElem?_eq_getElem hi)⟩) fun sf nf xf rf => ?_
       have hxf : Ext (DigF D v0) (In D 0 74) s0 sf := hx'.trans xf hb0 (fun x _ h => .inl ⟨by have := h.1; omega, by have := h.2; omega⟩) fun x _ h => ⟨by have := h.1; omega, by have := h.2; omega⟩
       have hdg : Dig sf D ⟨r, d.w' b, d.n + d.k b⟩ := hdf.setSt hr xf rf
       have hvg : Bn sf v1 (b.drop (d.k b)) := hvf.ext xf fun x hx' h => hdisb x (hF1 x hx') ⟨by have := h.1; omega, by have := h.2; omega⟩
       refine ih _ _ _ _ ⟨r, d.w' b, d.n + d.k b⟩ (b.drop (d.k b)) v1 hlen1 (by omega) Bg_ hxf hdg hmax1 (fun _ => hvg) hvg.bs hby1 (fun x hx' => hv x (hF1 x hx')) (by simp [T.get_set, h0]) (by simp [T.get_set]) fun s1 x1 d1 => q s1 x1 ?_
       unfold DS.write
       rw [if_neg hbe, hst]
       exact d1
     · refine W.cond (v := false) UA Tf (by simp [T.get_set]; omega) (by omega) (fun h => by cases h) fun _ => ?_
       refine ih _ _ _ _ ⟨d.st, d.w' b, d.n + d.k b⟩ (b.drop (d.k b)) v1 hlen1 (by omega) Ep_ hxe hde hmax1 (fun _ => hve) hve.bs hby1 (fun x hx' => hv x (hF1 x hx')) (by simp [T.get_set, h0]) (by simp [T.get_set]) fun s1 x1 d1 => q s1 x1 ?_
       have : d.step b = ⟨d.st, d.w' b, d.n + d.k b⟩ := by unfold DS.step; rw [if_neg hfull]
       unfold DS.write
       rw [if_neg hbe, this]
       exact d1
theorem RI {D n:Nat}{v:Value}{Q:Value→St→Prop}{s:St}{d:DS}{b:List Nat}(hbd:s.lim≤s.next)(hdis: ∀x,BsF v x→ ¬In D 0 74 x)(hd:Dig s D d)(hmax:d.n+b.length≤1000000000)(hbn:b≠[]→Bn s v b)(hbs:Bs s v b)(hbyt:Byt b)(hn:20*b.length+100≤n)
  (q: ∀s1,Ext (DigF D v) (In D 0 74) s s1→Dig s1 D (DS.write b.length d b)→Q (.tuple #[]) s1):W (AJ envS (runF envS n) 111 [.pointer (some ⟨D,0,none⟩),v]) s Q:=by
 refine Rg_ fun tm h0 h1=> ?_
 have hd':Dig (s.cxN cxN) D d:=hd.same rfl rfl
 refine CX_.w rfl (by omega) ?_
 simp -implicitDefEqProofs only[Sf,Ac,W_oS,W_on,Ab,W_mv,Ad,reduceIte,An,Av,Aw,Ax,Au,Ao,reduceCtorEq, ↓reduceIte,h0,YN AA_,Dx Y5 (by decide:0<1)]
 refine W.load1 Xy hd'.made.at' ?_
 simp -implicitDefEqProofs only[Y6]
 refine W.cond (v:=false) FM_ Bs_ (by simp[T.get_set]) (by omega) (fun h=>by cases h) fun _=> ?_
 refine LB_ (s0:=s.cxN cxN) (v0:=v) hbd rfl hdis b.length _ _ _ _ d b v (Nat.le_refl _) (by omega) Mb_ (Ext.rdN (F:=DigF D v) _ _ fun _=> .inl ⟨by omega,by omega⟩) (hd'.same rfl rfl) hmax (fun h=>(hbn h).same rfl rfl) (hbs.same rfl rfl) hbyt (fun x h=>h) (by simp[T.get_set,h0]) (by simp[T.get_set,h1]) fun s1 x1 d1=>q _ x1.cx' (d1.same rfl rfl)
theorem Wy_:D9 envS 163=some (List.replicate 8 (.int .u32 0)):=by kernel_rfl
theorem Oz_ (r:Sha.St8):EC envS 167 [(0, .bool true),(1, .agg (st8V r))]=some (.bool true::((st8V r).toList++(u8l (List.replicate 64 0)++[.int .i64 ((0:Nat):Int)]))):=by kernel_rfl
theorem Mv_:EC envS 163 [(0, .int .u32 1779033703),(1, .int .u32 3144134277),(2, .int .u32 1013904242),(3, .int .u32 2773480762),(4, .int .u32 1359893119),(5, .int .u32 2600822924),(6, .int .u32 528734635),(7, .int .u32 1541459225)]=some (st8V De).toList:=by kernel_rfl
theorem Un_ {n:Nat}{s:St}{Q:Value→St→Prop}(hbd:s.lim≤s.next)(hn:10≤n)(q: ∀s1,Ext Non Non s s1→Q (.agg (st8V De)) s1):W (AJ envS (runF envS n) 133 []) s Q:=by
 refine EB_ fun tm=> ?_
 refine Of_.w rfl (by omega) ?_
 simp -implicitDefEqProofs only[SG,Ac,Ab,Ad]
 refine W.alloc Wy_ fun sa na xa oa=> ?_
 refine Nk_.w QB_ (by omega) ?_
 simp -implicitDefEqProofs only[WU,Ac,W_oS,Ab,T.get_set,Aq,Ap,Ae,reduceIte, ↓reduceIte,Ej Mv_]
 refine W.store Ik rfl rfl (fun i hi=>⟨.int .u32 0,by rw[Nat.zero_add];have:=oa i (.int .u32 0) (by rw[List.getElem?_replicate];rw[if_pos hi]);rw[Nat.zero_add]at this;exact this⟩) fun sb nb xb ob=> ?_
 refine W.endC (r:=0) (t:=163) Ke_ (.inl OB_) (by omega) RC EF_ (xb.cx.trans xa.cx) (by simp[T.get_set];rfl) ?_
 refine W.loadA Ik ob.row rfl fun sc mc nc xc=> ?_
 have x:Ext Non Non s (sc.cxN s.cx):=((xa.trans xb hbd (fun x h g=>by have g1:s.next+0≤x:=g.1;have h1:x<s.lim:=h;omega) fun x h g=>by have g1:s.next+0≤x:=g.1;have h1:x<s.next:=h;omega).trans xc hbd (fun x h g=>by have g1:s.next+0≤x:=g.1;have h1:x<s.lim:=h;omega) fun x h g=>g.elim).cx'
 exact q _ x
def DS.new:DS:=⟨De,List.replicate 64 0,0⟩
theorem Kr_ {n:Nat}{s:St}{Q:Value→St→Prop}(hbd:s.lim≤s.next)(hn:30≤n)(q: ∀s1 D,s.next≤D→D+74≤s1.next→Ext Non Non s s1→Dig s1 D DS.new→Q (.pointer (some ⟨D,0,none⟩)) s1):W (AJ envS (runF envS n) 110 []) s Q:=by
 refine KX_ fun tm=> ?_
 refine Ma_.w rfl (by omega) ?_
 simp -implicitDefEqProofs only[Uk,Ab,W_mv,Ad]
 refine BP_.w OX_ (by omega) ?_
 simp -implicitDefEqProofs only[Xo,Ac,W_oS,W_on,Ab,W_mv,Ad,Af,Aq,Ap,Ae,Ak]
 refine Un_ (s:=s.cxN cxN) hbd (by omega) fun sa xa=> ?_
 simp -implicitDefEqProofs only[Ej (Oz_ De)]
 refine W.box fun sb nb xb ob=> ?_
 refine W.end' (rs:=[0]) (vs:=[.pointer (some ⟨sa.next,0,none⟩)]) SP_ (.inl DN_) (by omega) YQ Pq_ (xb.cx.trans xa.cx) (by simp[T.get_set]) ?_
 have hx:Ext Non Non s (sb.cxN s.cx):=(xa.trans xb hbd (fun x h g=>g) fun x h g=>g).cx'
 have ob':Ah (sb.cxN s.cx) sa.next 0 (.bool true::((st8V De).toList++(u8l (List.replicate 64 0)++[.int .i64 ((0:Nat):Int)]))):=fun i v e=>(ob i v e).same rfl rfl
 refine q _ sa.next xa.nxt ?_ hx ⟨?_, ?_, ?_, ?_,rfl, ?_,Xv⟩
 ·have h:(sb.cxN s.cx).next=sa.next+74+1:=nb
  omega
 ·exact ob' 0 _ rfl
 ·intro i v e
  have e:(st8V De).toList[i]?=some v:=e
  have hi:=(List.getElem?_eq_some_iff.1 e).1
  have:=ob' (1+i) v (by rw[Nat.add_comm,List.getElem?_cons_succ,List.getElem?_append_left hi];exact e)
  rw[Nat.zero_add]at this
  exact this
 ·intro i v e
  have e:(u8l (List.replicate 64 0))[i]?=some v:=e
  have hi:=(List.getElem?_eq_some_iff.1 e).1
  have:=ob' (9+i) v (by rw[show 9+i=(8+i)+1 by omega,List.getElem?_cons_succ,List.getElem?_append_right (by rw[DK];omega),DK,show 8+i-8=i by omega,List.getElem?_append_left hi];exact e)
  rw[Nat.zero_add]at this
  exact this
 ·exact ob' 73 _ rfl
 ·intro x hx
  have hx:x∈List.replicate 64 0:=hx
  rw[List.mem_replicate]at hx
  omega
theorem KG:hasT envS 3=true:=by kernel_rfl
def tl8 (N:Nat):Nat→List Nat
 |0=>[]
 |k+1=>(N>>>(8*k))%256::tl8 N k
theorem Oq (N:Nat): ∀k,(tl8 N k).length=k
 |0=>rfl
 |k+1=>by unfold tl8;rw[List.length_cons,Oq N k]
theorem OH (N:Nat): ∀k,Byt (tl8 N k)
 |0=>fun x hx=>by cases hx
 |k+1=>fun x hx=>by
  unfold tl8 at hx
  rcases List.mem_cons.1 hx with rfl|hx
  ·exact Nat.mod_lt _ (by decide)
  ·exact OH N k x hx
abbrev PadF (D B:Nat):Nat→Prop:=fun x=>In D 0 74 x∨In B 0 80 x
theorem Ik_ {D B:Nat}{a2 a3 a4:Value}{d:DS}{Q:Value×FrameMode→St→Prop}{s0:St}(hmax:8*d.n≤9223372036854775807)(hb0:s0.lim≤s0.next)(hdis:D+74≤B∨B+80≤D)(hB:B+80≤s0.next): ∀(k n:Nat) (tm:T Value) (s:St) (td:List Item) (p:List Nat),k≤8→10*k+20≤n→skim 64 td=FM→Ext (PadF D B) (In B 0 80) s0 s→Dig s D d→Ah s B 0 (u8l p)→Bb s B 0 80→p.length+k≤80→
  T.get tm 0=some (.pointer (some ⟨D,0,none⟩))→T.get tm 2=some a2→T.get tm 3=some a3→T.get tm 4=some a4→T.get tm 5=some (.slice (some ⟨B,0,none⟩) p.length 80)→T.get tm 6=some (.int .i64 (8*((k:Nat):Int)-8))→
  (∀n' tm' s1 td',n≤n'+10*k+5→skim 64 td'=Iu→Ext (PadF D B) (In B 0 80) s0 s1→Dig s1 D d→Ah s1 B 0 (u8l (p++tl8 (8*d.n) k))→T.get tm' 0=some (.pointer (some ⟨D,0,none⟩))→T.get tm' 2=some a2→T.get tm' 3=some a3→T.get tm' 4=some a4→T.get tm' 5=some (.slice (some ⟨B,0,none⟩) (p.length+k) 80)→W (runF envS n' ⟨112,GY,B0,tm',td', .run, .normal,none⟩) s1 Q)→
  W (runF envS n ⟨112,GY,B0,tm,td, .run, .normal,none⟩) s Q:=by
 intro k
 induction k with
 |zero=>
  intro n tm s td p hk hn hT hx hd ho hw hl h0 h2 h3 h4 h5 h6 q
  refine U9.w hT (by omega) ?_
  simp -implicitDefEqProofs only[OI,Ac,W_oS,Ab,W_mv,Ad,Bj,h6]
  refine W.cond (v:=false) Uj XY (by simp[T.get_set]) (by omega) (fun h=>by cases h) fun _=> ?_
  refine q _ _ _ _ (by omega) Fs_ hx hd ?_ (by simp[T.get_set,h0]) (by simp[T.get_set,h2]) (by simp[T.get_set,h3]) (by simp[T.get_set,h4]) (by simp[T.get_set,h5])
  rw[show tl8 (8*d.n) 0=[]from rfl,List.append_nil]
  exact ho
 |succ k ih=>
  intro n tm s td p hk hn hT hx hd ho hw hl h0 h2 h3 h4 h5 h6 q
  have ec:(8*((k+1:Nat):Int)-8)=((8*k:Nat):Int):=by omega
  rw[ec]at h6
  refine U9.w hT (by omega) ?_
  simp -implicitDefEqProofs only[OI,Ac,W_oS,Ab,W_mv,Ad,Bj,h6]
  refine W.cond (v:=true) Uj XY (by simp[T.get_set];omega) (by omega) (fun _=> ?_) fun h=>by cases h
  refine Lt_.w Vu_ (by omega) ?_
  simp -implicitDefEqProofs only[Vz,Ac,W_oS,Ab,W_mv,Ad,T.get_set,Ag,Af,Aq,Ap,Ae,reduceIte,Ao,Nat.reduceEqDiff,reduceCtorEq, ↓reduceIte,h0,h5,h6,Dx KI (by decide:0<1)]
  refine W.load1 H5 hd.n.at' ?_
  have hxa:Ext (PadF D B) (In B 0 80) s0 (s.rdN (D+(0+73))):=hx.trans (Ext.rdN (F:=PadF D B) s _ fun _=> .inl ⟨by omega,by omega⟩) hb0 (fun _ _ h=>h) fun _ _ h=>h
  have hda:Dig (s.rdN (D+(0+73))) D d:=hd.same rfl rfl
  have hoa:Ah (s.rdN (D+(0+73))) B 0 (u8l p):=fun i v e=>(ho i v e).same rfl rfl
  have hwa:Bb (s.rdN (D+(0+73))) B 0 80:=fun j hj=>let ⟨u,h⟩:=hw j hj;⟨u,h.same rfl rfl⟩
  generalize s.rdN (D+(0+73))=sa at hxa hda hoa hwa ⊢
  simp -implicitDefEqProofs only[Ll hmax,EO (k:= .i64) (kk:= .i64) (n:=8*k) (show 8*k≤64 by omega),Da KG Dp,wrap_u8]
  have hba:sa.lim≤sa.next:=hxa.bnd hb0
  refine W.buildS hba (r:=u8l [(8*d.n)>>>(8*k)%256]) CK (by decide) rfl (Bt (by decide)) fun sb nb xb rb=> ?_
  have hxb:Ext (PadF D B) (In B 0 80) s0 sb:=hxa.trans xb hb0 (fun _ _ h=>h.elim) fun _ _ h=>h.elim
  have hBs:Bs sb (.slice (some ⟨sa.next,0,none⟩) 1 1) [(8*d.n)>>>(8*k)%256]:=Ah.bn rb (Bt (by simp))
  have hob:Ah sb B 0 (u8l p):=hoa.ext0 xb
  have hwb:Bb sb B 0 80:=fun j hj=>let ⟨u,h⟩:=hwa j hj;⟨u,h.ext0 xb⟩
  simp -implicitDefEqProofs only[Jp]
  refine W.appIn (n:=1) Lr hBs.src.g (by rw[Nat.mod_eq_of_lt (Bt (by decide))];omega) rfl (BY _) (fun i hi=> ?_) fun sc nc xc rc=> ?_
  ·have:=hwb (p.length+i) (by omega)
   rw[show 0+p.length*1+i=0+(p.length+i) by omega]
   exact this
  have sub: ∀x,In B (0+p.length*1) (1*1) x→In B 0 80 x:=fun x h=>⟨by have:=h.1;omega,by
   have h4:x<B+(0+p.length*1)+1*1:=h.2
   omega⟩
  have nod: ∀i,i<74→ ¬In B (0+p.length*1) (1*1) (D+i):=fun i hi h=>by
   have h3:B+(0+p.length*1)≤D+i:=h.1
   have h4:D+i<B+(0+p.length*1)+1*1:=h.2
   omega
  have hxc:Ext (PadF D B) (In B 0 80) s0 sc:=hxb.trans xc hb0 (fun x hx' h=>by
   rcases h with h|h
   ·have h1:sa.next+0≤x:=h.1
    have h2:=hxa.nxt
    omega
   ·exact .inr (sub x h)) fun x _ h=>sub x h
  have hdc:Dig sc D d:=⟨hda.made.ext0 xb |>.ext xc (nod 0 (by decide)),(hda.st.ext0 xb).ext xc fun i hi=>nod (1+i) (by rw[DK]at hi;omega),(hda.w.ext0 xb).ext xc fun i hi=>nod (9+i) (by rw[Be,hda.len]at hi;omega),(hda.n.ext0 xb).ext xc (nod 73 (by decide)),hda.len,hda.byt,hda.ok⟩
  have hoc:Ah sc B 0 (u8l (p++[(8*d.n)>>>(8*k)%256])):=by
   have e:u8l (p++[(8*d.n)>>>(8*k)%256])=u8l p++u8l [(8*d.n)>>>(8*k)%256]:=List.map_append
   rw[e]
   refine Ah.append (hob.ext xc fun i hi h=> ?_) ?_
   ·rw[Be]at hi
    have h1:B+(0+p.length*1)≤B+(0+i):=h.1
    omega
   ·rw[Be,show 0+p.length=0+p.length*1 by omega]
    exact rc
  have hwc:Bb sc B 0 80:=hwb.ext xc rc
  have hlp:(p++[(8*d.n)>>>(8*k)%256]).length=p.length+1:=by simp
  refine Ba_.w RW_ (by omega) ?_
  have e8:wrap64 (((8*k:Nat):Int)-8)=8*((k:Nat):Int)-8:=by
   rw[BB (by omega) (by omega)];omega
  simp -implicitDefEqProofs only[V3,Ac,W_oS,Ab,W_mv,Ad,T.get_set,reduceIte,Nat.reduceEqDiff, ↓reduceIte,Bd,h6,e8]
  refine ih _ _ sc _ (p++[(8*d.n)>>>(8*k)%256]) (by omega) (by omega) Fe_ hxc hdc hoc hwc (by omega) (by simp[T.get_set,h0]) (by simp[T.get_set,h2]) (by simp[T.get_set,h3]) (by simp[T.get_set,h4]) (by simp[T.get_set]) (by simp[T.get_set]) fun n' tm' s1 td' e1 e2 e3 e4 e5 e6 e7 e8 e9 e10=>q n' tm' s1 td' (by omega) e2 e3 e4 ?_ e6 e7 e8 e9 ?_
  ·rw[List.append_assoc]at e5
   exact e5
  ·rw[hlp]at e10
   rw[e10,show p.length+1+k=p.length+(k+1) by omega]
theorem LO:arrN envS 101=some (32,1):=by kernel_rfl
theorem Bv_:arrU envS 163=some 8:=by kernel_rfl
def be4 (x:Nat):List Nat:=[x>>>24%256,x>>>16%256,x>>>8%256,x%256]
def outs:List Nat→List Nat
 |[]=>[]
 |x::l=>be4 x++outs l
theorem Lb: ∀l:List Nat,(outs l).length=4*l.length
 |[]=>rfl
 |x::l=>by
  unfold outs
  rw[List.length_append,Lb l,List.length_cons]
  show 4+_=_
  omega
theorem VU (x:Nat): ∀l:List Nat,outs (l++[x])=outs l++be4 x
 |[]=>by show be4 x++[]=_;rw[List.append_nil];rfl
 |y::l=>by
  show be4 y++outs (l++[x])=(be4 y++outs l)++be4 x
  rw[VU x l,List.append_assoc]
theorem Jg_ {O:Nat}{a2:Value}{cs:Array Value}{l:List Nat}(hl8:l.length=8)(hcs: ∀i (h:i<l.length),cs.toList[i]?=some (.int .u32 (l[i]:Nat))){Q:Value×FrameMode→St→Prop}{s0:St}(hb0:s0.lim≤s0.next): ∀(k i n:Nat) (tm:T Value) (s:St) (td:List Item),i+k=8→10*k+20≤n→skim 64 td=Gr→Ext (In O 0 32) (In O 0 32) s0 s→Ah s O 0 (u8l (outs (l.take i)))→Bb s O 0 32→
  T.get tm 2=some a2→T.get tm 3=some (.pointer (some ⟨O,0,none⟩))→T.get tm 51=some (.agg cs)→T.get tm 52=some (.int .i64 (i:Nat))→
  (∀n' tm' s1 td',n≤n'+10*k+5→skim 64 td'=IZ→Ext (In O 0 32) (In O 0 32) s0 s1→Ah s1 O 0 (u8l (outs l))→T.get tm' 2=some a2→T.get tm' 3=some (.pointer (some ⟨O,0,none⟩))→W (runF envS n' ⟨112,GY,B0,tm',td', .run, .normal,none⟩) s1 Q)→
  W (runF envS n ⟨112,GY,B0,tm,td, .run, .normal,none⟩) s Q:=by
 intro k
 induction k with
 |zero=>
  intro i n tm s td hi hn hT hx ho hw h2 h3 h51 h52 q
  refine TX.w hT (by omega) ?_
  simp -implicitDefEqProofs only[Rf,Ac,W_oS,Ab,Ad,h52,show(8:Int)=((8:Nat):Int)from rfl]
  simp -implicitDefEqProofs only[A8]
  refine W.cond (v:=false) Xr Zs (by simp[T.get_set];omega) (by omega) (fun h=>by cases h) fun _=> ?_
  rw[show i=l.length by omega,List.take_length]at ho
  exact q _ _ _ _ (by omega) MH_ hx ho (by simp[T.get_set,h2]) (by simp[T.get_set,h3])
 |succ k ih=>
  intro i n tm s td hi hn hT hx ho hw h2 h3 h51 h52 q
  have hil:i<l.length:=by omega
  refine TX.w hT (by omega) ?_
  simp -implicitDefEqProofs only[Rf,Ac,W_oS,Ab,Ad,h52]
  simp -implicitDefEqProofs only[A8]
  refine W.cond (v:=true) Xr Zs (by simp[T.get_set];omega) (by omega) (fun _=> ?_) fun h=>by cases h
  refine Cs_.w Nb_ (by omega) ?_
  simp -implicitDefEqProofs only[Su,Ac,W_oS,Ab,W_mv,Ad,T.get_set,reduceIte,Nat.reduceEqDiff, ↓reduceIte,h51,h52,Jd_ Bv_ (show i<8 by omega) (hcs i hil)]
  refine Gy_.w UH_ (by omega) ?_
  generalize hxe:l[i]=x
  simp -implicitDefEqProofs only[AE_,Ac,W_oS,W_on,Ab,W_mv,T.get_set,Ag,Af,Aq,Ap,Ae,reduceIte,Nat.reduceEqDiff, ↓reduceIte,h3,Zb (show 4*i≤9223372036854775807 by omega),Fc (lo:=some (.int .i64 ((4*i:Nat):Int))) (hi:=none) (l:=4*i) (h:=32) LO (Bt (by decide)) rfl rfl (by omega) (Nat.le_refl _)]
  rw[if_neg (by omega)]
  simp -implicitDefEqProofs only[Da G6 Dp,wrap_u8,Hm (k:= .u32) (by decide),Pp (k:= .u32) (by decide),QD (k:= .u32) (by decide)]
  have hba:s.lim≤s.next:=hx.bnd hb0
  refine W.buildS hba (r:=u8l (be4 x)) CK (by decide) rfl (Bt (by decide)) fun sb nb xb rb=> ?_
  have hxb:Ext (In O 0 32) (In O 0 32) s0 sb:=hx.trans xb hb0 (fun _ _ h=>h.elim) fun _ _ h=>h.elim
  have hBs:Bs sb (.slice (some ⟨s.next,0,none⟩) 4 4) (be4 x):=Ah.bn rb (Bt (by simp[be4]))
  have hob:Ah sb O 0 (u8l (outs (l.take i))):=ho.ext0 xb
  have hwb:Bb sb O 0 32:=fun j hj=>let ⟨u,h⟩:=hw j hj;⟨u,h.ext0 xb⟩
  refine W.copy (k:=4) (l:=u8l (be4 x)) CK (Nat.min_eq_right (show 4≤32-4*i by omega)).symm (hBs.srcK (k:=4) (Nat.le_refl _)) rfl (BY _) (fun j hj=> ?_) fun sc nc xc rc=> ?_
  ·have:=hwb (4*i+j) (by omega)
   rw[show 0+4*i*1+j=0+(4*i+j) by omega]
   exact this
  have sub: ∀y,In O (0+4*i*1) (4*1) y→In O 0 32 y:=fun y h=>⟨by have:=h.1;omega,by
   have h4:y<O+(0+4*i*1)+4*1:=h.2
   omega⟩
  have hxc:Ext (In O 0 32) (In O 0 32) s0 sc:=hxb.trans xc hb0 (fun y hy h=>by
   rcases h with h|h
   ·have h1:s.next+0≤y:=h.1
    have h2:=hx.nxt
    omega
   ·exact sub y h) fun y _ h=>sub y h
  have hlt:(outs (l.take i)).length=4*i:=by rw[Lb,List.length_take];omega
  have hoc:Ah sc O 0 (u8l (outs (l.take (i+1)))):=by
   have e:u8l (outs (l.take (i+1)))=u8l (outs (l.take i))++u8l (be4 x):=by
    rw[List.take_add_one,List.getElem?_eq_getElem hil,hxe]
    show u8l (outs (l.take i++[x]))=_
    rw[VU]
    exact List.map_append
   rw[e]
   refine Ah.append (hob.ext xc fun j hj h=> ?_) ?_
   ·rw[Be,hlt]at hj
    have h1:O+(0+4*i*1)≤O+(0+j):=h.1
    omega
   ·rw[Be,hlt,show 0+4*i=0+4*i*1 by omega]
    exact rc
  have hwc:Bb sc O 0 32:=hwb.ext xc rc
  refine Gu_.w Ld_ (by omega) ?_
  have ei:wrap64 ((i:Nat)+1:Int)=((i+1:Nat):Int):=by
   rw[BB (by omega) (by omega)];simp
  simp -implicitDefEqProofs only[R0,Ac,W_oS,Ab,W_mv,Ad,T.get_set,reduceIte,Nat.reduceEqDiff, ↓reduceIte,A7,h52,ei]
  exact ih (i+1) _ _ sc _ (by omega) (by omega) DO_ hxc hoc hwc (by simp[T.get_set,h2]) (by simp[T.get_set,h3]) (by simp[T.get_set,h51]) (by simp[T.get_set]) fun n' tm' s1 td' e1=>q n' tm' s1 td' (by omega)
theorem R4:tyS envS 167=some (74,true):=by kernel_rfl
theorem Rc_:D9 envS 167=some (.bool false::(List.replicate 8 (.int .u32 0)++(List.replicate 64 (.int .u8 0)++[.int .i64 0]))):=by kernel_rfl
theorem DQ:tyS envS 101=some (32,true):=by kernel_rfl
theorem FF:D9 envS 101=some (List.replicate 32 (.int .u8 0)):=by kernel_rfl
def DS.row (d:DS):List Value:= .bool true::((st8V d.st).toList++(u8l d.w++[.int .i64 (d.n:Nat)]))
theorem DS.row_len (d:DS)(h:d.w.length=64):d.row.length=74:=by
 unfold DS.row
 rw[List.length_cons,List.length_append,DK,List.length_append,Be,h]
 rfl
theorem DS.row_one (d:DS):d.row.all oneCell=true:=by
 have h1:(st8V d.st).toList.all oneCell=true:=rfl
 unfold DS.row
 rw[List.all_cons,List.all_append,List.all_append,BY,h1]
 rfl
theorem Ah.app_l {s:St}{b o:Nat}{l l':List Value}(h:Ah s b o (l++l')):Ah s b o l:=fun i v e=>h i v (by rw[List.getElem?_append_left (List.getElem?_eq_some_iff.1 e).1];exact e)
theorem Ah.app_r {s:St}{b o:Nat}{l l':List Value}(h:Ah s b o (l++l')):Ah s b (o+l.length) l':=fun i v e=>by
 have:=h (l.length+i) v (by rw[List.getElem?_append_right (by omega),show l.length+i-l.length=i by omega];exact e)
 rw[←Nat.add_assoc]at this
 exact this
theorem Ah.cons_l {s:St}{b o:Nat}{v:Value}{l:List Value}(h:Ah s b o (v::l)):Own s b o v:=h 0 v rfl
theorem Ah.cons_r {s:St}{b o:Nat}{v:Value}{l:List Value}(h:Ah s b o (v::l)):Ah s b (o+1) l:=fun i x e=>by
 have:=h (i+1) x (by simpa using e)
 rw[show o+1+i=o+(i+1) by omega]
 exact this
theorem Ah.cons {s:St}{b o:Nat}{v:Value}{l:List Value}(h:Own s b o v)(k:Ah s b (o+1) l):Ah s b o (v::l):=fun i x e=>by
 cases i with
 |zero=>simp at e;subst e;exact h
 |succ i=>
  have:=k i x (by simpa using e)
  rw[show o+(i+1)=o+1+i by omega]
  exact this
theorem Ah.nil {s:St}{b o:Nat}:Ah s b o []:=fun i x e=>by simp at e
theorem Dig.toRow {s:St}{D:Nat}{d:DS}(h:Dig s D d):Ah s D 0 d.row:=by
 unfold DS.row
 refine Ah.cons h.made (Ah.append h.st (Ah.append ?_ ?_))
 ·rw[DK];exact h.w
 ·rw[DK,Be,h.len]
  exact Ah.cons h.n .nil
theorem Dig.ofRow {s:St}{D:Nat}{d:DS}(h:Ah s D 0 d.row)(h1:d.w.length=64)(h2:Byt d.w)(h3:d.st.Ok):Dig s D d:=by
 unfold DS.row at h
 have h4:=h.cons_r
 have h5:=h4.app_r
 have h6:=h5.app_r
 rw[DK]at h5
 rw[DK,Be,h1]at h6
 exact⟨h.cons_l,h4.app_l,h5.app_l,h6.cons_l,h1,h2,h3⟩
def DS.pad0 (d:DS):List Nat:=128::List.replicate ((119-d.n%64)%64) 0
def DS.pad (d:DS):List Nat:=d.pad0++tl8 (8*d.n) 8
def DS.fin (d:DS):DS:=DS.write d.pad.length d d.pad
def st8L (r:Sha.St8):List Nat:=[r.a,r.b,r.c,r.d,r.e,r.f,r.g,r.h]
def DS.sum (d:DS):List Nat:=outs (st8L d.fin.st)
theorem DS.pad0_len (d:DS):d.pad0.length=(119-d.n%64)%64+1:=by unfold DS.pad0;rw[List.length_cons,List.length_replicate]
theorem DS.pad0_byt (d:DS):Byt d.pad0:=fun x hx=>by
 unfold DS.pad0 at hx
 rcases List.mem_cons.1 hx with rfl|hx
 ·decide
 ·rw[List.mem_replicate]at hx;omega
theorem DS.pad_byt (d:DS):Byt d.pad:=fun x hx=>by
 rcases List.mem_append.1 hx with hx|hx
 ·exact d.pad0_byt x hx
 ·exact OH _ _ x hx
theorem DS.sum_len (d:DS):d.sum.length=32:=Lb _
theorem Tx: ∀l:List Nat,Byt (outs l)
 |[]=>fun x hx=>by cases hx
 |y::l=>fun x hx=>by
  rcases List.mem_append.1 hx with hx|hx
  ·simp -implicitDefEqProofs only[be4,List.mem_cons,List.not_mem_nil,or_false]at hx
   omega
  ·exact Tx l x hx
theorem Ls_ (r:Sha.St8)(i:Nat)(h:i<(st8L r).length):(st8V r).toList[i]?=some (.int .u32 ((st8L r)[i]:Nat)):=by
 have h8:i<8:=h
 match i,h8 with
 |0,_=>rfl
 |1,_=>rfl
 |2,_=>rfl
 |3,_=>rfl
 |4,_=>rfl
 |5,_=>rfl
 |6,_=>rfl
 |7,_=>rfl
theorem DV_ {C O2 O3 n:Nat}{d:DS}{tm:T Value}{td:List Item}{s:St}{Q:Value×FrameMode→St→Prop}(hb:s.lim≤s.next)(hcx:s.cx= .cx none (some []))(h23:O2+32≤O3)(hd:Dig s C d)(ho3:Bb s O3 0 32)(ho2:Bb s O2 0 32)(hn:120≤n)(hT:skim 64 td=I7)
  (h2:T.get tm 2=some (.pointer (some ⟨O2,0,none⟩))) (h3:T.get tm 3=some (.pointer (some ⟨O3,0,none⟩))) (h4:T.get tm 4=some (.pointer (some ⟨C,0,none⟩)))
  (q: ∀s1,Ext (fun x=>In C 0 74 x∨In O3 0 32 x∨In O2 0 32 x) (fun x=>In O3 0 32 x∨In O2 0 32 x) s s1→Q (.agg (u8l (outs (st8L d.st))).toArray, .run) s1):W (runF envS n ⟨112,GY,B0,tm,td, .run, .normal,none⟩) s Q:=by
 refine Ly_.w hT (by omega) ?_
 simp -implicitDefEqProofs only[Sv,Ac,W_oS,Ab,W_mv,Ad,h4,Dx NZ (by decide:0<8)]
 refine W.loadA Ik hd.st.row (DK _) fun sa ma na xa=> ?_
 have hxa:Ext (fun x=>In C 0 74 x∨In O3 0 32 x∨In O2 0 32 x) (fun x=>In O3 0 32 x∨In O2 0 32 x) s sa:=xa.weak hb (fun x _ h=> .inl ⟨by have:=h.1;omega,by have:=h.2;omega⟩) fun _ _ h=>h.elim
 have ho3a:Bb sa O3 0 32:=fun j hj=>let ⟨u,h⟩:=ho3 j hj;⟨u,h.same ma na⟩
 have ho2a:Bb sa O2 0 32:=fun j hj=>let ⟨u,h⟩:=ho2 j hj;⟨u,h.same ma na⟩
 have hba:sa.lim≤sa.next:=xa.bnd hb
 refine Jg_ (l:=st8L d.st) (cs:=(st8V d.st).toList.toArray) rfl (fun i h=>Ls_ d.st i h) hba 8 0 _ _ sa _ rfl (by omega) Ej_ (Ext.refl sa) (fun i v e=>by simp[outs,u8l]at e) ho3a (by simp[T.get_set,h2];rfl) (by simp[T.get_set,h3]) (by simp[T.get_set]) (by simp[T.get_set]) fun n' tm' sb td' e1 e2 xb ob t2 t3=> ?_
 refine MY_.w e2 (by omega) ?_
 simp -implicitDefEqProofs only[Vx,Ac,W_oS,Ab,t2,t3]
 have hxb:=hxa.trans xb hb (fun x _ h=> .inr (.inl h)) fun x _ h=> .inl h
 have hlen:(u8l (outs (st8L d.st))).length=32:=by rw[Be,Lb];rfl
 refine W.loadA DQ ob.row hlen fun sc mc nc xc=> ?_
 have hxc:=hxb.trans xc hb (fun x _ h=> .inr (.inl h)) fun x _ h=>h.elim
 have ho2c:Bb sc O2 0 32:=fun j hj=>by
  obtain⟨u,h⟩:=ho2a j hj
  refine⟨u,(h.ext xb fun h=> ?_).same mc nc⟩
  have h1:O3+0≤O2+(0+j):=h.1
  omega
 refine W.store DQ hlen (BY _) ho2c fun se ne xe oe=> ?_
 have hxe:=hxc.trans xe hb (fun x _ h=> .inr (.inr h)) fun x _ h=> .inr h
 refine W.endC (r:=2) Te_ (.inl QJ_) (by omega) Wo HJ_ (hxe.cx.trans hcx) t2 ?_
 refine W.loadA DQ oe.row hlen fun sf mf nf xf=> ?_
 exact q sf (hxe.trans xf hb (fun x _ h=> .inr (.inr h)) fun x _ h=>h.elim)
theorem Dig.ext {F G:Nat→Prop}{s s':St}{D:Nat}{d:DS}(h:Dig s D d)(e:Ext F G s s')(k: ∀x,In D 0 74 x→ ¬G x):Dig s' D d:=
 ⟨h.made.ext e (k _ ⟨by omega,by omega⟩),h.st.ext e fun i hi=>k _ ⟨by omega,by rw[DK]at hi;omega⟩,h.w.ext e fun i hi=>k _ ⟨by omega,by rw[Be,h.len]at hi;omega⟩,h.n.ext e (k _ ⟨by omega,by omega⟩),h.len,h.byt,h.ok⟩
theorem Bb.ext1 {F G:Nat→Prop}{s s':St}{b o n:Nat}(h:Bb s b o n)(e:Ext F G s s')(k: ∀x,In b o n x→ ¬G x):Bb s' b o n:=fun j hj=>let ⟨u,hu⟩:=h j hj;⟨u,hu.ext e (k _ ⟨by omega,by omega⟩)⟩
theorem Ks_ {E:Env}{t:Nat}{s:St}{sz b o n c:Nat}(h:slN E t=some sz)(hk:0<n)(Q:Value→St→Prop):W (A9 E t (.slice (some ⟨b,o,none⟩) n c) (.int .i64 0)) s Q=Q (.pointer (some ⟨b,o+0*sz,none⟩)) s:=GO (k:=0) h hk Q
abbrev MidF (D O2:Nat):Nat→Prop:=fun x=>In D 0 74 x∨O2≤x
theorem SL_ {D C O2 O3 n:Nat}{d:DS}{tm:T Value}{td:List Item}{s:St}{Q:Value×FrameMode→St→Prop}(hb:s.lim≤s.next)(hcx:s.cx= .cx none (some []))(hmax:d.n≤900000000)(hD2:D+74≤O2)(h23:O2+32≤O3)(h3C:O3+32≤C)(hCn:C+74≤s.next)(hd:Dig s D d)(hc:Dig s C d)(ho3:Bb s O3 0 32)(ho2:Bb s O2 0 32)(hn:2000≤n)(hT:skim 64 td=Jd)
  (h0:T.get tm 0=some (.pointer (some ⟨D,0,none⟩))) (h2:T.get tm 2=some (.pointer (some ⟨O2,0,none⟩))) (h3:T.get tm 3=some (.pointer (some ⟨O3,0,none⟩))) (h4:T.get tm 4=some (.pointer (some ⟨C,0,none⟩)))
  (q: ∀s1,Ext (MidF D O2) (fun x=>O2≤x) s s1→Q (.agg (u8l d.sum).toArray, .run) s1):W (runF envS n ⟨112,GY,B0,tm,td, .run, .normal,none⟩) s Q:=by
 refine Dg_.w hT (by omega) ?_
 simp -implicitDefEqProofs only[Y1,Ac,W_oS,Ab,W_mv,Ad,Ao,h0,Dx KI (by decide:0<1)]
 refine W.load1 H5 hd.n.at' ?_
 have hxa:Ext (MidF D O2) (fun x=>O2≤x) s (s.rdN (D+(0+73))):=Ext.rdN (F:=MidF D O2) s _ fun _=> .inl ⟨by omega,by omega⟩
 have hda:Dig (s.rdN (D+(0+73))) D d:=hd.same rfl rfl
 have hca:Dig (s.rdN (D+(0+73))) C d:=hc.same rfl rfl
 have ho3a:Bb (s.rdN (D+(0+73))) O3 0 32:=fun j hj=>let ⟨u,h⟩:=ho3 j hj;⟨u,h.same rfl rfl⟩
 have ho2a:Bb (s.rdN (D+(0+73))) O2 0 32:=fun j hj=>let ⟨u,h⟩:=ho2 j hj;⟨u,h.same rfl rfl⟩
 have na:(s.rdN (D+(0+73))).next=s.next:=rfl
 generalize s.rdN (D+(0+73))=sa at hxa hda hca ho3a ho2a na ⊢
 have hm:d.n%64<64:=Nat.mod_lt _ (by decide)
 have e1:wrap64 (119-((d.n%64:Nat):Int))=((119-d.n%64:Nat):Int):=by
  rw[BB (by omega) (by omega)];omega
 have e2:wrap64 (1+(((119-d.n%64)%64:Nat):Int))=((d.pad0.length:Nat):Int):=by
  rw[BB (by omega) (by omega),DS.pad0_len];omega
 have hp0:d.pad0.length≤64:=by rw[DS.pad0_len];omega
 simp -implicitDefEqProofs only[A7,Bd,LE,e1,e2]
 have hba:sa.lim≤sa.next:=hxa.bnd hb
 refine W.mkSl (c:=80) CK (by omega) (by decide) fun sb nb xb ob=> ?_
 have hrl:(rep 80 [Value.int .u8 0]).length=80:=by rw[GU];simp
 have hnew:s.next≤sa.next:=hxa.nxt
 have hxb:Ext (MidF D O2) (fun x=>O2≤x) s sb:=hxa.trans xb hb (fun _ _ h=>h.elim) fun _ _ h=>h.elim
 have hdb:Dig sb D d:=hda.ext0 xb
 have hcb:Dig sb C d:=hca.ext0 xb
 have ho3b:Bb sb O3 0 32:=ho3a.ext1 xb fun _ _ h=>h
 have ho2b:Bb sb O2 0 32:=ho2a.ext1 xb fun _ _ h=>h
 have hob:Bb sb sa.next 0 80:=by
  have:=Ah.owned ob
  rw[hrl]at this
  exact this
 have hzb:Ah sb sa.next 0 (List.replicate 80 (.int .u8 0)):=by rw[←GU];exact ob
 clear ob xb hda hca ho3a ho2a
 refine Ln_.w DY_ (by omega) ?_
 simp -implicitDefEqProofs only[Ws,Ac,W_oS,Ab,W_mv,T.get_set,reduceIte, ↓reduceIte,Ks_ BA (show 0<d.pad0.length by rw[DS.pad0_len];omega)]
 obtain⟨u0,hu0⟩:=hob 0 (by omega)
 refine W.store1 DO rfl hu0 fun sc nc xc oc=> ?_
 have sub: ∀x,In sa.next (0+0*1) 1 x→In sa.next 0 80 x:=fun x h=>⟨by have:=h.1;omega,by have:=h.2;omega⟩
 have up: ∀x,In sa.next 0 80 x→O2≤x:=fun x h=>by have:=h.1;omega
 have nod: ∀b m x,b+m≤s.next→In b 0 m x→ ¬In sa.next 0 80 x:=fun b m x hbm h h'=>by
  have g1:=h.2
  have g2:=h'.1
  omega
 have hxc:Ext (MidF D O2) (fun x=>O2≤x) s sc:=hxb.trans xc hb (fun x _ h=> .inr (up x (sub x h))) fun x _ h=>up x (sub x h)
 have hdc:Dig sc D d:=hdb.ext xc fun x h h'=>nod D 74 x (by omega) h (sub x h')
 have hcc:Dig sc C d:=hcb.ext xc fun x h h'=>nod C 74 x (by omega) h (sub x h')
 have ho3c:Bb sc O3 0 32:=ho3b.ext1 xc fun x h h'=>nod O3 32 x (by omega) h (sub x h')
 have ho2c:Bb sc O2 0 32:=ho2b.ext1 xc fun x h h'=>nod O2 32 x (by omega) h (sub x h')
 have hwc:Bb sc sa.next 0 80:=hob.ext (l:=[.int .u8 128]) xc (Ah.cons oc .nil)
 have hpc:Ah sc sa.next 0 (u8l d.pad0):=by
  have e:u8l d.pad0= .int .u8 128::List.replicate ((119-d.n%64)%64) (.int .u8 0):=by
   unfold DS.pad0 u8l
   rw[List.map_cons,List.map_replicate]
   rfl
  rw[e]
  refine Ah.cons oc fun i v hi=> ?_
  rw[List.getElem?_replicate]at hi
  split at hi
  ·rename_i hlt
   cases hi
   have:=hzb (1+i) (.int .u8 0) (by rw[List.getElem?_replicate,if_pos (by omega)])
   rw[←Nat.add_assoc]at this
   refine this.ext xc fun h=> ?_
   have:=h.2
   omega
  ·cases hi
 clear hob hzb hu0 oc
 have hbc:sc.lim≤sc.next:=hxc.bnd hb
 have hBn:sa.next+80≤sc.next:=by
  have h1:sb.next=sa.next+(rep 80 [Value.int .u8 0]).length+1:=nb
  omega
 refine CK_.w KG_ (by omega) ?_
 simp -implicitDefEqProofs only[W7,Ab,W_mv,Ad]
 refine Ik_ (d:=d) (a2:= .pointer (some ⟨O2,0,none⟩)) (a3:= .pointer (some ⟨O3,0,none⟩)) (a4:= .pointer (some ⟨C,0,none⟩)) (by omega) hbc (.inl (show D+74≤sa.next by omega)) hBn 8 _ _ sc _ d.pad0 (Nat.le_refl _) (by omega) Pk_ (Ext.refl sc) hdc hpc hwc (by omega) (by simp[T.get_set,h0]) (by simp[T.get_set,h2]) (by simp[T.get_set,h3]) (by simp[T.get_set,h4]) (by simp[T.get_set]) (by simp[T.get_set]) fun n' tm' sd td' f1 f2 xd hdd hpd t0 t2 t3 t4 t5=> ?_
 have hxd:Ext (MidF D O2) (fun x=>O2≤x) s sd:=hxc.trans xd hb (fun x _ h=>by
  rcases h with h|h
  ·exact .inl h
  ·exact .inr (up x h)) fun x _ h=>up x h
 have hcd:Dig sd C d:=hcc.ext xd fun x h h'=>nod C 74 x (by omega) h h'
 have ho3d:Bb sd O3 0 32:=ho3c.ext1 xd fun x h h'=>nod O3 32 x (by omega) h h'
 have ho2d:Bb sd O2 0 32:=ho2c.ext1 xd fun x h h'=>nod O2 32 x (by omega) h h'
 have hpl:d.pad.length=d.pad0.length+8:=by unfold DS.pad;rw[List.length_append,Oq]
 rw[←hpl]at t5
 have hpd':Ah sd sa.next 0 (u8l d.pad):=hpd
 have hbn:Bn sd (.slice (some ⟨sa.next,0,none⟩) d.pad.length 80) d.pad:=⟨sa.next,0,80,rfl,by rw[Nat.mod_eq_of_lt (Bt (by decide))];omega,D3 (Bt (by decide)),hpd'.row⟩
 have hbd:sd.lim≤sd.next:=hxd.bnd hb
 refine QE_.w f2 (by omega) ?_
 simp -implicitDefEqProofs only[UF,Ac,W_on,Ab,W_mv,Ag,Af,Ae,Ak,t4,t5]
 refine RI hbd (fun x h h'=>nod C 74 x (by omega) h' ⟨h.1,by have:=h.2;omega⟩) hcd (by omega) (fun _=>hbn) hbn.bs d.pad_byt (by omega) fun se xe he=> ?_
 have hxe:Ext (MidF D O2) (fun x=>O2≤x) s se:=hxd.trans xe hb (fun x _ h=>by
  rcases h with h|h
  ·exact .inr (by have:=h.1;omega)
  ·exact .inr (up x ⟨h.1,by have:=h.2;omega⟩)) fun x _ h=>by have:=h.1;omega
 have ho3e:Bb se O3 0 32:=ho3d.ext1 xe fun x h h'=>by have:=h.2;have:=h'.1;omega
 have ho2e:Bb se O2 0 32:=ho2d.ext1 xe fun x h h'=>by have:=h.2;have:=h'.1;omega
 have hbe:se.lim≤se.next:=hxe.bnd hb
 refine DV_ (C:=C) hbe (hxe.cx.trans hcx) h23 he ho3e ho2e (by omega) SR_ t2 t3 t4 fun sf xf=>q sf (hxe.trans xf hb (fun x _ h=> ?_) fun x _ h=> ?_)
 ·rcases h with h|h|h
  ·exact .inr (by have:=h.1;omega)
  ·exact .inr (by have:=h.1;omega)
  ·exact .inr (by have:=h.1;omega)
 ·rcases h with h|h
  ·have:=h.1;omega
  ·have:=h.1;omega
theorem Eg_ {D n:Nat}{d:DS}{s:St}{Q:Value→St→Prop}(hbd:s.lim≤s.next)(hd:Dig s D d)(hmax:d.n≤900000000)(hn:2500≤n)
  (q: ∀s1,Ext (In D 0 74) Non s s1→Q (.agg (u8l d.sum).toArray) s1):W (AJ envS (runF envS n) 112 [.pointer (some ⟨D,0,none⟩)]) s Q:=by
 refine NW_ fun tm h0=> ?_
 have hD:D+73<s.next:=by have:=hd.n.1;omega
 have hd0:Dig (s.cxN cxN) D d:=hd.same rfl rfl
 refine IM_.w rfl (by omega) ?_
 simp -implicitDefEqProofs only[SS,Ac,Ab,Ad]
 refine W.alloc FF fun sa na xa oa=> ?_
 have na':sa.next=s.next+33:=na
 have hxa:Ext (In D 0 74) Non (s.cxN cxN) sa:=(Ext.refl _).step xa hbd (fun _ _ h=>h.elim) fun _ h=>h.elim
 refine NG_.w Oo_ (by omega) ?_
 simp -implicitDefEqProofs only[Wg,Ac,Ab,Ad]
 refine W.alloc FF fun sb nb xb ob=> ?_
 have nb':sb.next=sa.next+33:=nb
 have hxb:Ext (In D 0 74) Non (s.cxN cxN) sb:=hxa.step xb hbd (fun _ _ h=>h.elim) fun _ h=>h.elim
 have hdb:Dig sb D d:=hd0.ext0 hxb
 have ho2:Bb sb s.next 0 32:=(Ah.owned oa).ext1 xb fun _ _ h=>h
 have ho3:Bb sb sa.next 0 32:=Ah.owned ob
 refine Ev_.w Tf_ (by omega) ?_
 simp -implicitDefEqProofs only[Yd,Ac,W_oS,W_on,Ab,W_mv,Ad,T.get_set,reduceIte,An,Av,Aw,Ax,Au,Ao,reduceCtorEq, ↓reduceIte,h0,YN AA_,Dx Y5 (by decide:0<1)]
 refine W.load1 Xy hdb.made.at' ?_
 simp -implicitDefEqProofs only[Y6]
 have hxc:Ext (In D 0 74) Non (s.cxN cxN) (sb.rdN (D+(0+0))):=hxb.step (Ext.rdN (F:=In D 0 74) (G:=Non) sb _ fun _=>⟨by omega,by omega⟩) hbd (fun _ _ h=>h) fun _ h=>h.elim
 have hdc:Dig (sb.rdN (D+(0+0))) D d:=hdb.same rfl rfl
 have ho2c:Bb (sb.rdN (D+(0+0))) s.next 0 32:=fun j hj=>let ⟨u,h⟩:=ho2 j hj;⟨u,h.same rfl rfl⟩
 have ho3c:Bb (sb.rdN (D+(0+0))) sa.next 0 32:=fun j hj=>let ⟨u,h⟩:=ho3 j hj;⟨u,h.same rfl rfl⟩
 have nc:(sb.rdN (D+(0+0))).next=sb.next:=rfl
 refine W.cond (v:=false) Kj_ Jl_ (by simp[T.get_set]) (by omega) (fun h=>by cases h) fun _=> ?_
 generalize sb.rdN (D+(0+0))=sc at hxc hdc ho2c ho3c nc ⊢
 refine KO_.w HM_ (by omega) ?_
 simp -implicitDefEqProofs only[Y3,Ac,W_oS,Ab,W_mv,Ad,T.get_set,reduceIte,Ao,reduceCtorEq, ↓reduceIte,h0]
 refine W.loadA R4 hdc.toRow.row (d.row_len hd.len) fun sd md nd xd=> ?_
 have hxd:Ext (In D 0 74) Non (s.cxN cxN) sd:=hxc.step xd hbd (fun _ _ h=>h) fun _ h=>h.elim
 refine W.alloc Rc_ fun se ne xe oe=> ?_
 have ne':se.next=sd.next+75:=ne
 have hxe:Ext (In D 0 74) Non (s.cxN cxN) se:=hxd.step xe hbd (fun _ _ h=>h.elim) fun _ h=>h.elim
 have hnd:sd.next=sc.next:=nd
 refine W.store R4 (d.row_len hd.len) d.row_one (fun i hi=>oe.owned i (by simp;omega)) fun sf nf xf of=> ?_
 have hnf:sf.next=se.next:=nf
 have hG: ∀x,In sd.next 0 74 x→s.next≤x:=fun x h=>by have:=h.1;omega
 have hxf:Ext (In D 0 74) Non (s.cxN cxN) sf:=hxe.step xf hbd (fun x hx h=>by
  have h1:=hG x h
  have h2:x<s.lim:=hx
  omega) fun x h=>hG x h
 have hbf:sf.lim≤sf.next:=hxf.bnd hbd
 have hcf:Dig sf sd.next d:=Dig.ofRow of hd.len hd.byt hd.ok
 have hdf:Dig sf D d:=hd0.ext0 hxf
 have ho2f:Bb sf s.next 0 32:=((ho2c.ext1 xd fun _ _ h=>h).ext1 xe fun _ _ h=>h).ext1 xf fun x h h'=>by
  have:=h.2
  have:=h'.1
  omega
 have ho3f:Bb sf sa.next 0 32:=((ho3c.ext1 xd fun _ _ h=>h).ext1 xe fun _ _ h=>h).ext1 xf fun x h h'=>by
  have:=h.2
  have:=h'.1
  omega
 refine SL_ (D:=D) (C:=sd.next) (O2:=s.next) (O3:=sa.next) (d:=d) hbf hxf.cx hmax (by omega) (by omega) (by omega) (by omega) hdf hcf ho3f ho2f (by omega) Ka_ (by simp[T.get_set,h0]) (by simp[T.get_set]) (by simp[T.get_set]) (by simp[T.get_set]) fun sg xg=> ?_
 have hxg:Ext (In D 0 74) Non (s.cxN cxN) sg:=hxf.step xg hbd (fun x hx h=>by
  have h2:x<s.lim:=hx
  rcases h with h|h
  ·exact h
  ·omega) fun x h=>h
 exact q _ hxg.cx'
theorem DS.write_n: ∀(f:Nat) (d:DS) (b:List Nat),b.length≤f→(DS.write f d b).n=d.n+b.length
 |0,d,b,h=>by
  have:b.length=0:=by omega
  unfold DS.write
  omega
 |f+1,d,b,h=>by
  unfold DS.write
  by_cases hb:b.length=0
  ·rw[if_pos hb];omega
  ·rw[if_neg hb]
   obtain⟨hk1,hk2⟩:=d.k_le b
   have hm:d.n%64<64:=Nat.mod_lt _ (by decide)
   have hk0:0<d.k b:=by
    unfold DS.k
    exact Nat.lt_min.2 ⟨by omega,by omega⟩
   rw[DS.write_n f _ _ (by rw[List.length_drop];omega),List.length_drop]
   show d.n+d.k b+(b.length-d.k b)=_
   omega
def sumB (b:List Nat):List Nat:=(DS.write b.length DS.new b).sum
theorem EY (b:List Nat):(sumB b).length=32:=DS.sum_len _
theorem Hx_ (b:List Nat):Byt (sumB b):=Tx _
theorem Bs.bn' {s:St}{v:Value}{b:List Nat}(h:Bs s v b)(hb:b≠[]):Bn s v b:=by
 rcases h with⟨_,h⟩|h
 ·exact absurd h hb
 ·exact h
theorem My_ {n:Nat}{v:Value}{b:List Nat}{s:St}{Q:Value→St→Prop}(hbd:s.lim≤s.next)(hbs:Bs s v b)(hlt: ∀x,BsF v x→x<s.next)(hby:Byt b)(hmax:b.length≤900000)(hn:20*b.length+2600≤n)
  (q: ∀s1,Ext (BsF v) Non s s1→Q (.agg (u8l (sumB b)).toArray) s1):W (AJ envS (runF envS n) 73 [v]) s Q:=by
 refine Lw_ fun tm h0=> ?_
 have hbs0:Bs (s.cxN cxN) v b:=hbs.same rfl rfl
 refine RQ_.w rfl (by omega) ?_
 simp -implicitDefEqProofs only[AG_,Ac,Ab,Ad]
 refine W.alloc FF fun sa na xa oa=> ?_
 have na':sa.next=s.next+33:=na
 have hxa:Ext (BsF v) Non (s.cxN cxN) sa:=(Ext.refl _).step xa hbd (fun _ _ h=>h.elim) fun _ h=>h.elim
 refine Pl_.w KQ_ (by omega) ?_
 simp -implicitDefEqProofs only[T8,Ac,W_on,Ab,W_mv,Ad,Af,Ak]
 refine Kr_ (hxa.bnd hbd) (by omega) fun sb D hD1 hD2 xb hd=> ?_
 have hxb:Ext (BsF v) Non (s.cxN cxN) sb:=hxa.step xb hbd (fun _ _ h=>h.elim) fun _ h=>h.elim
 refine CP_.w Wt_ (by omega) ?_
 simp -implicitDefEqProofs only[ZY,Ac,W_on,Ab,W_mv,T.get_set,Ag,Af,Ae,Ak,reduceIte,reduceCtorEq, ↓reduceIte,h0]
 have hbsb:Bs sb v b:=hbs0.ext0 hxb
 refine RI (hxb.bnd hbd) (fun x h h'=>by have:=hlt x h;have:=h'.1;omega) hd (show 0+b.length≤1000000000 by omega) (fun h=>hbsb.bn' h) hbsb hby (by omega) fun sc xc hdc=> ?_
 have hG: ∀x,In D 0 74 x→s.next≤x:=fun x h=>by have:=h.1;omega
 have hxc:Ext (BsF v) Non (s.cxN cxN) sc:=hxb.step xc hbd (fun x hx h=>by
  have h2:x<s.lim:=hx
  rcases h with h|h
  ·have:=hG x h;omega
  ·exact h) fun x h=>hG x h
 have hoc:Bb sc s.next 0 32:=((Ah.owned oa).ext1 xb fun _ _ h=>h).ext1 xc fun x h h'=>by
  have h1:x<s.next+0+32:=h.2
  have:=h'.1
  omega
 refine OF_.w DI_ (by omega) ?_
 simp -implicitDefEqProofs only[Z2,Ac,W_oS,W_on,Ab,W_mv,T.get_set,Ag,Af,Ae,Ak,reduceIte,Nat.reduceEqDiff, ↓reduceIte]
 refine Eg_ (hxc.bnd hbd) hdc (by rw[DS.write_n _ _ _ (Nat.le_refl _)];show 0+b.length≤_;omega) (by omega) fun sd xd=> ?_
 have hxd:Ext (BsF v) Non (s.cxN cxN) sd:=hxc.step xd hbd (fun x hx h=>by
  have h2:x<s.lim:=hx
  have:=hG x h
  omega) fun _ h=>h.elim
 have hod:Bb sd s.next 0 32:=hoc.ext1 xd fun _ _ h=>h
 have hlen:(u8l (DS.write b.length DS.new b).sum).length=32:=by rw[Be];exact DS.sum_len _
 refine W.store DQ hlen (BY _) hod fun se ne xe oe=> ?_
 have hG2: ∀x,In s.next 0 32 x→s.next≤x:=fun x h=>by have:=h.1;omega
 have hxe:Ext (BsF v) Non (s.cxN cxN) se:=hxd.step xe hbd (fun x hx h=>by
  have h2:x<s.lim:=hx
  have:=hG2 x h
  omega) hG2
 refine W.endC (r:=2) RV_ (.inl Wv_) (by omega) Yw LD_ hxe.cx (by simp[T.get_set];rfl) ?_
 refine W.loadA DQ oe.row hlen fun sf mf nf xf=> ?_
 have hxf:Ext (BsF v) Non (s.cxN cxN) sf:=hxe.step xf hbd (fun x hx h=>by
  have h2:x<s.lim:=hx
  have:=hG2 x h
  omega) fun _ h=>h.elim
 exact q _ hxf.cx'
theorem LN_ {E:Env}{t n sz l c:Nat}{a:Addr}{s:St}(h:arrN E t=some (n,sz))(h1:n≤l)(h2:0<l)(Q:Value→St→Prop):W (DY E t (.slice (some a) l c)) s Q=Q (.pointer (some a)) s:=by
 obtain⟨i,e,ie,g1,g2,g3,g4⟩:=Oa h
 refine By ?_
 unfold DY
 rw[Bw (show ti E t s= .some i s by unfold ti;rw[g1];rfl),g2]
 show M.chk (Nat.ble n l&&Nat.blt 0 l) (M.pure (Value.pointer (some a))) s=_
 rw[Nat.ble_eq_true_of_le h1,BU h2]
 rfl
theorem X7:arrN envS 26=some (16,1):=by kernel_rfl
theorem Cg:tyS envS 26=some (16,true):=by kernel_rfl
theorem El:D9 envS 26=some (List.replicate 16 (.int .u8 0)):=by kernel_rfl
def idB (b:List Nat):List Nat:=(sumB b).take 16
theorem CV (b:List Nat):(idB b).length=16:=by unfold idB;rw[List.length_take,EY];rfl
theorem Xm (b:List Nat):Byt (idB b):=fun x hx=>Hx_ b x (List.mem_of_mem_take hx)
theorem It_ {n:Nat}{v:Value}{b:List Nat}{s:St}{Q:Value→St→Prop}(hbd:s.lim≤s.next)(hbs:Bs s v b)(hlt: ∀x,BsF v x→x<s.next)(hby:Byt b)(hmax:b.length≤900000)(hn:20*b.length+2700≤n)
  (q: ∀s1,Ext (BsF v) Non s s1→Q (.agg (u8l (idB b)).toArray) s1):W (AJ envS (runF envS n) 32 [v]) s Q:=by
 refine TY_ fun tm h0=> ?_
 have hbs0:Bs (s.cxN cxN) v b:=hbs.same rfl rfl
 refine LA_.w rfl (by omega) ?_
 simp -implicitDefEqProofs only[TR,Ac,Ab,Ad]
 refine W.alloc El fun sa na xa oa=> ?_
 have na':sa.next=s.next+17:=na
 have hxa:Ext (BsF v) Non (s.cxN cxN) sa:=(Ext.refl _).step xa hbd (fun _ _ h=>h.elim) fun _ h=>h.elim
 refine Ta_.w HW_ (by omega) ?_
 simp -implicitDefEqProofs only[XD,Ac,W_oS,W_on,Ab,W_mv,Ad,T.get_set,Ag,Af,Ae,Ak,reduceIte,reduceCtorEq, ↓reduceIte,h0]
 refine My_ (hxa.bnd hbd) (hbs0.ext0 hxa) (fun x h=>by have:=hlt x h;omega) hby hmax (by omega) fun sb xb=> ?_
 have hxb:Ext (BsF v) Non (s.cxN cxN) sb:=hxa.step xb hbd (fun _ _ h=>h) fun _ h=>h.elim
 refine W.alloc FF fun sc nc xc oc=> ?_
 have hxc:Ext (BsF v) Non (s.cxN cxN) sc:=hxb.step xc hbd (fun _ _ h=>h.elim) fun _ h=>h.elim
 have hbn:sa.next≤sb.next:=xb.nxt
 have hlen:(u8l (sumB b)).length=32:=by rw[Be];exact EY _
 refine W.store DQ hlen (BY _) (fun i hi=>oc.owned i (by simp;omega)) fun sd nd xd od=> ?_
 have hG: ∀x,In sb.next 0 32 x→s.next≤x:=fun x h=>by have:=h.1;omega
 have hxd:Ext (BsF v) Non (s.cxN cxN) sd:=hxc.step xd hbd (fun x hx h=>by
  have h2:x<s.lim:=hx
  have:=hG x h
  omega) hG
 have ho2:Bb sd s.next 0 16:=(((Ah.owned oa).ext1 xb fun _ _ h=>h).ext1 xc fun _ _ h=>h).ext1 xd fun x h h'=>by
  have h1:x<s.next+0+16:=h.2
  have:=h'.1
  omega
 refine GP_.w FW_ (by omega) ?_
 simp -implicitDefEqProofs only[TA,Ac,W_oS,W_on,Ab,T.get_set,Ae,reduceIte,Nat.reduceEqDiff, ↓reduceIte]
 simp -implicitDefEqProofs only[Fc (lo:=none) (hi:=some (.int .i64 16)) (l:=0) (h:=16) LO (Bt (by decide)) rfl rfl (Nat.zero_le _) (by decide),LN_ X7 (show 16≤16-0 by decide) (by decide),reduceIte,reduceCtorEq, ↓reduceIte]
 have hlen2:(u8l (idB b)).length=16:=by rw[Be];exact CV _
 have hod:Ah sd sb.next 0 (u8l (idB b)):=by
  have:=od.take (n:=16)
  show Ah sd sb.next 0 (u8l ((sumB b).take 16))
  unfold u8l
  rw[List.map_take]
  exact this
 refine W.loadA Cg hod.row hlen2 fun se me ne xe=> ?_
 have hxe:Ext (BsF v) Non (s.cxN cxN) se:=hxd.step xe hbd (fun x hx h=>by
  have h2:x<s.lim:=hx
  have h3:sb.next+(0+0*1)≤x:=h.1
  omega) fun _ h=>h.elim
 have ho2e:Bb se s.next 0 16:=ho2.ext1 xe fun _ _ h=>h
 refine W.store Cg hlen2 (BY _) ho2e fun sf nf xf of=> ?_
 have hG2: ∀x,In s.next 0 16 x→s.next≤x:=fun x h=>by have:=h.1;omega
 have hxf:Ext (BsF v) Non (s.cxN cxN) sf:=hxe.step xf hbd (fun x hx h=>by
  have h2:x<s.lim:=hx
  have:=hG2 x h
  omega) hG2
 refine W.endC (r:=2) BD_ (.inl By_) (by omega) VV Fw_ hxf.cx (by simp[T.get_set];rfl) ?_
 refine W.loadA Cg of.row hlen2 fun sg mg ng xg=> ?_
 have hxg:Ext (BsF v) Non (s.cxN cxN) sg:=hxf.step xg hbd (fun x hx h=>by
  have h2:x<s.lim:=hx
  have:=hG2 x h
  omega) fun _ h=>h.elim
 exact q _ hxg.cx'
def IR:Nat:=BE Try.f20
def R8:Code:=Try.f20.body.getD .skip
theorem Le:envS.fn.get 20=some Try.f20:=by kernel_rfl
theorem PL_ {a0:Value}{n:Nat}{s:St}{Q:Value→St→Prop}(h: ∀tm,T.get tm 0=some a0→W (runF envS n ⟨20,11,IR,tm,[.code R8], .run, .normal,none⟩) (s.cxN cxN) fun p s1=>Q p.1 (s1.cxN s.cx)):W (AJ envS (runF envS n) 20 [a0]) s Q:=
 W.call (by kernel_rfl) (by kernel_rfl) Le (by kernel_rfl) rfl rfl (by simp) (h _ (by kernel_rfl))
theorem NP:Try.f20.results.toList=[.tmp 2]:=by kernel_rfl
def Od:List Item:=skim 64 [.code R8]
def Ks:List Item:=skim 64 Od.tail
theorem Nj_:skim 64 Od.tail=Ks:=by kernel_rfl
def Gk:List Item:=skim 64 Ks.tail
theorem QP:skim 64 Ks.tail=Gk:=by kernel_rfl
def KY:List Item:=skim 64 (brT Gk)
theorem Yp:skim 64 (brT Gk)=KY:=by kernel_rfl
def Lv:List Item:=skim 64 (brF Gk)
theorem QY_:skim 64 (brF Gk)=Lv:=by kernel_rfl
def QG:List Item:=skim 64 KY.tail
theorem VD:skim 64 KY.tail=QG:=by kernel_rfl
def Qu:List Item:=skim 64 Lv.tail
theorem Uc_:skim 64 Lv.tail=Qu:=by kernel_rfl
def Xw (E:Env)(call round:Aa)(tm:T Value):M (T Value):=
 mv (some (.int .i64 0)) fun v2=>
 setF 2 v2 tm fun tm1=>
 M.pure tm1
theorem UC_:RegEq 20 11 IR Od Xw:=⟨by kernel_rfl,fun _ _ _ _ _ _ _ _ _=>by kernel_rfl⟩
def SQ (E:Env)(call round:Aa)(tm:T Value):M (T Value):=
 mv (T.get tm 0) fun v3=>
 M.bind (oS (some v3) fun a=>oS (some (.int .i64 1)) fun b=>Cl.get (aBin E .lss 3 (.tmp 3) (.const (.int .i64 1))) a b) fun v4=>
 mv (some v4) fun v5=>
 M.bind (M.chk (isK v5) (M.if (isB v5 false) (oS (T.get tm 0) fun a=>M.pure a) (M.pure undef))) fun v6=>
 M.bind (M.chk (isK v5) (M.if (isB v5 false) (oS (some v6) fun a=>oS (some (.int .i64 1024)) fun b=>Cl.get (aBin E .gtr 3 (.tmp 6) (.const (.int .i64 1024))) a b) (M.pure undef))) fun v7=>
 M.bind (M.on (some v5) fun a=>M.on (some (.bool true)) fun b=>M.on (some v7) fun c=>Cw a b c) fun v8=>
 setF 8 v8 tm fun tm1=>
 M.pure tm1
theorem Rt_:RegEq 20 11 IR Ks SQ:=⟨by kernel_rfl,fun _ _ _ _ _ _ _ _ _=>by kernel_rfl⟩
theorem OG:BO Gk=some 8:=by kernel_rfl
def Rw (E:Env)(call round:Aa)(tm:T Value):M (T Value):=
 mv (some (.int .i64 0)) fun v2=>
 setF 2 v2 tm fun tm1=>
 M.pure tm1
theorem Vm:RegEq 20 11 IR KY Rw:=⟨by kernel_rfl,fun _ _ _ _ _ _ _ _ _=>by kernel_rfl⟩
def ZO (E:Env)(call round:Aa)(tm:T Value):M (T Value):=
 mv (T.get tm 0) fun v9=>
 M.bind (oS (some v9) fun a=>oS (some (.int .i64 26)) fun b=>Cl.get (aBin E .add 3 (.tmp 9) (.const (.int .i64 26))) a b) fun v10=>
 mv (some v10) fun v2=>
 setF 2 v2 tm fun tm1=>
 M.pure tm1
theorem Li_:RegEq 20 11 IR Lv ZO:=⟨by kernel_rfl,fun _ _ _ _ _ _ _ _ _=>by kernel_rfl⟩
theorem Z7: ∃k,QG= .code .ret::k:=⟨QG.tail,by kernel_rfl⟩
theorem Vq_: ∃k,Qu= .code .ret::k:=⟨Qu.tail,by kernel_rfl⟩
def Jq:Nat:=BE Try.f62
def V4:Code:=Try.f62.body.getD .skip
theorem Ai_:envS.fn.get 62=some Try.f62:=by kernel_rfl
theorem Fk_ {a0:Value}{n:Nat}{s:St}{Q:Value→St→Prop}(h: ∀tm,T.get tm 0=some a0→W (runF envS n ⟨62,31,Jq,tm,[.code V4], .run, .normal,none⟩) (s.cxN cxN) fun p s1=>Q p.1 (s1.cxN s.cx)):W (AJ envS (runF envS n) 62 [a0]) s Q:=
 W.call (by kernel_rfl) (by kernel_rfl) Ai_ (by kernel_rfl) rfl rfl (by simp) (h _ (by kernel_rfl))
theorem BY_:Try.f62.results.toList=[.cell 2 89]:=by kernel_rfl
def N5:List Item:=skim 64 [.code V4]
def LV:List Item:=skim 64 N5.tail
theorem Eb_:skim 64 N5.tail=LV:=by kernel_rfl
def K3:List Item:=skim 64 LV.tail
theorem El_:skim 64 LV.tail=K3:=by kernel_rfl
def Me:List Item:=skim 64 K3.tail
theorem Eu_:skim 64 K3.tail=Me:=by kernel_rfl
def NG:List Item:=skim 64 Me.tail
theorem Tq_:skim 64 Me.tail=NG:=by kernel_rfl
def YB (E:Env)(call round:Aa)(tm:T Value):M (T Value):=
 M.bind (BH E 89) fun v2=>
 setF 2 v2 tm fun tm1=>
 M.pure tm1
theorem LP_:RegEq 62 31 Jq N5 YB:=⟨by kernel_rfl,fun _ _ _ _ _ _ _ _ _=>by kernel_rfl⟩
def TY (E:Env)(call round:Aa)(tm:T Value):M (T Value):=
 mv (T.get tm 0) fun v6=>
 M.bind (oS (some v6) fun a=>oS (some (.int .u64 8)) fun b=>Cl.get (aBin E .shr 3 (.tmp 6) (.const (.int .u64 8))) a b) fun v7=>
 M.bind (oS (some v7) fun a=>Bu E 3 5 a) fun v8=>
 mv (T.get tm 0) fun v9=>
 M.bind (oS (some v9) fun a=>Bu E 3 5 a) fun v10=>
 mv (some v8) fun v3=>
 setF 3 v3 tm fun tm1=>
 mv (some v10) fun v4=>
 setF 4 v4 tm1 fun tm2=>
 M.pure tm2
theorem Wu_:RegEq 62 31 Jq LV TY:=⟨by kernel_rfl,fun _ _ _ _ _ _ _ _ _=>by kernel_rfl⟩
def U3 (E:Env)(call round:Aa)(tm:T Value):M (T Value):=
 mv (T.get tm 3) fun v11=>
 mv (T.get tm 4) fun v12=>
 mv (T.get tm 3) fun v13=>
 M.bind (oS (some v13) fun a=>kUn E.P .xor a) fun v14=>
 mv (T.get tm 4) fun v15=>
 M.bind (oS (some v15) fun a=>kUn E.P .xor a) fun v16=>
 M.bind (oS (seqP [(0,(some v11)),(1,(some v12)),(2,(some v14)),(3,(some v16))]) fun ps=>BX E 22 4 ps) fun v17=>
 M.bind (M.on (some (.func (.func 105) #[] #[])) fun f=>M.on (seqO [(some v17)]) fun l=>Bi call round f l) fun v18=>
 mv (some v18) fun v5=>
 setF 5 v5 tm fun tm1=>
 M.pure tm1
theorem IT_:RegEq 62 31 Jq K3 U3:=⟨by kernel_rfl,fun _ _ _ _ _ _ _ _ _=>by kernel_rfl⟩
def Yz (E:Env)(call round:Aa)(tm:T Value):M (T Value):=
 mv (T.get tm 3) fun v19=>
 mv (T.get tm 4) fun v20=>
 mv (T.get tm 3) fun v21=>
 M.bind (oS (some v21) fun a=>kUn E.P .xor a) fun v22=>
 mv (T.get tm 4) fun v23=>
 M.bind (oS (some v23) fun a=>kUn E.P .xor a) fun v24=>
 mv (T.get tm 5) fun v25=>
 M.bind (oS (some v25) fun a=>Bu E 51 5 a) fun v26=>
 mv (T.get tm 5) fun v27=>
 M.bind (oS (some v27) fun a=>oS (some (.int .u64 8)) fun b=>Cl.get (aBin E .shr 51 (.tmp 27) (.const (.int .u64 8))) a b) fun v28=>
 M.bind (oS (some v28) fun a=>Bu E 51 5 a) fun v29=>
 M.bind (oS (seqP [(0,(some v19)),(1,(some v20)),(2,(some v22)),(3,(some v24)),(4,(some v26)),(5,(some v29))]) fun ps=>Cn E 89 ps) fun v30=>
 M.bind (oS (T.get tm 2) fun a=>oS (some v30) fun b=>Bo E 89 a b) fun _=>
 M.pure tm
theorem JE_:RegEq 62 31 Jq Me Yz:=⟨by kernel_rfl,fun _ _ _ _ _ _ _ _ _=>by kernel_rfl⟩
theorem EI_: ∃k,NG= .code .ret::k:=⟨NG.tail,by kernel_rfl⟩
def Dq:Nat:=BE Try.f17
abbrev RC_:Nat:=31
def XJ:Code:=Try.f17.body.getD .skip
theorem PD:envS.fn.get 17=some Try.f17:=by kernel_rfl
theorem Lq_ {a0:Value}{n:Nat}{s:St}{Q:Value→St→Prop}(h: ∀tm,T.get tm 0=some a0→W (runF envS n ⟨17,31,Dq,tm,[.code XJ], .run, .normal,none⟩) (s.cxN cxN) fun p s1=>Q p.1 (s1.cxN s.cx)):W (AJ envS (runF envS n) 17 [a0]) s Q:=
 W.call (by kernel_rfl) (by kernel_rfl) PD (by kernel_rfl) rfl rfl (by simp) (h _ (by kernel_rfl))
theorem UG:Try.f17.results.toList=[.tmp 2, .cell 3 26, .tmp 4]:=by kernel_rfl
def NU:List Item:=skim 64 [.code XJ]
def K9:List Item:=skim 64 NU.tail
theorem CQ_:skim 64 NU.tail=K9:=by kernel_rfl
def HF:List Item:=skim 64 K9.tail
theorem R6:skim 64 K9.tail=HF:=by kernel_rfl
def JL:List Item:=skim 64 (brT HF)
theorem Eq_:skim 64 (brT HF)=JL:=by kernel_rfl
def M2:List Item:=skim 64 (brF HF)
theorem Vc_:skim 64 (brF HF)=M2:=by kernel_rfl
def Jf:List Item:=skim 64 JL.tail
theorem Wb_:skim 64 JL.tail=Jf:=by kernel_rfl
def FN:List Item:=skim 64 M2.tail
theorem Yi:skim 64 M2.tail=FN:=by kernel_rfl
def PH:List Item:=skim 64 (brT FN)
theorem Qi_:skim 64 (brT FN)=PH:=by kernel_rfl
def JW:List Item:=skim 64 (brF FN)
theorem Ea_:skim 64 (brF FN)=JW:=by kernel_rfl
theorem Hu_:skim 64 PH.tail=Jf:=by kernel_rfl
def Gg:List Item:=skim 64 JW.tail
theorem Rs_:skim 64 JW.tail=Gg:=by kernel_rfl
def Nu:List Item:=skim 64 Gg.tail
theorem Nq_:skim 64 Gg.tail=Nu:=by kernel_rfl
def Zd (E:Env)(call round:Aa)(tm:T Value):M (T Value):=
 mv (some (.slice none 0 0)) fun v2=>
 setF 2 v2 tm fun tm1=>
 M.bind (BH E 26) fun v3=>
 setF 3 v3 tm1 fun tm2=>
 mv (some (.int .i64 0)) fun v4=>
 setF 4 v4 tm2 fun tm3=>
 M.pure tm3
theorem OG_:RegEq 17 31 Dq NU Zd:=⟨by kernel_rfl,fun _ _ _ _ _ _ _ _ _=>by kernel_rfl⟩
def U5 (E:Env)(call round:Aa)(tm:T Value):M (T Value):=
 mv (T.get tm 0) fun v8=>
 M.bind (oS (seqO [(some v8)]) fun l=>A6 E .len [22] l) fun v9=>
 M.bind (oS (some v9) fun a=>oS (some (.int .i64 0)) fun b=>Cl.get (aBin E .eql 3 (.tmp 9) (.const (.int .i64 0))) a b) fun v10=>
 mv (some v10) fun v7=>
 setF 7 v7 tm fun tm1=>
 M.pure tm1
theorem Ow_:RegEq 17 31 Dq K9 U5:=⟨by kernel_rfl,fun _ _ _ _ _ _ _ _ _=>by kernel_rfl⟩
theorem SX:BO HF=some 7:=by kernel_rfl
def Zc (E:Env)(call round:Aa)(tm:T Value):M (T Value):=
 M.bind (oS (seqP []) fun ps=>Cn E 26 ps) fun v11=>
 mv (some (.slice none 0 0)) fun v2=>
 setF 2 v2 tm fun tm1=>
 M.bind (oS (T.get tm1 3) fun a=>oS (some v11) fun b=>Bo E 26 a b) fun _=>
 mv (some (.int .i64 2)) fun v4=>
 setF 4 v4 tm1 fun tm2=>
 M.pure tm2
theorem Ja_:RegEq 17 31 Dq JL Zc:=⟨by kernel_rfl,fun _ _ _ _ _ _ _ _ _=>by kernel_rfl⟩
def S7 (E:Env)(call round:Aa)(tm:T Value):M (T Value):=
 mv (T.get tm 0) fun v13=>
 M.bind (oS (seqO [(some v13)]) fun l=>A6 E .len [22] l) fun v14=>
 M.bind (oS (some v14) fun a=>oS (some (.int .i64 1024)) fun b=>Cl.get (aBin E .gtr 3 (.tmp 14) (.const (.int .i64 1024))) a b) fun v15=>
 mv (some v15) fun v12=>
 setF 12 v12 tm fun tm1=>
 M.pure tm1
theorem Hh_:RegEq 17 31 Dq M2 S7:=⟨by kernel_rfl,fun _ _ _ _ _ _ _ _ _=>by kernel_rfl⟩
theorem UZ_: ∃k,Jf= .code .ret::k:=⟨Jf.tail,by kernel_rfl⟩
theorem WS:BO FN=some 12:=by kernel_rfl
def Z8 (E:Env)(call round:Aa)(tm:T Value):M (T Value):=
 M.bind (oS (seqP []) fun ps=>Cn E 26 ps) fun v16=>
 mv (some (.slice none 0 0)) fun v2=>
 setF 2 v2 tm fun tm1=>
 M.bind (oS (T.get tm1 3) fun a=>oS (some v16) fun b=>Bo E 26 a b) fun _=>
 mv (some (.int .i64 3)) fun v4=>
 setF 4 v4 tm1 fun tm2=>
 M.pure tm2
theorem Sq_:RegEq 17 31 Dq PH Z8:=⟨by kernel_rfl,fun _ _ _ _ _ _ _ _ _=>by kernel_rfl⟩
def ZM (E:Env)(call round:Aa)(tm:T Value):M (T Value):=
 mv (T.get tm 0) fun v17=>
 M.bind (oS (seqO [(some v17)]) fun l=>A6 E .len [22] l) fun v18=>
 M.bind (M.on (some (.func (.func 62) #[] #[])) fun f=>M.on (seqO [(some v18)]) fun l=>Bi call round f l) fun v19=>
 mv (T.get tm 0) fun v20=>
 M.bind (M.on (some (.func (.func 32) #[] #[])) fun f=>M.on (seqO [(some v20)]) fun l=>Bi call round f l) fun v21=>
 M.bind (BH E 89) fun v5=>
 setF 5 v5 tm fun tm1=>
 M.bind (BH E 26) fun v6=>
 setF 6 v6 tm1 fun tm2=>
 M.bind (oS (some v5) fun a=>oS (some v19) fun b=>Bo E 89 a b) fun _=>
 M.bind (oS (some v6) fun a=>oS (some v21) fun b=>Bo E 26 a b) fun _=>
 M.pure tm2
theorem SC_:RegEq 17 31 Dq JW ZM:=⟨by kernel_rfl,fun _ _ _ _ _ _ _ _ _=>by kernel_rfl⟩
def XW (E:Env)(call round:Aa)(tm:T Value):M ((Rho×T Value)×List OpLog):=
 M.bind (apartO (M.on (T.get tm 5) fun a=>M.on (some none) fun b=>M.on (some none) fun c=>BW E 89 a b c)) fun p0=>
 M.bind (apartO (M.on (T.get tm 6) fun a=>M.on (some none) fun b=>M.on (some none) fun c=>BW E 26 a b c)) fun p1=>
 M.bind (apartO (oS (T.get tm 0) fun a=>M.pure a)) fun p2=>
 M.bind (apartO (oS (seqP [(0,(some p1.1)),(1,(some p2.1))]) fun ps=>BX E 43 2 ps)) fun p3=>
 M.bind (apartO (M.on (some (.func (.func 63) #[] #[])) fun f=>M.on (seqO [(some p3.1)]) fun l=>Bi call round f l)) fun p4=>
 M.bind (apartO (M.on (some (.func (.func 64) #[] #[])) fun f=>M.on (seqO [(some p4.1)]) fun l=>Bi call round f l)) fun p5=>
 M.bind (apartO (oS (seqP [(0,(some p0.1)),(1,(some p5.1))]) fun ps=>BX E 43 2 ps)) fun p6=>
 M.bind (apartO (M.on (some (.func (.func 63) #[] #[])) fun f=>M.on (seqO [(some p6.1)]) fun l=>Bi call round f l)) fun p7=>
 M.bind (apartO (oS (T.get tm 6) fun a=>A5 E 26 a)) fun p8=>
 M.bind (apartO (oS (some p7.1) fun a=>M.pure a)) fun p9=>
 setT 2 p9.1 tm fun tm1=>
 M.bind (apartO (oS (T.get tm1 3) fun a=>oS (some p8.1) fun b=>Bo E 26 a b)) fun p10=>
 M.pure (([p9.1,p8.1,p7.1,p6.1,p5.1,p4.1,p3.1,p2.1,p1.1,p0.1],tm1),[p10.2,p9.2,p8.2,p7.2,p6.2,p5.2,p4.2,p3.2,p2.2,p1.2,p0.2])
theorem TG_:DrawEq 17 31 Dq Gg [0,0,0,6,14,30,63,127,0,255,1023,2047] XW:=⟨by kernel_rfl,by kernel_rfl,fun _ _ _ _ _ _ _ _ _=>by kernel_rfl⟩
theorem GR_ (E:Env)(call round:Aa)(x22 x23 x24 x25 x26 x27 x28 x29 x30 x2:Value)(tm:T Value)(s:St):BM call round (CH E Dq 31 (hdC Gg)) [x2,x30,x29,x28,x27,x26,x25,x24,x23,x22] tm s=(M.bind (oS (some (.int .i64 0)) fun a=>M.pure a) fun v4=>setT 4 v4 tm fun tm1=>M.pure tm1) s:=by kernel_rfl
theorem II_: ∃k,Nu= .code .ret::k:=⟨Nu.tail,by kernel_rfl⟩
def Ic_:Nat:=BE Try.f24
abbrev IN_:Nat:=33
def Vr_:Code:=Try.f24.body.getD .skip
def AT_:List Item:=skim 64 [.code Vr_]
def Ek_:List Item:=skim 64 AT_.tail
def Tc:List Item:=skim 64 Ek_.tail
def Kh_:Code:=asC Tc
def Gp_:Code:=bdC Tc
end Go.Proofs.Ytofanlcjeohcjaa.Am
end
