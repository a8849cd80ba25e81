import Derived.Test.YtofanlcjeohcjaaIAg15
import Derived.Test.YtofanlcjeohcjaaIAg07
import Derived.Test.YtofanlcjeohcjaaIAg14
import Derived.KernelRfl
noncomputable section
namespace Go.Proofs.Ytofanlcjeohcjaa.Am
open Go.RowKit
abbrev DigF (D:Nat)(v:Value):Nat→Prop:=fun x=>In D 0 74 x∨BsF v x
theorem Dig.setN {F:Nat→Prop}{s s2:St}{D:Nat}{d:DS}(h:Dig s D d){m:Nat}(x:Ext F (In D 73 1) s s2)(o:Own s2 D 73 (.int .i64 (m:Nat))):Dig s2 D ⟨d.st,d.w,m⟩:=
 ⟨h.made.ext x fun q=>by have:=q.1;omega,h.st.ext x fun i hi q=>by have h3:i<8:=hi;have:=q.1;omega,h.w.ext x fun i hi q=>by rw[By,h.len]at hi;have:=q.1;omega,o,h.len,h.byt,h.ok⟩
theorem Dig.setSt {F:Nat→Prop}{s s2:St}{D:Nat}{d:DS}(h:Dig s D d){r:Sha.St8}(hr:r.Ok)(x:Ext F (In D 1 8) s s2)(o:Ay s2 D 1 (st8V r).toList):Dig s2 D ⟨r,d.w,d.n⟩:=
 ⟨h.made.ext x fun q=>by have:=q.1;omega,o,h.w.ext x fun i hi q=>by have:=q.2;omega,h.n.ext x fun q=>by have:=q.2;omega,h.len,h.byt,hr⟩
theorem Row.same' {s s':St}{b o:Nat}{l:List Value}(h:Row s b o l)(hm:s'.mem=s.mem)(hn:s'.next=s.next):Row s' b o l:=fun i v e=>(h i v e).same hm hn
theorem UZ_ {D : Nat} {v0 : Value} {Q : Value × FrameMode → St → Prop} {s0 : St} (hb0 : s0.lim ≤ s0.next) (hcx : s0.cx = .cx none (some [])) (hdis : ∀ x, BsF v0 x → ¬ In D 0 74 x) : ∀ (f n : Nat) (tm : T Value) (s : St) (td : List Item) (d : DS) (b : List Nat) (v : Value), b.length ≤ f → 20 * f + 60 ≤ n → skim 64 td = Fz → Ext (DigF D v0) (In D 0 74) s0 s → Dig s D d → d.n + b.length ≤ 1000000000 → (b ≠ [] → Bn s v b) → Bs s v b → Byt b → (∀ x, BsF v x → BsF v0 x) →
   T.get tm 0 = some (.pointer (some ⟨D, 0, none⟩)) → T.get tm 1 = some v → (∀ s1, Ext (DigF D v0) (In D 0 74) s0 s1 → Dig s1 D (DS.write f d b) → Q (.tuple #[], .run) s1) →
   W (runF envS n ⟨111, AfO_, DA, tm, td, .run, .normal, none⟩) s Q := by
 intro f
 induction f with
 | zero =>
   intro n tm s td d b v hf hn hT hx hd hmax hbn hbs hbyt hv h0 h1 q
   have hb : b = [] := List.eq_nil_of_length_eq_zero (by omega)
   subst hb
   refine Qn.w hT (by omega) ?_
   simp -implicitDefEqProofs only [My, Ac, W_oS, Aa, W_mv, Ab, Af, Ae, Ad, AK, h1, hbs.len BD]
   refine W.cond (v := false) TY P0 (by simp [T.get_set]) (by omega) (fun h => by cases h) fun _ => ?_
   refine W.end' (rs := []) (vs := []) Um (.inr (by kernel_rfl)) (by omega) PD X2 (hx.cx.trans hcx) rfl ?_
   exact q s hx hd
 | succ f ih =>
   intro n tm s td d b v hf hn hT hx hd hmax hbn hbs hbyt hv h0 h1 q
   by_cases hbe : b.length = 0
   · have hb : b = [] := List.eq_nil_of_length_eq_zero hbe
     subst hb
     refine Qn.w hT (by omega) ?_
     simp -implicitDefEqProofs only [My, Ac, W_oS, Aa, W_mv, Ab, Af, Ae, Ad, AK, h1, hbs.len BD]
     refine W.cond (v := false) TY P0 (by simp [T.get_set]) (by omega) (fun h => by cases h) fun _ => ?_
     refine W.end' (rs := []) (vs := []) Um (.inr (by kernel_rfl)) (by omega) PD X2 (hx.cx.trans hcx) rfl ?_
     exact q s hx hd
   · have hbne : b ≠ [] := fun e => hbe (by rw [e]; rfl)
     obtain ⟨hk1, hk2⟩ := d.k_le b
     have hm : d.n % 64 < 64 := Nat.mod_lt _ (by decide)
     have hk0 : 0 < d.k b := by
       unfold DS.k
       exact Nat.lt_min.2 ⟨by omega, by omega⟩
     refine Qn.w hT (by omega) ?_
     simp -implicitDefEqProofs only [My, Ac, W_oS, Aa, W_mv, Ab, Af, Ae, Ad, AK, h1, hbs.len BD]
     refine W.cond (v := true) TY P0 (by simp [T.get_set]; omega) (by omega) (fun _ => ?_) fun h => by cases h
     refine Lo_.w TX_ (by omega) ?_
     simp -implicitDefEqProofs only [X8, Ac, W_oS, Aa, W_mv, Ab, T.get_set, reduceIte, An, reduceCtorEq, ↓reduceIte, h0, Be Lb (by decide : 0 < 1)]
     refine W.load1 JD hd.n.at' ?_
     have hxa : Ext (DigF D v0) (In D 0 74) s0 (s.rdN (D + (0 + 73))) := hx.trans (Ext.rdN (F := DigF D v0) s _ fun _ => .inl ⟨by omega, by omega⟩) hb0 (fun _ _ h => h) fun _ _ h => h
     have hda : Dig (s.rdN (D + (0 + 73))) D d := hd.same rfl rfl
     have hba : Bn (s.rdN (D + (0 + 73))) v b := (hbn hbne).same rfl rfl
     generalize s.rdN (D + (0 + 73)) = sa at hxa hda hba ⊢
     simp -implicitDefEqProofs only [Fu_]
     refine GI_.w MX_ (by omega) ?_
     simp -implicitDefEqProofs only [ZC, Ac, W_oS, W_on, Aa, W_mv, Ab, T.get_set, Af, Ae, Ad, reduceIte, An, Nat.reduceEqDiff, reduceCtorEq, ↓reduceIte, h0, h1, Be Du_ (by decide : 0 < 64), Md (lo := some (.int .i64 ((d.n % 64 : Nat) : Int))) (hi := none) (l := d.n % 64) (h := 64) Go_ (BY (by decide)) rfl rfl (by omega) (Nat.le_refl _)]
     rw [if_neg (by omega)]
     obtain ⟨p, c, rfl⟩ := hba.bs.sl
     refine W.copy EN rfl (hba.bs.srcK hk1) (by rw [By, List.length_take]; show Nat.min (d.k b) b.length = d.k b * 1; rw [Nat.mul_one]; exact Nat.min_eq_left hk1) (CE _) (fun i hi => ?_) fun sb nb xb rb => ?_
     · have hi' : i < d.k b * 1 := hi
       have := hda.w (d.n % 64 + i) (u8 (d.w[d.n % 64 + i]'(by rw [hda.len]; omega))) (by rw [List.getElem?_map, List.getElem?_eq_getElem (by rw [hda.len]; omega)]; rfl)
       exact ⟨_, by rw [show 0 + 9 + d.n % 64 * 1 + i = 9 + (d.n % 64 + i) by omega]; exact this⟩
     have hdisb : ∀ x, BsF (.slice p b.length c) x → ¬ In D 0 74 x := fun x hx' => hdis x (hv x hx')
     have hxb : Ext (DigF D v0) (In D 0 74) s0 sb := hxa.trans xb hb0 (fun x _ h => by
       rcases h with h | h
       · exact .inr (hv x h)
       · exact .inl ⟨by have := h.1; omega, by have := h.2; have h3 : d.k b ≤ 64 := by omega
                                               have h4 : x < D + (0 + 9 + d.n % 64 * 1) + d.k b * 1 := h.2
                                               omega⟩) fun x _ h => ⟨by have := h.1; omega, by have h4 : x < D + (0 + 9 + d.n % 64 * 1) + d.k b * 1 := h.2
                                                                                               omega⟩
     have hdb : Dig sb D ⟨d.st, d.w' b, d.n⟩ := hda.lay xb rb hbyt
     have hbb : Bn sb (.slice p b.length c) b := hba.ext xb fun x hx' h => hdisb x hx' ⟨by have := h.1; omega, by have h4 : x < D + (0 + 9 + d.n % 64 * 1) + d.k b * 1 := h.2
                                                                                                                  omega⟩
     clear xb rb hda hba hxa nb
     have hkmin : Nat.min (64 - d.n % 64) b.length = d.k b := rfl
     simp -implicitDefEqProofs only [hkmin]
     refine LX_.w Adq_ (by omega) ?_
     simp -implicitDefEqProofs only [WW, Ac, W_on, Aa, W_mv, Ab, T.get_set, Ad, reduceIte, Nat.reduceEqDiff, ↓reduceIte, h1]
     refine W.cut hbb BD (i := d.k b) (j := b.length) rfl rfl hk1 (Nat.le_refl _) fun v1 hv1 hF1 => ?_
     rw [List.take_length] at hv1
     refine NO_.w Ki_ (by omega) ?_
     simp -implicitDefEqProofs only [Ut, Ac, W_oS, Aa, W_mv, T.get_set, reduceIte, An, Nat.reduceEqDiff, reduceCtorEq, ↓reduceIte, h0, Be Lb (by decide : 0 < 1)]
     refine W.load1 JD hdb.n.at' ?_
     have en : wrap64 ((d.n : Nat) + (d.k b : Nat) : Int) = ((d.n + d.k b : Nat) : Int) := by
       rw [Bq (by omega) (by omega)]; simp
     simp -implicitDefEqProofs only [AD, en]
     have hxb1 : Ext (DigF D v0) (In D 0 74) s0 (sb.rdN (D + (0 + 73))) := hxb.trans (Ext.rdN (F := DigF D v0) sb _ fun _ => .inl ⟨by omega, by omega⟩) hb0 (fun _ _ h => h) fun _ _ h => h
     have hdb1 : Dig (sb.rdN (D + (0 + 73))) D ⟨d.st, d.w' b, d.n⟩ := hdb.same rfl rfl
     have hv2 : Bn (sb.rdN (D + (0 + 73))) v1 (b.drop (d.k b)) := hv1.same rfl rfl
     generalize sb.rdN (D + (0 + 73)) = sc at hxb1 hdb1 hv2 ⊢
     refine W.store1 JD rfl hdb1.n fun se ne xe oe => ?_
     have hxe : Ext (DigF D v0) (In D 0 74) s0 se := hxb1.trans xe hb0 (fun x _ h => .inl ⟨by have := h.1; omega, by have := h.2; omega⟩) fun x _ h => ⟨by have := h.1; omega, by have := h.2; omega⟩
     have hde : Dig se D ⟨d.st, d.w' b, d.n + d.k b⟩ := hdb1.setN xe oe
     have hve : Bn se v1 (b.drop (d.k b)) := hv2.ext xe fun x hx' h => hdisb x (hF1 x hx') ⟨by have := h.1; omega, by have := h.2; omega⟩
     clear xe oe hdb1 hv2 hxb1 hdb hxb
     refine AcT_.w UG_ (by omega) ?_
     have ea : wrap64 ((d.n % 64 : Nat) + (d.k b : Nat) : Int) = ((d.n % 64 + d.k b : Nat) : Int) := by
       rw [Bq (by omega) (by omega)]; simp
     simp -implicitDefEqProofs only [Fz_, Ac, W_oS, Aa, W_mv, Ab, T.get_set, reduceIte, Nat.reduceEqDiff, ↓reduceIte, AD, AQ, ea]
     have hlen1 : (b.drop (d.k b)).length ≤ f := by rw [List.length_drop]; omega
     have hmax1 : d.n + d.k b + (b.drop (d.k b)).length ≤ 1000000000 := by rw [List.length_drop]; omega
     have hby1 : Byt (b.drop (d.k b)) := fun x hx' => hbyt x (List.mem_of_mem_drop hx')
     by_cases hfull : d.n % 64 + d.k b = 64
     · refine W.cond (v := true) FD_ V8 (by simp [T.get_set]; omega) (by omega) (fun _ => ?_) fun h => by cases h
       refine Ov_.w Wi_ (by omega) ?_
       have hde' : Dig (dSt se.mem se.next) D ⟨d.st, d.w' b, d.n + d.k b⟩ := hde.same rfl rfl
       simp -implicitDefEqProofs only [YF, T.get_set, Nat.reduceEqDiff, ↓reduceIte, h0, CF, Dz, Bm]
       rw [W_dq fun s Q => An (s := s) ⟨D, 0, none⟩ Q, W_dq fun s Q => Be (s := s) RI (by decide : 0 < 8) Q]
       refine W.dloadA IN hde'.st.row (Dt _) fun mem1 rd1 hm1 hr1 => ?_
       rw [hm1]
       simp -implicitDefEqProofs only [Bm]
       rw [W_dq fun s Q => An (s := s) ⟨D, 0, none⟩ Q, W_dq fun s Q => Be (s := s) Du_ (by decide : 0 < 64) Q, W_dq fun s Q => Md (s := s) (lo := none) (hi := none) (l := 0) (h := 64) Go_ (BY (by decide)) rfl rfl (Nat.zero_le _) (Nat.le_refl _) Q]
       simp -implicitDefEqProofs only [Af, Ae, Ad, Dz]
       refine W.dop ?_
       rw [Ai]
       refine W.orc (m := EA) (by kernel_rfl) ?_
       refine W.next hde.ok (hde'.w.row.same' rfl rfl) hde'.len hde'.byt fun s1 m1 n1 x1 => ⟨In D 9 64, x1, fun rd2 hr2 => ?_⟩
       have m1' : s1.mem = se.mem := m1
       have n1' : s1.next = se.next := n1
       rw [m1', n1']
       simp -implicitDefEqProofs only [Bm]
       rw [W_dq fun s Q => An (s := s) ⟨D, 0, none⟩ Q, W_dq fun s Q => Be (s := s) RI (by decide : 0 < 8) Q]
       rw [Aa]
       refine ⟨Dj (by simp) (by simp), ?_⟩
       refine W.cast (Pt_ _ _ _ _ _ _ _ _ _ _ _ _ _ _ _ _ _) ?_
       simp -implicitDefEqProofs only [Ac, W_oS, Aa]
       generalize hs' : (⟨(dSt se.mem se.next).mem, (dSt se.mem se.next).next, se.lim, _, _, se.cx⟩ : St) = s'
       have hx' : Ext (DigF D v0) (In D 0 74) s0 s' := by
         rw [← hs']
         refine hxe.trans (Ext.draw (F := fun x => In D 0 74 x) (Nat.le_refl _) (fun _ _ => rfl) (by simp) (by
           simp -implicitDefEqProofs only [List.mem_cons, List.not_mem_nil, or_false]
           rintro m (rfl | rfl | rfl | rfl | rfl | rfl | rfl | rfl | rfl | rfl | rfl | rfl) x hx _ <;> first | (have h3 := hr1 _ hx; exact ⟨by have := h3.1; omega, by have := h3.2; omega⟩) | (have h3 := (hr2 _ hx).2; exact ⟨by have := h3.1; omega, by have := h3.2; omega⟩) | (cases hx))) hb0 (fun _ _ h => .inl h) fun _ _ h => h.elim
       have hdf : Dig s' D ⟨d.st, d.w' b, d.n + d.k b⟩ := by rw [← hs']; exact hde.same rfl rfl
       have hvf : Bn s' v1 (b.drop (d.k b)) := by rw [← hs']; exact hve.same rfl rfl
       clear hs' hr1 hr2 hm1 m1 n1 m1' n1' x1
       have hr : (Sha.next d.st fun j => (d.w' b).getD j 0).Ok := Sha.plus_ok _ _
       have hst : d.step b = ⟨Sha.next d.st fun j => (d.w' b).getD j 0, d.w' b, d.n + d.k b⟩ := by unfold DS.step; rw [if_pos hfull]
       generalize (Sha.next d.st fun j => (d.w' b).getD j 0) = r at hr hst ⊢
       refine W.store IN rfl rfl (fun i hi => ⟨_, by rw [show 0 + 1 + i = 1 + i by omega]; exact hdf.st i _ (List.getElem?_eq_getElem hi)⟩) fun sf nf xf rf => ?_
       have hxf : Ext (DigF D v0) (In D 0 74) s0 sf := hx'.trans xf hb0 (fun x _ h => .inl ⟨by have := h.1; omega, by have := h.2; omega⟩) fun x _ h => ⟨by have := h.1; omega, by have := h.2; omega⟩
       have hdg : Dig sf D ⟨r, d.w' b, d.n + d.k b⟩ := hdf.setSt hr xf rf
       have hvg : Bn sf v1 (b.drop (d.k b)) := hvf.ext xf fun x hx' h => hdisb x (hF1 x hx') ⟨by have := h.1; omega, by have := h.2; omega⟩
       refine ih _ _ _ _ ⟨r, d.w' b, d.n + d.k b⟩ (b.drop (d.k b)) v1 hlen1 (by omega) Xd_ hxf hdg hmax1 (fun _ => hvg) hvg.bs hby1 (fun x hx' => hv x (hF1 x hx')) (by simp [T.get_set, h0]) (by simp [T.get_set]) fun s1 x1 d1 => q s1 x1 ?_
       unfold DS.write
       rw [if_neg hbe, hst]
       exact d1
     · refine W.cond (v := false) FD_ V8 (by simp [T.get_set]; omega) (by omega) (fun h => by cases h) fun _ => ?_
       refine ih _ _ _ _ ⟨d.st, d.w' b, d.n + d.k b⟩ (b.drop (d.k b)) v1 hlen1 (by omega) IG_ hxe hde hmax1 (fun _ => hve) hve.bs hby1 (fun x hx' => hv x (hF1 x hx')) (by simp [T.get_set, h0]) (by simp [T.get_set]) fun s1 x1 d1 => q s1 x1 ?_
       have : d.step b = ⟨d.st, d.w' b, d.n + d.k b⟩ := by unfold DS.step; rw [if_neg hfull]
       unfold DS.write
       rw [if_neg hbe, this]
       exact d1
theorem Ga_ {D n:Nat}{v:Value}{Q:Value→St→Prop}{s:St}{d:DS}{b:List Nat}(hbd:s.lim≤s.next)(hdis: ∀x,BsF v x→ ¬In D 0 74 x)(hd:Dig s D d)(hmax:d.n+b.length≤1000000000)(hbn:b≠[]→Bn s v b)(hbs:Bs s v b)(hbyt:Byt b)(hn:20*b.length+100≤n)
  (q: ∀s1,Ext (DigF D v) (In D 0 74) s s1→Dig s1 D (DS.write b.length d b)→Q (.tuple #[]) s1):W (AJ envS (runF envS n) 111 [.pointer (some ⟨D,0,none⟩),v]) s Q:=by
 refine Nh_ fun tm h0 h1=> ?_
 have hd':Dig (s.cxN cxN) D d:=hd.same rfl rfl
 refine PE_.w rfl (by omega) ?_
 simp -implicitDefEqProofs only[AN_,Ac,W_oS,W_on,Aa,W_mv,Ab,reduceIte,Ah,Ak,Aq,Ar,Aj,An,reduceCtorEq, ↓reduceIte,h0,Zf CZ_,Be Z8 (by decide:0<1)]
 refine W.load1 YR hd'.made.at' ?_
 simp -implicitDefEqProofs only[DO]
 refine W.cond (v:=false) Aat_ Qa_ (by simp[T.get_set]) (by omega) (fun h=>by cases h) fun _=> ?_
 refine UZ_ (s0:=s.cxN cxN) (v0:=v) hbd rfl hdis b.length _ _ _ _ d b v (Nat.le_refl _) (by omega) LR_ (Ext.rdN (F:=DigF D v) _ _ fun _=> .inl ⟨by omega,by omega⟩) (hd'.same rfl rfl) hmax (fun h=>(hbn h).same rfl rfl) (hbs.same rfl rfl) hbyt (fun x h=>h) (by simp[T.get_set,h0]) (by simp[T.get_set,h1]) fun s1 x1 d1=>q _ x1.cx' (d1.same rfl rfl)
theorem MC_:Dd envS 163=some (List.replicate 8 (.int .u32 0)):=by kernel_rfl
theorem AeG_ (r:Sha.St8):Do envS 167 [(0, .bool true),(1, .agg (st8V r))]=some (.bool true::((st8V r).toList++(u8l (List.replicate 64 0)++[.int .i64 ((0:Nat):Int)]))):=by kernel_rfl
theorem Hp_:Do envS 163 [(0, .int .u32 1779033703),(1, .int .u32 3144134277),(2, .int .u32 1013904242),(3, .int .u32 2773480762),(4, .int .u32 1359893119),(5, .int .u32 2600822924),(6, .int .u32 528734635),(7, .int .u32 1541459225)]=some (st8V D0).toList:=by kernel_rfl
theorem XL_ {n:Nat}{s:St}{Q:Value→St→Prop}(hbd:s.lim≤s.next)(hn:10≤n)(q: ∀s1,Ext Non Non s s1→Q (.agg (st8V D0)) s1):W (AJ envS (runF envS n) 133 []) s Q:=by
 refine Md_ fun tm=> ?_
 refine Acd_.w rfl (by omega) ?_
 simp -implicitDefEqProofs only[Ei_,Ac,Aa,Ab]
 refine W.alloc MC_ fun sa na xa oa=> ?_
 refine Yh_.w Xg_ (by omega) ?_
 simp -implicitDefEqProofs only[Gn_,Ac,W_oS,Aa,T.get_set,Ao,Al,Ad,reduceIte, ↓reduceIte,EQ Hp_]
 refine W.store IN rfl rfl (fun i hi=>⟨.int .u32 0,by rw[Nat.zero_add];have:=oa i (.int .u32 0) (by rw[List.getElem?_replicate];rw[if_pos hi]);rw[Nat.zero_add]at this;exact this⟩) fun sb nb xb ob=> ?_
 refine W.endC (r:=0) (t:=163) Zc_ (.inl AcL_) (by omega) U4 Adz_ (xb.cx.trans xa.cx) (by simp[T.get_set];rfl) ?_
 refine W.loadA IN ob.row rfl fun sc mc nc xc=> ?_
 have x:Ext Non Non s (sc.cxN s.cx):=((xa.trans xb hbd (fun x h g=>by have g1:s.next+0≤x:=g.1;have h1:x<s.lim:=h;omega) fun x h g=>by have g1:s.next+0≤x:=g.1;have h1:x<s.next:=h;omega).trans xc hbd (fun x h g=>by have g1:s.next+0≤x:=g.1;have h1:x<s.lim:=h;omega) fun x h g=>g.elim).cx'
 exact q _ x
def DS.new:DS:=⟨D0,List.replicate 64 0,0⟩
theorem AdG_ {n:Nat}{s:St}{Q:Value→St→Prop}(hbd:s.lim≤s.next)(hn:30≤n)(q: ∀s1 D,s.next≤D→D+74≤s1.next→Ext Non Non s s1→Dig s1 D DS.new→Q (.pointer (some ⟨D,0,none⟩)) s1):W (AJ envS (runF envS n) 110 []) s Q:=by
 refine AfN_ fun tm=> ?_
 refine YU_.w rfl (by omega) ?_
 simp -implicitDefEqProofs only[Fk_,Aa,W_mv,Ab]
 refine RN_.w TU_ (by omega) ?_
 simp -implicitDefEqProofs only[YU,Ac,W_oS,W_on,Aa,W_mv,Ab,Ae,Ao,Al,Ad,Ai]
 refine XL_ (s:=s.cxN cxN) hbd (by omega) fun sa xa=> ?_
 simp -implicitDefEqProofs only[EQ (AeG_ D0)]
 refine W.box fun sb nb xb ob=> ?_
 refine W.end' (rs:=[0]) (vs:=[.pointer (some ⟨sa.next,0,none⟩)]) Ka_ (.inl Io_) (by omega) EU_ Sc_ (xb.cx.trans xa.cx) (by simp[T.get_set]) ?_
 have hx:Ext Non Non s (sb.cxN s.cx):=(xa.trans xb hbd (fun x h g=>g) fun x h g=>g).cx'
 have ob':Ay (sb.cxN s.cx) sa.next 0 (.bool true::((st8V D0).toList++(u8l (List.replicate 64 0)++[.int .i64 ((0:Nat):Int)]))):=fun i v e=>(ob i v e).same rfl rfl
 refine q _ sa.next xa.nxt ?_ hx ⟨?_, ?_, ?_, ?_,rfl, ?_,PU_⟩
 ·have h:(sb.cxN s.cx).next=sa.next+74+1:=nb
  omega
 ·exact ob' 0 _ rfl
 ·intro i v e
  have e:(st8V D0).toList[i]?=some v:=e
  have hi:=(List.getElem?_eq_some_iff.1 e).1
  have:=ob' (1+i) v (by rw[Nat.add_comm,List.getElem?_cons_succ,List.getElem?_append_left hi];exact e)
  rw[Nat.zero_add]at this
  exact this
 ·intro i v e
  have e:(u8l (List.replicate 64 0))[i]?=some v:=e
  have hi:=(List.getElem?_eq_some_iff.1 e).1
  have:=ob' (9+i) v (by rw[show 9+i=(8+i)+1 by omega,List.getElem?_cons_succ,List.getElem?_append_right (by rw[Dt];omega),Dt,show 8+i-8=i by omega,List.getElem?_append_left hi];exact e)
  rw[Nat.zero_add]at this
  exact this
 ·exact ob' 73 _ rfl
 ·intro x hx
  have hx:x∈List.replicate 64 0:=hx
  rw[List.mem_replicate]at hx
  omega
theorem DC_:hasT envS 3=true:=by kernel_rfl
def tl8 (N:Nat):Nat→List Nat
 |0=>[]
 |k+1=>(N>>>(8*k))%256::tl8 N k
theorem CX_ (N:Nat): ∀k,(tl8 N k).length=k
 |0=>rfl
 |k+1=>by unfold tl8;rw[List.length_cons,CX_ N k]
theorem UR (N:Nat): ∀k,Byt (tl8 N k)
 |0=>fun x hx=>by cases hx
 |k+1=>fun x hx=>by
  unfold tl8 at hx
  rcases List.mem_cons.1 hx with rfl|hx
  ·exact Nat.mod_lt _ (by decide)
  ·exact UR N k x hx
abbrev PadF (D B:Nat):Nat→Prop:=fun x=>In D 0 74 x∨In B 0 80 x
theorem PB_ {D B:Nat}{a2 a3 a4:Value}{d:DS}{Q:Value×FrameMode→St→Prop}{s0:St}(hmax:8*d.n≤9223372036854775807)(hb0:s0.lim≤s0.next)(hdis:D+74≤B∨B+80≤D)(hB:B+80≤s0.next): ∀(k n:Nat) (tm:T Value) (s:St) (td:List Item) (p:List Nat),k≤8→10*k+20≤n→skim 64 td=Ho→Ext (PadF D B) (In B 0 80) s0 s→Dig s D d→Ay s B 0 (u8l p)→Bk s B 0 80→p.length+k≤80→
  T.get tm 0=some (.pointer (some ⟨D,0,none⟩))→T.get tm 2=some a2→T.get tm 3=some a3→T.get tm 4=some a4→T.get tm 5=some (.slice (some ⟨B,0,none⟩) p.length 80)→T.get tm 6=some (.int .i64 (8*((k:Nat):Int)-8))→
  (∀n' tm' s1 td',n≤n'+10*k+5→skim 64 td'=Jt→Ext (PadF D B) (In B 0 80) s0 s1→Dig s1 D d→Ay s1 B 0 (u8l (p++tl8 (8*d.n) k))→T.get tm' 0=some (.pointer (some ⟨D,0,none⟩))→T.get tm' 2=some a2→T.get tm' 3=some a3→T.get tm' 4=some a4→T.get tm' 5=some (.slice (some ⟨B,0,none⟩) (p.length+k) 80)→W (runF envS n' ⟨112,Gt,B5,tm',td', .run, .normal,none⟩) s1 Q)→
  W (runF envS n ⟨112,Gt,B5,tm,td, .run, .normal,none⟩) s Q:=by
 intro k
 induction k with
 |zero=>
  intro n tm s td p hk hn hT hx hd ho hw hl h0 h2 h3 h4 h5 h6 q
  refine VC.w hT (by omega) ?_
  simp -implicitDefEqProofs only[Sz,Ac,W_oS,Aa,W_mv,Ab,AP,h6]
  refine W.cond (v:=false) V9 CN_ (by simp[T.get_set]) (by omega) (fun h=>by cases h) fun _=> ?_
  refine q _ _ _ _ (by omega) Rg_ hx hd ?_ (by simp[T.get_set,h0]) (by simp[T.get_set,h2]) (by simp[T.get_set,h3]) (by simp[T.get_set,h4]) (by simp[T.get_set,h5])
  rw[show tl8 (8*d.n) 0=[]from rfl,List.append_nil]
  exact ho
 |succ k ih=>
  intro n tm s td p hk hn hT hx hd ho hw hl h0 h2 h3 h4 h5 h6 q
  have ec:(8*((k+1:Nat):Int)-8)=((8*k:Nat):Int):=by omega
  rw[ec]at h6
  refine VC.w hT (by omega) ?_
  simp -implicitDefEqProofs only[Sz,Ac,W_oS,Aa,W_mv,Ab,AP,h6]
  refine W.cond (v:=true) V9 CN_ (by simp[T.get_set];omega) (by omega) (fun _=> ?_) fun h=>by cases h
  refine AaX_.w Zn_ (by omega) ?_
  simp -implicitDefEqProofs only[WN,Ac,W_oS,Aa,W_mv,Ab,T.get_set,Af,Ae,Ao,Al,Ad,reduceIte,An,Nat.reduceEqDiff,reduceCtorEq, ↓reduceIte,h0,h5,h6,Be Lb (by decide:0<1)]
  refine W.load1 JD hd.n.at' ?_
  have hxa:Ext (PadF D B) (In B 0 80) s0 (s.rdN (D+(0+73))):=hx.trans (Ext.rdN (F:=PadF D B) s _ fun _=> .inl ⟨by omega,by omega⟩) hb0 (fun _ _ h=>h) fun _ _ h=>h
  have hda:Dig (s.rdN (D+(0+73))) D d:=hd.same rfl rfl
  have hoa:Ay (s.rdN (D+(0+73))) B 0 (u8l p):=fun i v e=>(ho i v e).same rfl rfl
  have hwa:Bk (s.rdN (D+(0+73))) B 0 80:=fun j hj=>let ⟨u,h⟩:=hw j hj;⟨u,h.same rfl rfl⟩
  generalize s.rdN (D+(0+73))=sa at hxa hda hoa hwa ⊢
  simp -implicitDefEqProofs only[Xr_ hmax,No (k:= .i64) (kk:= .i64) (n:=8*k) (show 8*k≤64 by omega),Fx DC_ JJ,wrap_u8]
  have hba:sa.lim≤sa.next:=hxa.bnd hb0
  refine W.buildS hba (r:=u8l [(8*d.n)>>>(8*k)%256]) EN (by decide) rfl (BY (by decide)) fun sb nb xb rb=> ?_
  have hxb:Ext (PadF D B) (In B 0 80) s0 sb:=hxa.trans xb hb0 (fun _ _ h=>h.elim) fun _ _ h=>h.elim
  have hBs:Bs sb (.slice (some ⟨sa.next,0,none⟩) 1 1) [(8*d.n)>>>(8*k)%256]:=Ay.bn rb (BY (by simp))
  have hob:Ay sb B 0 (u8l p):=hoa.ext0 xb
  have hwb:Bk sb B 0 80:=fun j hj=>let ⟨u,h⟩:=hwa j hj;⟨u,h.ext0 xb⟩
  simp -implicitDefEqProofs only[Em]
  refine W.appIn (n:=1) KB hBs.src.g (by rw[Nat.mod_eq_of_lt (BY (by decide))];omega) rfl (CE _) (fun i hi=> ?_) fun sc nc xc rc=> ?_
  ·have:=hwb (p.length+i) (by omega)
   rw[show 0+p.length*1+i=0+(p.length+i) by omega]
   exact this
  have sub: ∀x,In B (0+p.length*1) (1*1) x→In B 0 80 x:=fun x h=>⟨by have:=h.1;omega,by
   have h4:x<B+(0+p.length*1)+1*1:=h.2
   omega⟩
  have nod: ∀i,i<74→ ¬In B (0+p.length*1) (1*1) (D+i):=fun i hi h=>by
   have h3:B+(0+p.length*1)≤D+i:=h.1
   have h4:D+i<B+(0+p.length*1)+1*1:=h.2
   omega
  have hxc:Ext (PadF D B) (In B 0 80) s0 sc:=hxb.trans xc hb0 (fun x hx' h=>by
   rcases h with h|h
   ·have h1:sa.next+0≤x:=h.1
    have h2:=hxa.nxt
    omega
   ·exact .inr (sub x h)) fun x _ h=>sub x h
  have hdc:Dig sc D d:=⟨hda.made.ext0 xb |>.ext xc (nod 0 (by decide)),(hda.st.ext0 xb).ext xc fun i hi=>nod (1+i) (by rw[Dt]at hi;omega),(hda.w.ext0 xb).ext xc fun i hi=>nod (9+i) (by rw[By,hda.len]at hi;omega),(hda.n.ext0 xb).ext xc (nod 73 (by decide)),hda.len,hda.byt,hda.ok⟩
  have hoc:Ay sc B 0 (u8l (p++[(8*d.n)>>>(8*k)%256])):=by
   have e:u8l (p++[(8*d.n)>>>(8*k)%256])=u8l p++u8l [(8*d.n)>>>(8*k)%256]:=List.map_append
   rw[e]
   refine Ay.append (hob.ext xc fun i hi h=> ?_) ?_
   ·rw[By]at hi
    have h1:B+(0+p.length*1)≤B+(0+i):=h.1
    omega
   ·rw[By,show 0+p.length=0+p.length*1 by omega]
    exact rc
  have hwc:Bk sc B 0 80:=hwb.ext xc rc
  have hlp:(p++[(8*d.n)>>>(8*k)%256]).length=p.length+1:=by simp
  refine Afq_.w KQ_ (by omega) ?_
  have e8:wrap64 (((8*k:Nat):Int)-8)=8*((k:Nat):Int)-8:=by
   rw[Bq (by omega) (by omega)];omega
  simp -implicitDefEqProofs only[Cd_,Ac,W_oS,Aa,W_mv,Ab,T.get_set,reduceIte,Nat.reduceEqDiff, ↓reduceIte,AL,h6,e8]
  refine ih _ _ sc _ (p++[(8*d.n)>>>(8*k)%256]) (by omega) (by omega) LK_ hxc hdc hoc hwc (by omega) (by simp[T.get_set,h0]) (by simp[T.get_set,h2]) (by simp[T.get_set,h3]) (by simp[T.get_set,h4]) (by simp[T.get_set]) (by simp[T.get_set]) fun n' tm' s1 td' e1 e2 e3 e4 e5 e6 e7 e8 e9 e10=>q n' tm' s1 td' (by omega) e2 e3 e4 ?_ e6 e7 e8 e9 ?_
  ·rw[List.append_assoc]at e5
   exact e5
  ·rw[hlp]at e10
   rw[e10,show p.length+1+k=p.length+(k+1) by omega]
theorem UH:arrN envS 101=some (32,1):=by kernel_rfl
theorem HR_:arrU envS 163=some 8:=by kernel_rfl
def be4 (x:Nat):List Nat:=[x>>>24%256,x>>>16%256,x>>>8%256,x%256]
def outs:List Nat→List Nat
 |[]=>[]
 |x::l=>be4 x++outs l
theorem ND: ∀l:List Nat,(outs l).length=4*l.length
 |[]=>rfl
 |x::l=>by
  unfold outs
  rw[List.length_append,ND l,List.length_cons]
  show 4+_=_
  omega
theorem Zt (x:Nat): ∀l:List Nat,outs (l++[x])=outs l++be4 x
 |[]=>by show be4 x++[]=_;rw[List.append_nil];rfl
 |y::l=>by
  show be4 y++outs (l++[x])=(be4 y++outs l)++be4 x
  rw[Zt x l,List.append_assoc]
theorem AaD_ {O:Nat}{a2:Value}{cs:Array Value}{l:List Nat}(hl8:l.length=8)(hcs: ∀i (h:i<l.length),cs.toList[i]?=some (.int .u32 (l[i]:Nat))){Q:Value×FrameMode→St→Prop}{s0:St}(hb0:s0.lim≤s0.next): ∀(k i n:Nat) (tm:T Value) (s:St) (td:List Item),i+k=8→10*k+20≤n→skim 64 td=GX→Ext (In O 0 32) (In O 0 32) s0 s→Ay s O 0 (u8l (outs (l.take i)))→Bk s O 0 32→
  T.get tm 2=some a2→T.get tm 3=some (.pointer (some ⟨O,0,none⟩))→T.get tm 51=some (.agg cs)→T.get tm 52=some (.int .i64 (i:Nat))→
  (∀n' tm' s1 td',n≤n'+10*k+5→skim 64 td'=Jg→Ext (In O 0 32) (In O 0 32) s0 s1→Ay s1 O 0 (u8l (outs l))→T.get tm' 2=some a2→T.get tm' 3=some (.pointer (some ⟨O,0,none⟩))→W (runF envS n' ⟨112,Gt,B5,tm',td', .run, .normal,none⟩) s1 Q)→
  W (runF envS n ⟨112,Gt,B5,tm,td, .run, .normal,none⟩) s Q:=by
 intro k
 induction k with
 |zero=>
  intro i n tm s td hi hn hT hx ho hw h2 h3 h51 h52 q
  refine Xn.w hT (by omega) ?_
  simp -implicitDefEqProofs only[SM,Ac,W_oS,Aa,Ab,h52,show(8:Int)=((8:Nat):Int)from rfl]
  simp -implicitDefEqProofs only[AC]
  refine W.cond (v:=false) UQ ZG (by simp[T.get_set];omega) (by omega) (fun h=>by cases h) fun _=> ?_
  rw[show i=l.length by omega,List.take_length]at ho
  exact q _ _ _ _ (by omega) PP_ hx ho (by simp[T.get_set,h2]) (by simp[T.get_set,h3])
 |succ k ih=>
  intro i n tm s td hi hn hT hx ho hw h2 h3 h51 h52 q
  have hil:i<l.length:=by omega
  refine Xn.w hT (by omega) ?_
  simp -implicitDefEqProofs only[SM,Ac,W_oS,Aa,Ab,h52]
  simp -implicitDefEqProofs only[AC]
  refine W.cond (v:=true) UQ ZG (by simp[T.get_set];omega) (by omega) (fun _=> ?_) fun h=>by cases h
  refine IA_.w Jz_ (by omega) ?_
  simp -implicitDefEqProofs only[Bf_,Ac,W_oS,Aa,W_mv,Ab,T.get_set,reduceIte,Nat.reduceEqDiff, ↓reduceIte,h51,h52,Ot_ HR_ (show i<8 by omega) (hcs i hil)]
  refine SA_.w HH_ (by omega) ?_
  generalize hxe:l[i]=x
  simp -implicitDefEqProofs only[Xv,Ac,W_oS,W_on,Aa,W_mv,T.get_set,Af,Ae,Ao,Al,Ad,reduceIte,Nat.reduceEqDiff, ↓reduceIte,h3,Hs_ (show 4*i≤9223372036854775807 by omega),Md (lo:=some (.int .i64 ((4*i:Nat):Int))) (hi:=none) (l:=4*i) (h:=32) UH (BY (by decide)) rfl rfl (by omega) (Nat.le_refl _)]
  rw[if_neg (by omega)]
  simp -implicitDefEqProofs only[Fx TZ JJ,wrap_u8,Kl (k:= .u32) (by decide),Bd_ (k:= .u32) (by decide),Zd (k:= .u32) (by decide)]
  have hba:s.lim≤s.next:=hx.bnd hb0
  refine W.buildS hba (r:=u8l (be4 x)) EN (by decide) rfl (BY (by decide)) fun sb nb xb rb=> ?_
  have hxb:Ext (In O 0 32) (In O 0 32) s0 sb:=hx.trans xb hb0 (fun _ _ h=>h.elim) fun _ _ h=>h.elim
  have hBs:Bs sb (.slice (some ⟨s.next,0,none⟩) 4 4) (be4 x):=Ay.bn rb (BY (by simp[be4]))
  have hob:Ay sb O 0 (u8l (outs (l.take i))):=ho.ext0 xb
  have hwb:Bk sb O 0 32:=fun j hj=>let ⟨u,h⟩:=hw j hj;⟨u,h.ext0 xb⟩
  refine W.copy (k:=4) (l:=u8l (be4 x)) EN (Nat.min_eq_right (show 4≤32-4*i by omega)).symm (hBs.srcK (k:=4) (Nat.le_refl _)) rfl (CE _) (fun j hj=> ?_) fun sc nc xc rc=> ?_
  ·have:=hwb (4*i+j) (by omega)
   rw[show 0+4*i*1+j=0+(4*i+j) by omega]
   exact this
  have sub: ∀y,In O (0+4*i*1) (4*1) y→In O 0 32 y:=fun y h=>⟨by have:=h.1;omega,by
   have h4:y<O+(0+4*i*1)+4*1:=h.2
   omega⟩
  have hxc:Ext (In O 0 32) (In O 0 32) s0 sc:=hxb.trans xc hb0 (fun y hy h=>by
   rcases h with h|h
   ·have h1:s.next+0≤y:=h.1
    have h2:=hx.nxt
    omega
   ·exact sub y h) fun y _ h=>sub y h
  have hlt:(outs (l.take i)).length=4*i:=by rw[ND,List.length_take];omega
  have hoc:Ay sc O 0 (u8l (outs (l.take (i+1)))):=by
   have e:u8l (outs (l.take (i+1)))=u8l (outs (l.take i))++u8l (be4 x):=by
    rw[List.take_add_one,List.getElem?_eq_getElem hil,hxe]
    show u8l (outs (l.take i++[x]))=_
    rw[Zt]
    exact List.map_append
   rw[e]
   refine Ay.append (hob.ext xc fun j hj h=> ?_) ?_
   ·rw[By,hlt]at hj
    have h1:O+(0+4*i*1)≤O+(0+j):=h.1
    omega
   ·rw[By,hlt,show 0+4*i=0+4*i*1 by omega]
    exact rc
  have hwc:Bk sc O 0 32:=hwb.ext xc rc
  refine AaB_.w Aet_ (by omega) ?_
  have ei:wrap64 ((i:Nat)+1:Int)=((i+1:Nat):Int):=by
   rw[Bq (by omega) (by omega)];simp
  simp -implicitDefEqProofs only[AW_,Ac,W_oS,Aa,W_mv,Ab,T.get_set,reduceIte,Nat.reduceEqDiff, ↓reduceIte,AD,h52,ei]
  exact ih (i+1) _ _ sc _ (by omega) (by omega) MR_ hxc hoc hwc (by simp[T.get_set,h2]) (by simp[T.get_set,h3]) (by simp[T.get_set,h51]) (by simp[T.get_set]) fun n' tm' s1 td' e1=>q n' tm' s1 td' (by omega)
theorem X3:tyS envS 167=some (74,true):=by kernel_rfl
theorem SB_:Dd envS 167=some (.bool false::(List.replicate 8 (.int .u32 0)++(List.replicate 64 (.int .u8 0)++[.int .i64 0]))):=by kernel_rfl
theorem Gu:tyS envS 101=some (32,true):=by kernel_rfl
theorem Nh:Dd envS 101=some (List.replicate 32 (.int .u8 0)):=by kernel_rfl
def DS.row (d:DS):List Value:= .bool true::((st8V d.st).toList++(u8l d.w++[.int .i64 (d.n:Nat)]))
theorem DS.row_len (d:DS)(h:d.w.length=64):d.row.length=74:=by
 unfold DS.row
 rw[List.length_cons,List.length_append,Dt,List.length_append,By,h]
 rfl
theorem DS.row_one (d:DS):d.row.all oneCell=true:=by
 have h1:(st8V d.st).toList.all oneCell=true:=rfl
 unfold DS.row
 rw[List.all_cons,List.all_append,List.all_append,CE,h1]
 rfl
theorem Ay.app_l {s:St}{b o:Nat}{l l':List Value}(h:Ay s b o (l++l')):Ay s b o l:=fun i v e=>h i v (by rw[List.getElem?_append_left (List.getElem?_eq_some_iff.1 e).1];exact e)
theorem Ay.app_r {s:St}{b o:Nat}{l l':List Value}(h:Ay s b o (l++l')):Ay s b (o+l.length) l':=fun i v e=>by
 have:=h (l.length+i) v (by rw[List.getElem?_append_right (by omega),show l.length+i-l.length=i by omega];exact e)
 rw[←Nat.add_assoc]at this
 exact this
theorem Ay.cons_l {s:St}{b o:Nat}{v:Value}{l:List Value}(h:Ay s b o (v::l)):Own s b o v:=h 0 v rfl
theorem Ay.cons_r {s:St}{b o:Nat}{v:Value}{l:List Value}(h:Ay s b o (v::l)):Ay s b (o+1) l:=fun i x e=>by
 have:=h (i+1) x (by simpa using e)
 rw[show o+1+i=o+(i+1) by omega]
 exact this
theorem Ay.cons {s:St}{b o:Nat}{v:Value}{l:List Value}(h:Own s b o v)(k:Ay s b (o+1) l):Ay s b o (v::l):=fun i x e=>by
 cases i with
 |zero=>simp at e;subst e;exact h
 |succ i=>
  have:=k i x (by simpa using e)
  rw[show o+(i+1)=o+1+i by omega]
  exact this
theorem Ay.nil {s:St}{b o:Nat}:Ay s b o []:=fun i x e=>by simp at e
theorem Dig.toRow {s:St}{D:Nat}{d:DS}(h:Dig s D d):Ay s D 0 d.row:=by
 unfold DS.row
 refine Ay.cons h.made (Ay.append h.st (Ay.append ?_ ?_))
 ·rw[Dt];exact h.w
 ·rw[Dt,By,h.len]
  exact Ay.cons h.n .nil
theorem Dig.ofRow {s:St}{D:Nat}{d:DS}(h:Ay s D 0 d.row)(h1:d.w.length=64)(h2:Byt d.w)(h3:d.st.Ok):Dig s D d:=by
 unfold DS.row at h
 have h4:=h.cons_r
 have h5:=h4.app_r
 have h6:=h5.app_r
 rw[Dt]at h5
 rw[Dt,By,h1]at h6
 exact⟨h.cons_l,h4.app_l,h5.app_l,h6.cons_l,h1,h2,h3⟩
def DS.pad0 (d:DS):List Nat:=128::List.replicate ((119-d.n%64)%64) 0
def DS.pad (d:DS):List Nat:=d.pad0++tl8 (8*d.n) 8
def DS.fin (d:DS):DS:=DS.write d.pad.length d d.pad
def st8L (r:Sha.St8):List Nat:=[r.a,r.b,r.c,r.d,r.e,r.f,r.g,r.h]
def DS.sum (d:DS):List Nat:=outs (st8L d.fin.st)
theorem DS.pad0_len (d:DS):d.pad0.length=(119-d.n%64)%64+1:=by unfold DS.pad0;rw[List.length_cons,List.length_replicate]
theorem DS.pad0_byt (d:DS):Byt d.pad0:=fun x hx=>by
 unfold DS.pad0 at hx
 rcases List.mem_cons.1 hx with rfl|hx
 ·decide
 ·rw[List.mem_replicate]at hx;omega
theorem DS.pad_byt (d:DS):Byt d.pad:=fun x hx=>by
 rcases List.mem_append.1 hx with hx|hx
 ·exact d.pad0_byt x hx
 ·exact UR _ _ x hx
theorem DS.sum_len (d:DS):d.sum.length=32:=ND _
theorem AaT_ (r:Sha.St8)(i:Nat)(h:i<(st8L r).length):(st8V r).toList[i]?=some (.int .u32 ((st8L r)[i]:Nat)):=by
 have h8:i<8:=h
 match i,h8 with
 |0,_=>rfl
 |1,_=>rfl
 |2,_=>rfl
 |3,_=>rfl
 |4,_=>rfl
 |5,_=>rfl
 |6,_=>rfl
 |7,_=>rfl
theorem HZ_ {C O2 O3 n:Nat}{d:DS}{tm:T Value}{td:List Item}{s:St}{Q:Value×FrameMode→St→Prop}(hb:s.lim≤s.next)(hcx:s.cx= .cx none (some []))(h23:O2+32≤O3)(hd:Dig s C d)(ho3:Bk s O3 0 32)(ho2:Bk s O2 0 32)(hn:120≤n)(hT:skim 64 td=IP)
  (h2:T.get tm 2=some (.pointer (some ⟨O2,0,none⟩))) (h3:T.get tm 3=some (.pointer (some ⟨O3,0,none⟩))) (h4:T.get tm 4=some (.pointer (some ⟨C,0,none⟩)))
  (q: ∀s1,Ext (fun x=>In C 0 74 x∨In O3 0 32 x∨In O2 0 32 x) (fun x=>In O3 0 32 x∨In O2 0 32 x) s s1→Q (.agg (u8l (outs (st8L d.st))).toArray, .run) s1):W (runF envS n ⟨112,Gt,B5,tm,td, .run, .normal,none⟩) s Q:=by
 refine VF_.w hT (by omega) ?_
 simp -implicitDefEqProofs only[VD,Ac,W_oS,Aa,W_mv,Ab,h4,Be RI (by decide:0<8)]
 refine W.loadA IN hd.st.row (Dt _) fun sa ma na xa=> ?_
 have hxa:Ext (fun x=>In C 0 74 x∨In O3 0 32 x∨In O2 0 32 x) (fun x=>In O3 0 32 x∨In O2 0 32 x) s sa:=xa.weak hb (fun x _ h=> .inl ⟨by have:=h.1;omega,by have:=h.2;omega⟩) fun _ _ h=>h.elim
 have ho3a:Bk sa O3 0 32:=fun j hj=>let ⟨u,h⟩:=ho3 j hj;⟨u,h.same ma na⟩
 have ho2a:Bk sa O2 0 32:=fun j hj=>let ⟨u,h⟩:=ho2 j hj;⟨u,h.same ma na⟩
 have hba:sa.lim≤sa.next:=xa.bnd hb
 refine AaD_ (l:=st8L d.st) (cs:=(st8V d.st).toList.toArray) rfl (fun i h=>AaT_ d.st i h) hba 8 0 _ _ sa _ rfl (by omega) ZS_ (Ext.refl sa) (fun i v e=>by simp[outs,u8l]at e) ho3a (by simp[T.get_set,h2];rfl) (by simp[T.get_set,h3]) (by simp[T.get_set]) (by simp[T.get_set]) fun n' tm' sb td' e1 e2 xb ob t2 t3=> ?_
 refine XZ_.w e2 (by omega) ?_
 simp -implicitDefEqProofs only[FV_,Ac,W_oS,Aa,t2,t3]
 have hxb:=hxa.trans xb hb (fun x _ h=> .inr (.inl h)) fun x _ h=> .inl h
 have hlen:(u8l (outs (st8L d.st))).length=32:=by rw[By,ND];rfl
 refine W.loadA Gu ob.row hlen fun sc mc nc xc=> ?_
 have hxc:=hxb.trans xc hb (fun x _ h=> .inr (.inl h)) fun x _ h=>h.elim
 have ho2c:Bk sc O2 0 32:=fun j hj=>by
  obtain⟨u,h⟩:=ho2a j hj
  refine⟨u,(h.ext xb fun h=> ?_).same mc nc⟩
  have h1:O3+0≤O2+(0+j):=h.1
  omega
 refine W.store Gu hlen (CE _) ho2c fun se ne xe oe=> ?_
 have hxe:=hxc.trans xe hb (fun x _ h=> .inr (.inr h)) fun x _ h=> .inr h
 refine W.endC (r:=2) WZ_ (.inl AdK_) (by omega) AR_ Is_ (hxe.cx.trans hcx) t2 ?_
 refine W.loadA Gu oe.row hlen fun sf mf nf xf=> ?_
 exact q sf (hxe.trans xf hb (fun x _ h=> .inr (.inr h)) fun x _ h=>h.elim)
theorem Dig.ext {F G:Nat→Prop}{s s':St}{D:Nat}{d:DS}(h:Dig s D d)(e:Ext F G s s')(k: ∀x,In D 0 74 x→ ¬G x):Dig s' D d:=
 ⟨h.made.ext e (k _ ⟨by omega,by omega⟩),h.st.ext e fun i hi=>k _ ⟨by omega,by rw[Dt]at hi;omega⟩,h.w.ext e fun i hi=>k _ ⟨by omega,by rw[By,h.len]at hi;omega⟩,h.n.ext e (k _ ⟨by omega,by omega⟩),h.len,h.byt,h.ok⟩
theorem Bk.ext1 {F G:Nat→Prop}{s s':St}{b o n:Nat}(h:Bk s b o n)(e:Ext F G s s')(k: ∀x,In b o n x→ ¬G x):Bk s' b o n:=fun j hj=>let ⟨u,hu⟩:=h j hj;⟨u,hu.ext e (k _ ⟨by omega,by omega⟩)⟩
theorem Yx_ {E:Env}{t:Nat}{s:St}{sz b o n c:Nat}(h:slN E t=some sz)(hk:0<n)(Q:Value→St→Prop):W (Bo E t (.slice (some ⟨b,o,none⟩) n c) (.int .i64 0)) s Q=Q (.pointer (some ⟨b,o+0*sz,none⟩)) s:=BC (k:=0) h hk Q
abbrev MidF (D O2:Nat):Nat→Prop:=fun x=>In D 0 74 x∨O2≤x
theorem Wu_ {D C O2 O3 n:Nat}{d:DS}{tm:T Value}{td:List Item}{s:St}{Q:Value×FrameMode→St→Prop}(hb:s.lim≤s.next)(hcx:s.cx= .cx none (some []))(hmax:d.n≤900000000)(hD2:D+74≤O2)(h23:O2+32≤O3)(h3C:O3+32≤C)(hCn:C+74≤s.next)(hd:Dig s D d)(hc:Dig s C d)(ho3:Bk s O3 0 32)(ho2:Bk s O2 0 32)(hn:2000≤n)(hT:skim 64 td=Jr)
  (h0:T.get tm 0=some (.pointer (some ⟨D,0,none⟩))) (h2:T.get tm 2=some (.pointer (some ⟨O2,0,none⟩))) (h3:T.get tm 3=some (.pointer (some ⟨O3,0,none⟩))) (h4:T.get tm 4=some (.pointer (some ⟨C,0,none⟩)))
  (q: ∀s1,Ext (MidF D O2) (fun x=>O2≤x) s s1→Q (.agg (u8l d.sum).toArray, .run) s1):W (runF envS n ⟨112,Gt,B5,tm,td, .run, .normal,none⟩) s Q:=by
 refine YF_.w hT (by omega) ?_
 simp -implicitDefEqProofs only[Z9,Ac,W_oS,Aa,W_mv,Ab,An,h0,Be Lb (by decide:0<1)]
 refine W.load1 JD hd.n.at' ?_
 have hxa:Ext (MidF D O2) (fun x=>O2≤x) s (s.rdN (D+(0+73))):=Ext.rdN (F:=MidF D O2) s _ fun _=> .inl ⟨by omega,by omega⟩
 have hda:Dig (s.rdN (D+(0+73))) D d:=hd.same rfl rfl
 have hca:Dig (s.rdN (D+(0+73))) C d:=hc.same rfl rfl
 have ho3a:Bk (s.rdN (D+(0+73))) O3 0 32:=fun j hj=>let ⟨u,h⟩:=ho3 j hj;⟨u,h.same rfl rfl⟩
 have ho2a:Bk (s.rdN (D+(0+73))) O2 0 32:=fun j hj=>let ⟨u,h⟩:=ho2 j hj;⟨u,h.same rfl rfl⟩
 have na:(s.rdN (D+(0+73))).next=s.next:=rfl
 generalize s.rdN (D+(0+73))=sa at hxa hda hca ho3a ho2a na ⊢
 have hm:d.n%64<64:=Nat.mod_lt _ (by decide)
 have e1:wrap64 (119-((d.n%64:Nat):Int))=((119-d.n%64:Nat):Int):=by
  rw[Bq (by omega) (by omega)];omega
 have e2:wrap64 (1+(((119-d.n%64)%64:Nat):Int))=((d.pad0.length:Nat):Int):=by
  rw[Bq (by omega) (by omega),DS.pad0_len];omega
 have hp0:d.pad0.length≤64:=by rw[DS.pad0_len];omega
 simp -implicitDefEqProofs only[AD,AL,Fu_,e1,e2]
 have hba:sa.lim≤sa.next:=hxa.bnd hb
 refine W.mkSl (c:=80) EN (by omega) (by decide) fun sb nb xb ob=> ?_
 have hrl:(rep 80 [Value.int .u8 0]).length=80:=by rw[IJ];simp
 have hnew:s.next≤sa.next:=hxa.nxt
 have hxb:Ext (MidF D O2) (fun x=>O2≤x) s sb:=hxa.trans xb hb (fun _ _ h=>h.elim) fun _ _ h=>h.elim
 have hdb:Dig sb D d:=hda.ext0 xb
 have hcb:Dig sb C d:=hca.ext0 xb
 have ho3b:Bk sb O3 0 32:=ho3a.ext1 xb fun _ _ h=>h
 have ho2b:Bk sb O2 0 32:=ho2a.ext1 xb fun _ _ h=>h
 have hob:Bk sb sa.next 0 80:=by
  have:=Ay.owned ob
  rw[hrl]at this
  exact this
 have hzb:Ay sb sa.next 0 (List.replicate 80 (.int .u8 0)):=by rw[←IJ];exact ob
 clear ob xb hda hca ho3a ho2a
 refine QX_.w LG_ (by omega) ?_
 simp -implicitDefEqProofs only[Fm_,Ac,W_oS,Aa,W_mv,T.get_set,reduceIte, ↓reduceIte,Yx_ BD (show 0<d.pad0.length by rw[DS.pad0_len];omega)]
 obtain⟨u0,hu0⟩:=hob 0 (by omega)
 refine W.store1 I6 rfl hu0 fun sc nc xc oc=> ?_
 have sub: ∀x,In sa.next (0+0*1) 1 x→In sa.next 0 80 x:=fun x h=>⟨by have:=h.1;omega,by have:=h.2;omega⟩
 have up: ∀x,In sa.next 0 80 x→O2≤x:=fun x h=>by have:=h.1;omega
 have nod: ∀b m x,b+m≤s.next→In b 0 m x→ ¬In sa.next 0 80 x:=fun b m x hbm h h'=>by
  have g1:=h.2
  have g2:=h'.1
  omega
 have hxc:Ext (MidF D O2) (fun x=>O2≤x) s sc:=hxb.trans xc hb (fun x _ h=> .inr (up x (sub x h))) fun x _ h=>up x (sub x h)
 have hdc:Dig sc D d:=hdb.ext xc fun x h h'=>nod D 74 x (by omega) h (sub x h')
 have hcc:Dig sc C d:=hcb.ext xc fun x h h'=>nod C 74 x (by omega) h (sub x h')
 have ho3c:Bk sc O3 0 32:=ho3b.ext1 xc fun x h h'=>nod O3 32 x (by omega) h (sub x h')
 have ho2c:Bk sc O2 0 32:=ho2b.ext1 xc fun x h h'=>nod O2 32 x (by omega) h (sub x h')
 have hwc:Bk sc sa.next 0 80:=hob.ext (l:=[.int .u8 128]) xc (Ay.cons oc .nil)
 have hpc:Ay sc sa.next 0 (u8l d.pad0):=by
  have e:u8l d.pad0= .int .u8 128::List.replicate ((119-d.n%64)%64) (.int .u8 0):=by
   unfold DS.pad0 u8l
   rw[List.map_cons,List.map_replicate]
   rfl
  rw[e]
  refine Ay.cons oc fun i v hi=> ?_
  rw[List.getElem?_replicate]at hi
  split at hi
  ·rename_i hlt
   cases hi
   have:=hzb (1+i) (.int .u8 0) (by rw[List.getElem?_replicate,if_pos (by omega)])
   rw[←Nat.add_assoc]at this
   refine this.ext xc fun h=> ?_
   have:=h.2
   omega
  ·cases hi
 clear hob hzb hu0 oc
 have hbc:sc.lim≤sc.next:=hxc.bnd hb
 have hBn:sa.next+80≤sc.next:=by
  have h1:sb.next=sa.next+(rep 80 [Value.int .u8 0]).length+1:=nb
  omega
 refine Adk_.w JG_ (by omega) ?_
 simp -implicitDefEqProofs only[Ui,Aa,W_mv,Ab]
 refine PB_ (d:=d) (a2:= .pointer (some ⟨O2,0,none⟩)) (a3:= .pointer (some ⟨O3,0,none⟩)) (a4:= .pointer (some ⟨C,0,none⟩)) (by omega) hbc (.inl (show D+74≤sa.next by omega)) hBn 8 _ _ sc _ d.pad0 (Nat.le_refl _) (by omega) AaZ_ (Ext.refl sc) hdc hpc hwc (by omega) (by simp[T.get_set,h0]) (by simp[T.get_set,h2]) (by simp[T.get_set,h3]) (by simp[T.get_set,h4]) (by simp[T.get_set]) (by simp[T.get_set]) fun n' tm' sd td' f1 f2 xd hdd hpd t0 t2 t3 t4 t5=> ?_
 have hxd:Ext (MidF D O2) (fun x=>O2≤x) s sd:=hxc.trans xd hb (fun x _ h=>by
  rcases h with h|h
  ·exact .inl h
  ·exact .inr (up x h)) fun x _ h=>up x h
 have hcd:Dig sd C d:=hcc.ext xd fun x h h'=>nod C 74 x (by omega) h h'
 have ho3d:Bk sd O3 0 32:=ho3c.ext1 xd fun x h h'=>nod O3 32 x (by omega) h h'
 have ho2d:Bk sd O2 0 32:=ho2c.ext1 xd fun x h h'=>nod O2 32 x (by omega) h h'
 have hpl:d.pad.length=d.pad0.length+8:=by unfold DS.pad;rw[List.length_append,CX_]
 rw[←hpl]at t5
 have hpd':Ay sd sa.next 0 (u8l d.pad):=hpd
 have hbn:Bn sd (.slice (some ⟨sa.next,0,none⟩) d.pad.length 80) d.pad:=⟨sa.next,0,80,rfl,by rw[Nat.mod_eq_of_lt (BY (by decide))];omega,NL (BY (by decide)),hpd'.row⟩
 have hbd:sd.lim≤sd.next:=hxd.bnd hb
 refine Su_.w f2 (by omega) ?_
 simp -implicitDefEqProofs only[Bt_,Ac,W_on,Aa,W_mv,Af,Ae,Ad,Ai,t4,t5]
 refine Ga_ hbd (fun x h h'=>nod C 74 x (by omega) h' ⟨h.1,by have:=h.2;omega⟩) hcd (by omega) (fun _=>hbn) hbn.bs d.pad_byt (by omega) fun se xe he=> ?_
 have hxe:Ext (MidF D O2) (fun x=>O2≤x) s se:=hxd.trans xe hb (fun x _ h=>by
  rcases h with h|h
  ·exact .inr (by have:=h.1;omega)
  ·exact .inr (up x ⟨h.1,by have:=h.2;omega⟩)) fun x _ h=>by have:=h.1;omega
 have ho3e:Bk se O3 0 32:=ho3d.ext1 xe fun x h h'=>by have:=h.2;have:=h'.1;omega
 have ho2e:Bk se O2 0 32:=ho2d.ext1 xe fun x h h'=>by have:=h.2;have:=h'.1;omega
 have hbe:se.lim≤se.next:=hxe.bnd hb
 refine HZ_ (C:=C) hbe (hxe.cx.trans hcx) h23 he ho3e ho2e (by omega) IH_ t2 t3 t4 fun sf xf=>q sf (hxe.trans xf hb (fun x _ h=> ?_) fun x _ h=> ?_)
 ·rcases h with h|h|h
  ·exact .inr (by have:=h.1;omega)
  ·exact .inr (by have:=h.1;omega)
  ·exact .inr (by have:=h.1;omega)
 ·rcases h with h|h
  ·have:=h.1;omega
  ·have:=h.1;omega
theorem Ku_ {D n:Nat}{d:DS}{s:St}{Q:Value→St→Prop}(hbd:s.lim≤s.next)(hd:Dig s D d)(hmax:d.n≤900000000)(hn:2500≤n)
  (q: ∀s1,Ext (In D 0 74) Non s s1→Q (.agg (u8l d.sum).toArray) s1):W (AJ envS (runF envS n) 112 [.pointer (some ⟨D,0,none⟩)]) s Q:=by
 refine NQ_ fun tm h0=> ?_
 have hD:D+73<s.next:=by have:=hd.n.1;omega
 have hd0:Dig (s.cxN cxN) D d:=hd.same rfl rfl
 refine ON_.w rfl (by omega) ?_
 simp -implicitDefEqProofs only[Ae_,Ac,Aa,Ab]
 refine W.alloc Nh fun sa na xa oa=> ?_
 have na':sa.next=s.next+33:=na
 have hxa:Ext (In D 0 74) Non (s.cxN cxN) sa:=(Ext.refl _).step xa hbd (fun _ _ h=>h.elim) fun _ h=>h.elim
 refine To_.w Pz_ (by omega) ?_
 simp -implicitDefEqProofs only[ZQ,Ac,Aa,Ab]
 refine W.alloc Nh fun sb nb xb ob=> ?_
 have nb':sb.next=sa.next+33:=nb
 have hxb:Ext (In D 0 74) Non (s.cxN cxN) sb:=hxa.step xb hbd (fun _ _ h=>h.elim) fun _ h=>h.elim
 have hdb:Dig sb D d:=hd0.ext0 hxb
 have ho2:Bk sb s.next 0 32:=(Ay.owned oa).ext1 xb fun _ _ h=>h
 have ho3:Bk sb sa.next 0 32:=Ay.owned ob
 refine Oc_.w Vg_ (by omega) ?_
 simp -implicitDefEqProofs only[Zx,Ac,W_oS,W_on,Aa,W_mv,Ab,T.get_set,reduceIte,Ah,Ak,Aq,Ar,Aj,An,reduceCtorEq, ↓reduceIte,h0,Zf CZ_,Be Z8 (by decide:0<1)]
 refine W.load1 YR hdb.made.at' ?_
 simp -implicitDefEqProofs only[DO]
 have hxc:Ext (In D 0 74) Non (s.cxN cxN) (sb.rdN (D+(0+0))):=hxb.step (Ext.rdN (F:=In D 0 74) (G:=Non) sb _ fun _=>⟨by omega,by omega⟩) hbd (fun _ _ h=>h) fun _ h=>h.elim
 have hdc:Dig (sb.rdN (D+(0+0))) D d:=hdb.same rfl rfl
 have ho2c:Bk (sb.rdN (D+(0+0))) s.next 0 32:=fun j hj=>let ⟨u,h⟩:=ho2 j hj;⟨u,h.same rfl rfl⟩
 have ho3c:Bk (sb.rdN (D+(0+0))) sa.next 0 32:=fun j hj=>let ⟨u,h⟩:=ho3 j hj;⟨u,h.same rfl rfl⟩
 have nc:(sb.rdN (D+(0+0))).next=sb.next:=rfl
 refine W.cond (v:=false) AfH_ AeO_ (by simp[T.get_set]) (by omega) (fun h=>by cases h) fun _=> ?_
 generalize sb.rdN (D+(0+0))=sc at hxc hdc ho2c ho3c nc ⊢
 refine Zg_.w Rn_ (by omega) ?_
 simp -implicitDefEqProofs only[Au_,Ac,W_oS,Aa,W_mv,Ab,T.get_set,reduceIte,An,reduceCtorEq, ↓reduceIte,h0]
 refine W.loadA X3 hdc.toRow.row (d.row_len hd.len) fun sd md nd xd=> ?_
 have hxd:Ext (In D 0 74) Non (s.cxN cxN) sd:=hxc.step xd hbd (fun _ _ h=>h) fun _ h=>h.elim
 refine W.alloc SB_ fun se ne xe oe=> ?_
 have ne':se.next=sd.next+75:=ne
 have hxe:Ext (In D 0 74) Non (s.cxN cxN) se:=hxd.step xe hbd (fun _ _ h=>h.elim) fun _ h=>h.elim
 have hnd:sd.next=sc.next:=nd
 refine W.store X3 (d.row_len hd.len) d.row_one (fun i hi=>oe.owned i (by simp;omega)) fun sf nf xf of=> ?_
 have hnf:sf.next=se.next:=nf
 have hG: ∀x,In sd.next 0 74 x→s.next≤x:=fun x h=>by have:=h.1;omega
 have hxf:Ext (In D 0 74) Non (s.cxN cxN) sf:=hxe.step xf hbd (fun x hx h=>by
  have h1:=hG x h
  have h2:x<s.lim:=hx
  omega) fun x h=>hG x h
 have hbf:sf.lim≤sf.next:=hxf.bnd hbd
 have hcf:Dig sf sd.next d:=Dig.ofRow of hd.len hd.byt hd.ok
 have hdf:Dig sf D d:=hd0.ext0 hxf
 have ho2f:Bk sf s.next 0 32:=((ho2c.ext1 xd fun _ _ h=>h).ext1 xe fun _ _ h=>h).ext1 xf fun x h h'=>by
  have:=h.2
  have:=h'.1
  omega
 have ho3f:Bk sf sa.next 0 32:=((ho3c.ext1 xd fun _ _ h=>h).ext1 xe fun _ _ h=>h).ext1 xf fun x h h'=>by
  have:=h.2
  have:=h'.1
  omega
 refine Wu_ (D:=D) (C:=sd.next) (O2:=s.next) (O3:=sa.next) (d:=d) hbf hxf.cx hmax (by omega) (by omega) (by omega) (by omega) hdf hcf ho3f ho2f (by omega) AeJ_ (by simp[T.get_set,h0]) (by simp[T.get_set]) (by simp[T.get_set]) (by simp[T.get_set]) fun sg xg=> ?_
 have hxg:Ext (In D 0 74) Non (s.cxN cxN) sg:=hxf.step xg hbd (fun x hx h=>by
  have h2:x<s.lim:=hx
  rcases h with h|h
  ·exact h
  ·omega) fun x h=>h
 exact q _ hxg.cx'
theorem DS.write_n: ∀(f:Nat) (d:DS) (b:List Nat),b.length≤f→(DS.write f d b).n=d.n+b.length
 |0,d,b,h=>by
  have:b.length=0:=by omega
  unfold DS.write
  omega
 |f+1,d,b,h=>by
  unfold DS.write
  by_cases hb:b.length=0
  ·rw[if_pos hb];omega
  ·rw[if_neg hb]
   obtain⟨hk1,hk2⟩:=d.k_le b
   have hm:d.n%64<64:=Nat.mod_lt _ (by decide)
   have hk0:0<d.k b:=by
    unfold DS.k
    exact Nat.lt_min.2 ⟨by omega,by omega⟩
   rw[DS.write_n f _ _ (by rw[List.length_drop];omega),List.length_drop]
   show d.n+d.k b+(b.length-d.k b)=_
   omega
def sumB (b:List Nat):List Nat:=(DS.write b.length DS.new b).sum
theorem Y2 (b:List Nat):(sumB b).length=32:=DS.sum_len _
theorem Bs.bn' {s:St}{v:Value}{b:List Nat}(h:Bs s v b)(hb:b≠[]):Bn s v b:=by
 rcases h with⟨_,h⟩|h
 ·exact absurd h hb
 ·exact h
theorem Nw_ {n:Nat}{v:Value}{b:List Nat}{s:St}{Q:Value→St→Prop}(hbd:s.lim≤s.next)(hbs:Bs s v b)(hlt: ∀x,BsF v x→x<s.next)(hby:Byt b)(hmax:b.length≤900000)(hn:20*b.length+2600≤n)
  (q: ∀s1,Ext (BsF v) Non s s1→Q (.agg (u8l (sumB b)).toArray) s1):W (AJ envS (runF envS n) 73 [v]) s Q:=by
 refine GJ_ fun tm h0=> ?_
 have hbs0:Bs (s.cxN cxN) v b:=hbs.same rfl rfl
 refine Adh_.w rfl (by omega) ?_
 simp -implicitDefEqProofs only[YX,Ac,Aa,Ab]
 refine W.alloc Nh fun sa na xa oa=> ?_
 have na':sa.next=s.next+33:=na
 have hxa:Ext (BsF v) Non (s.cxN cxN) sa:=(Ext.refl _).step xa hbd (fun _ _ h=>h.elim) fun _ h=>h.elim
 refine Gw_.w Jw_ (by omega) ?_
 simp -implicitDefEqProofs only[DE_,Ac,W_on,Aa,W_mv,Ab,Ae,Ai]
 refine AdG_ (hxa.bnd hbd) (by omega) fun sb D hD1 hD2 xb hd=> ?_
 have hxb:Ext (BsF v) Non (s.cxN cxN) sb:=hxa.step xb hbd (fun _ _ h=>h.elim) fun _ h=>h.elim
 refine Vk_.w Ne_ (by omega) ?_
 simp -implicitDefEqProofs only[VN,Ac,W_on,Aa,W_mv,T.get_set,Af,Ae,Ad,Ai,reduceIte,reduceCtorEq, ↓reduceIte,h0]
 have hbsb:Bs sb v b:=hbs0.ext0 hxb
 refine Ga_ (hxb.bnd hbd) (fun x h h'=>by have:=hlt x h;have:=h'.1;omega) hd (show 0+b.length≤1000000000 by omega) (fun h=>hbsb.bn' h) hbsb hby (by omega) fun sc xc hdc=> ?_
 have hG: ∀x,In D 0 74 x→s.next≤x:=fun x h=>by have:=h.1;omega
 have hxc:Ext (BsF v) Non (s.cxN cxN) sc:=hxb.step xc hbd (fun x hx h=>by
  have h2:x<s.lim:=hx
  rcases h with h|h
  ·have:=hG x h;omega
  ·exact h) fun x h=>hG x h
 have hoc:Bk sc s.next 0 32:=((Ay.owned oa).ext1 xb fun _ _ h=>h).ext1 xc fun x h h'=>by
  have h1:x<s.next+0+32:=h.2
  have:=h'.1
  omega
 refine VI_.w Ni_ (by omega) ?_
 simp -implicitDefEqProofs only[EC_,Ac,W_oS,W_on,Aa,W_mv,T.get_set,Af,Ae,Ad,Ai,reduceIte,Nat.reduceEqDiff, ↓reduceIte]
 refine Ku_ (hxc.bnd hbd) hdc (by rw[DS.write_n _ _ _ (Nat.le_refl _)];show 0+b.length≤_;omega) (by omega) fun sd xd=> ?_
 have hxd:Ext (BsF v) Non (s.cxN cxN) sd:=hxc.step xd hbd (fun x hx h=>by
  have h2:x<s.lim:=hx
  have:=hG x h
  omega) fun _ h=>h.elim
 have hod:Bk sd s.next 0 32:=hoc.ext1 xd fun _ _ h=>h
 have hlen:(u8l (DS.write b.length DS.new b).sum).length=32:=by rw[By];exact DS.sum_len _
 refine W.store Gu hlen (CE _) hod fun se ne xe oe=> ?_
 have hG2: ∀x,In s.next 0 32 x→s.next≤x:=fun x h=>by have:=h.1;omega
 have hxe:Ext (BsF v) Non (s.cxN cxN) se:=hxd.step xe hbd (fun x hx h=>by
  have h2:x<s.lim:=hx
  have:=hG2 x h
  omega) hG2
 refine W.endC (r:=2) UB_ (.inl Pd_) (by omega) BP_ LE_ hxe.cx (by simp[T.get_set];rfl) ?_
 refine W.loadA Gu oe.row hlen fun sf mf nf xf=> ?_
 have hxf:Ext (BsF v) Non (s.cxN cxN) sf:=hxe.step xf hbd (fun x hx h=>by
  have h2:x<s.lim:=hx
  have:=hG2 x h
  omega) fun _ h=>h.elim
 exact q _ hxf.cx'
theorem QA {E:Env}{t n sz l c:Nat}{a:Addr}{s:St}(h:arrN E t=some (n,sz))(h1:n≤l)(h2:0<l)(Q:Value→St→Prop):W (Dn E t (.slice (some a) l c)) s Q=Q (.pointer (some a)) s:=by
 obtain⟨i,e,ie,g1,g2,g3,g4⟩:=UP h
 refine BB ?_
 unfold Dn
 rw[BE (show ti E t s= .some i s by unfold ti;rw[g1];rfl),g2]
 show M.chk (Nat.ble n l&&Nat.blt 0 l) (M.pure (Value.pointer (some a))) s=_
 rw[Nat.ble_eq_true_of_le h1,Cb h2]
 rfl
theorem VK:arrN envS 26=some (16,1):=by kernel_rfl
theorem CY:tyS envS 26=some (16,true):=by kernel_rfl
theorem Oh:Dd envS 26=some (List.replicate 16 (.int .u8 0)):=by kernel_rfl
def idB (b:List Nat):List Nat:=(sumB b).take 16
theorem Y1 (b:List Nat):(idB b).length=16:=by unfold idB;rw[List.length_take,Y2];rfl
theorem Iq_ {n:Nat}{v:Value}{b:List Nat}{s:St}{Q:Value→St→Prop}(hbd:s.lim≤s.next)(hbs:Bs s v b)(hlt: ∀x,BsF v x→x<s.next)(hby:Byt b)(hmax:b.length≤900000)(hn:20*b.length+2700≤n)
  (q: ∀s1,Ext (BsF v) Non s s1→Q (.agg (u8l (idB b)).toArray) s1):W (AJ envS (runF envS n) 32 [v]) s Q:=by
 refine Afu_ fun tm h0=> ?_
 have hbs0:Bs (s.cxN cxN) v b:=hbs.same rfl rfl
 refine ZE_.w rfl (by omega) ?_
 simp -implicitDefEqProofs only[ZT,Ac,Aa,Ab]
 refine W.alloc Oh fun sa na xa oa=> ?_
 have na':sa.next=s.next+17:=na
 have hxa:Ext (BsF v) Non (s.cxN cxN) sa:=(Ext.refl _).step xa hbd (fun _ _ h=>h.elim) fun _ h=>h.elim
 refine Kd_.w Tk_ (by omega) ?_
 simp -implicitDefEqProofs only[FH_,Ac,W_oS,W_on,Aa,W_mv,Ab,T.get_set,Af,Ae,Ad,Ai,reduceIte,reduceCtorEq, ↓reduceIte,h0]
 refine Nw_ (hxa.bnd hbd) (hbs0.ext0 hxa) (fun x h=>by have:=hlt x h;omega) hby hmax (by omega) fun sb xb=> ?_
 have hxb:Ext (BsF v) Non (s.cxN cxN) sb:=hxa.step xb hbd (fun _ _ h=>h) fun _ h=>h.elim
 refine W.alloc Nh fun sc nc xc oc=> ?_
 have hxc:Ext (BsF v) Non (s.cxN cxN) sc:=hxb.step xc hbd (fun _ _ h=>h.elim) fun _ h=>h.elim
 have hbn:sa.next≤sb.next:=xb.nxt
 have hlen:(u8l (sumB b)).length=32:=by rw[By];exact Y2 _
 refine W.store Gu hlen (CE _) (fun i hi=>oc.owned i (by simp;omega)) fun sd nd xd od=> ?_
 have hG: ∀x,In sb.next 0 32 x→s.next≤x:=fun x h=>by have:=h.1;omega
 have hxd:Ext (BsF v) Non (s.cxN cxN) sd:=hxc.step xd hbd (fun x hx h=>by
  have h2:x<s.lim:=hx
  have:=hG x h
  omega) hG
 have ho2:Bk sd s.next 0 16:=(((Ay.owned oa).ext1 xb fun _ _ h=>h).ext1 xc fun _ _ h=>h).ext1 xd fun x h h'=>by
  have h1:x<s.next+0+16:=h.2
  have:=h'.1
  omega
 refine HC_.w Wy_ (by omega) ?_
 simp -implicitDefEqProofs only[DD_,Ac,W_oS,W_on,Aa,T.get_set,Ad,reduceIte,Nat.reduceEqDiff, ↓reduceIte]
 simp -implicitDefEqProofs only[Md (lo:=none) (hi:=some (.int .i64 16)) (l:=0) (h:=16) UH (BY (by decide)) rfl rfl (Nat.zero_le _) (by decide),QA VK (show 16≤16-0 by decide) (by decide),reduceIte,reduceCtorEq, ↓reduceIte]
 have hlen2:(u8l (idB b)).length=16:=by rw[By];exact Y1 _
 have hod:Ay sd sb.next 0 (u8l (idB b)):=by
  have:=od.take (n:=16)
  show Ay sd sb.next 0 (u8l ((sumB b).take 16))
  unfold u8l
  rw[List.map_take]
  exact this
 refine W.loadA CY hod.row hlen2 fun se me ne xe=> ?_
 have hxe:Ext (BsF v) Non (s.cxN cxN) se:=hxd.step xe hbd (fun x hx h=>by
  have h2:x<s.lim:=hx
  have h3:sb.next+(0+0*1)≤x:=h.1
  omega) fun _ h=>h.elim
 have ho2e:Bk se s.next 0 16:=ho2.ext1 xe fun _ _ h=>h
 refine W.store CY hlen2 (CE _) ho2e fun sf nf xf of=> ?_
 have hG2: ∀x,In s.next 0 16 x→s.next≤x:=fun x h=>by have:=h.1;omega
 have hxf:Ext (BsF v) Non (s.cxN cxN) sf:=hxe.step xf hbd (fun x hx h=>by
  have h2:x<s.lim:=hx
  have:=hG2 x h
  omega) hG2
 refine W.endC (r:=2) LQ_ (.inl PD_) (by omega) XH Tv_ hxf.cx (by simp[T.get_set];rfl) ?_
 refine W.loadA CY of.row hlen2 fun sg mg ng xg=> ?_
 have hxg:Ext (BsF v) Non (s.cxN cxN) sg:=hxf.step xg hbd (fun x hx h=>by
  have h2:x<s.lim:=hx
  have:=hG2 x h
  omega) fun _ h=>h.elim
 exact q _ hxg.cx'
def J5:Nat:=Bw Try.f20
def Vg:Code:=Try.f20.body.getD .skip
theorem Lu:envS.fn.get 20=some Try.f20:=by kernel_rfl
theorem RF_ {a0:Value}{n:Nat}{s:St}{Q:Value→St→Prop}(h: ∀tm,T.get tm 0=some a0→W (runF envS n ⟨20,11,J5,tm,[.code Vg], .run, .normal,none⟩) (s.cxN cxN) fun p s1=>Q p.1 (s1.cxN s.cx)):W (AJ envS (runF envS n) 20 [a0]) s Q:=
 W.call (by kernel_rfl) (by kernel_rfl) Lu (by kernel_rfl) rfl rfl (by simp) (h _ (by kernel_rfl))
theorem RX:Try.f20.results.toList=[.tmp 2]:=by kernel_rfl
def Qh:List Item:=skim 64 [.code Vg]
def LM:List Item:=skim 64 Qh.tail
theorem Ij_:skim 64 Qh.tail=LM:=by kernel_rfl
def If:List Item:=skim 64 LM.tail
theorem Ry:skim 64 LM.tail=If:=by kernel_rfl
def Mj:List Item:=skim 64 (brT If)
theorem Xo:skim 64 (brT If)=Mj:=by kernel_rfl
def Lm:List Item:=skim 64 (brF If)
theorem Adn_:skim 64 (brF If)=Lm:=by kernel_rfl
def SD:List Item:=skim 64 Mj.tail
theorem BR_:skim 64 Mj.tail=SD:=by kernel_rfl
def QG:List Item:=skim 64 Lm.tail
theorem Vw_:skim 64 Lm.tail=QG:=by kernel_rfl
def DA_ (E:Env)(call round:Ag)(tm:T Value):M (T Value):=
 mv (some (.int .i64 0)) fun v2=>
 setF 2 v2 tm fun tm1=>
 M.pure tm1
theorem Qs_:RegEq 20 11 J5 Qh DA_:=⟨by kernel_rfl,fun _ _ _ _ _ _ _ _ _=>by kernel_rfl⟩
def W0 (E:Env)(call round:Ag)(tm:T Value):M (T Value):=
 mv (T.get tm 0) fun v3=>
 M.bind (oS (some v3) fun a=>oS (some (.int .i64 1)) fun b=>Cl.get (aBin E .lss 3 (.tmp 3) (.const (.int .i64 1))) a b) fun v4=>
 mv (some v4) fun v5=>
 M.bind (M.chk (isK v5) (M.if (isB v5 false) (oS (T.get tm 0) fun a=>M.pure a) (M.pure undef))) fun v6=>
 M.bind (M.chk (isK v5) (M.if (isB v5 false) (oS (some v6) fun a=>oS (some (.int .i64 1024)) fun b=>Cl.get (aBin E .gtr 3 (.tmp 6) (.const (.int .i64 1024))) a b) (M.pure undef))) fun v7=>
 M.bind (M.on (some v5) fun a=>M.on (some (.bool true)) fun b=>M.on (some v7) fun c=>Bv a b c) fun v8=>
 setF 8 v8 tm fun tm1=>
 M.pure tm1
theorem Lc_:RegEq 20 11 J5 LM W0:=⟨by kernel_rfl,fun _ _ _ _ _ _ _ _ _=>by kernel_rfl⟩
theorem RN:Bg If=some 8:=by kernel_rfl
def SL (E:Env)(call round:Ag)(tm:T Value):M (T Value):=
 mv (some (.int .i64 0)) fun v2=>
 setF 2 v2 tm fun tm1=>
 M.pure tm1
theorem Yr:RegEq 20 11 J5 Mj SL:=⟨by kernel_rfl,fun _ _ _ _ _ _ _ _ _=>by kernel_rfl⟩
def Wp (E:Env)(call round:Ag)(tm:T Value):M (T Value):=
 mv (T.get tm 0) fun v9=>
 M.bind (oS (some v9) fun a=>oS (some (.int .i64 26)) fun b=>Cl.get (aBin E .add 3 (.tmp 9) (.const (.int .i64 26))) a b) fun v10=>
 mv (some v10) fun v2=>
 setF 2 v2 tm fun tm1=>
 M.pure tm1
theorem Ua_:RegEq 20 11 J5 Lm Wp:=⟨by kernel_rfl,fun _ _ _ _ _ _ _ _ _=>by kernel_rfl⟩
theorem U8: ∃k,SD= .code .ret::k:=⟨SD.tail,by kernel_rfl⟩
theorem AcA_: ∃k,QG= .code .ret::k:=⟨QG.tail,by kernel_rfl⟩
def JK:Nat:=Bw Try.f62
def ZK:Code:=Try.f62.body.getD .skip
theorem ZV:envS.fn.get 62=some Try.f62:=by kernel_rfl
theorem Aen_ {a0:Value}{n:Nat}{s:St}{Q:Value→St→Prop}(h: ∀tm,T.get tm 0=some a0→W (runF envS n ⟨62,31,JK,tm,[.code ZK], .run, .normal,none⟩) (s.cxN cxN) fun p s1=>Q p.1 (s1.cxN s.cx)):W (AJ envS (runF envS n) 62 [a0]) s Q:=
 W.call (by kernel_rfl) (by kernel_rfl) ZV (by kernel_rfl) rfl rfl (by simp) (h _ (by kernel_rfl))
theorem IZ_:Try.f62.results.toList=[.cell 2 89]:=by kernel_rfl
def Q3:List Item:=skim 64 [.code ZK]
def NS:List Item:=skim 64 Q3.tail
theorem XV_:skim 64 Q3.tail=NS:=by kernel_rfl
def Ky:List Item:=skim 64 NS.tail
theorem Lf_:skim 64 NS.tail=Ky:=by kernel_rfl
def La:List Item:=skim 64 Ky.tail
theorem MY_:skim 64 Ky.tail=La:=by kernel_rfl
def To:List Item:=skim 64 La.tail
theorem Nq_:skim 64 La.tail=To:=by kernel_rfl
def BG_ (E:Env)(call round:Ag)(tm:T Value):M (T Value):=
 M.bind (BN E 89) fun v2=>
 setF 2 v2 tm fun tm1=>
 M.pure tm1
theorem AbE_:RegEq 62 31 JK Q3 BG_:=⟨by kernel_rfl,fun _ _ _ _ _ _ _ _ _=>by kernel_rfl⟩
def XI (E:Env)(call round:Ag)(tm:T Value):M (T Value):=
 mv (T.get tm 0) fun v6=>
 M.bind (oS (some v6) fun a=>oS (some (.int .u64 8)) fun b=>Cl.get (aBin E .shr 3 (.tmp 6) (.const (.int .u64 8))) a b) fun v7=>
 M.bind (oS (some v7) fun a=>B4 E 3 5 a) fun v8=>
 mv (T.get tm 0) fun v9=>
 M.bind (oS (some v9) fun a=>B4 E 3 5 a) fun v10=>
 mv (some v8) fun v3=>
 setF 3 v3 tm fun tm1=>
 mv (some v10) fun v4=>
 setF 4 v4 tm1 fun tm2=>
 M.pure tm2
theorem Tu_:RegEq 62 31 JK NS XI:=⟨by kernel_rfl,fun _ _ _ _ _ _ _ _ _=>by kernel_rfl⟩
def Xp (E:Env)(call round:Ag)(tm:T Value):M (T Value):=
 mv (T.get tm 3) fun v11=>
 mv (T.get tm 4) fun v12=>
 mv (T.get tm 3) fun v13=>
 M.bind (oS (some v13) fun a=>kUn E.P .xor a) fun v14=>
 mv (T.get tm 4) fun v15=>
 M.bind (oS (some v15) fun a=>kUn E.P .xor a) fun v16=>
 M.bind (oS (seqP [(0,(some v11)),(1,(some v12)),(2,(some v14)),(3,(some v16))]) fun ps=>B7 E 22 4 ps) fun v17=>
 M.bind (M.on (some (.func (.func 105) #[] #[])) fun f=>M.on (seqO [(some v17)]) fun l=>Bh call round f l) fun v18=>
 mv (some v18) fun v5=>
 setF 5 v5 tm fun tm1=>
 M.pure tm1
theorem PC_:RegEq 62 31 JK Ky Xp:=⟨by kernel_rfl,fun _ _ _ _ _ _ _ _ _=>by kernel_rfl⟩
def Bh_ (E:Env)(call round:Ag)(tm:T Value):M (T Value):=
 mv (T.get tm 3) fun v19=>
 mv (T.get tm 4) fun v20=>
 mv (T.get tm 3) fun v21=>
 M.bind (oS (some v21) fun a=>kUn E.P .xor a) fun v22=>
 mv (T.get tm 4) fun v23=>
 M.bind (oS (some v23) fun a=>kUn E.P .xor a) fun v24=>
 mv (T.get tm 5) fun v25=>
 M.bind (oS (some v25) fun a=>B4 E 51 5 a) fun v26=>
 mv (T.get tm 5) fun v27=>
 M.bind (oS (some v27) fun a=>oS (some (.int .u64 8)) fun b=>Cl.get (aBin E .shr 51 (.tmp 27) (.const (.int .u64 8))) a b) fun v28=>
 M.bind (oS (some v28) fun a=>B4 E 51 5 a) fun v29=>
 M.bind (oS (seqP [(0,(some v19)),(1,(some v20)),(2,(some v22)),(3,(some v24)),(4,(some v26)),(5,(some v29))]) fun ps=>Cv E 89 ps) fun v30=>
 M.bind (oS (T.get tm 2) fun a=>oS (some v30) fun b=>Bt E 89 a b) fun _=>
 M.pure tm
theorem Og_:RegEq 62 31 JK La Bh_:=⟨by kernel_rfl,fun _ _ _ _ _ _ _ _ _=>by kernel_rfl⟩
theorem ME_: ∃k,To= .code .ret::k:=⟨To.tail,by kernel_rfl⟩
def Ey:Nat:=Bw Try.f71
abbrev AaW_:Nat:=45
def YD:Code:=Try.f71.body.getD .skip
theorem Oi:envS.fn.get 71=some Try.f71:=by kernel_rfl
theorem VS {a0 a1:Value}{n:Nat}{s:St}{Q:Value→St→Prop}(h: ∀tm,T.get tm 0=some a0→T.get tm 1=some a1→W (runF envS n ⟨71,45,Ey,tm,[.code YD], .run, .normal,none⟩) (s.cxN cxN) fun p s1=>Q p.1 (s1.cxN s.cx)):W (AJ envS (runF envS n) 71 [a0,a1]) s Q:=
 W.call (by kernel_rfl) (by kernel_rfl) Oi (by kernel_rfl) rfl rfl (by simp) (h _ (by kernel_rfl) (by kernel_rfl))
theorem RS:Try.f71.results.toList=[.tmp 4, .tmp 5]:=by kernel_rfl
def T0:List Item:=skim 64 [.code YD]
def OK:List Item:=skim 64 T0.tail
theorem WJ:skim 64 T0.tail=OK:=by kernel_rfl
def HD:List Item:=skim 64 OK.tail
theorem ZB:skim 64 OK.tail=HD:=by kernel_rfl
def OV:List Item:=skim 64 (brT HD)
theorem OD_:skim 64 (brT HD)=OV:=by kernel_rfl
def Jp:List Item:=skim 64 (brF HD)
theorem IQ_:skim 64 (brF HD)=Jp:=by kernel_rfl
def Rt:List Item:=skim 64 OV.tail
theorem Vi_:skim 64 OV.tail=Rt:=by kernel_rfl
def HJ:List Item:=skim 64 Jp.tail
theorem Il_:skim 64 Jp.tail=HJ:=by kernel_rfl
def TB:List Item:=skim 64 HJ.tail
theorem Cp_:skim 64 HJ.tail=TB:=by kernel_rfl
def QF (E:Env)(call round:Ag)(tm:T Value):M (T Value):=
 mv (some (.int .i64 0)) fun v4=>
 setF 4 v4 tm fun tm1=>
 mv (some (.bool false)) fun v5=>
 setF 5 v5 tm1 fun tm2=>
 M.pure tm2
theorem Uy:RegEq 71 45 Ey T0 QF:=⟨by kernel_rfl,fun _ _ _ _ _ _ _ _ _=>by kernel_rfl⟩
def Sw (E:Env)(call round:Ag)(tm:T Value):M (T Value):=
 mv (T.get tm 1) fun v7=>
 M.bind (oS (some v7) fun a=>oS (some (.int .i64 0)) fun b=>Cl.get (aBin E .lss 3 (.tmp 7) (.const (.int .i64 0))) a b) fun v8=>
 mv (some v8) fun v9=>
 M.bind (M.chk (isK v9) (M.if (isB v9 false) (oS (T.get tm 1) fun a=>M.pure a) (M.pure undef))) fun v10=>
 M.bind (M.chk (isK v9) (M.if (isB v9 false) (oS (T.get tm 0) fun a=>M.pure a) (M.pure undef))) fun v11=>
 M.bind (M.chk (isK v9) (M.if (isB v9 false) (oS (seqO [(some v11)]) fun l=>A7 E .len [22] l) (M.pure undef))) fun v12=>
 M.bind (M.chk (isK v9) (M.if (isB v9 false) (oS (some v12) fun a=>oS (some (.int .i64 6)) fun b=>Cl.get (aBin E .sub 3 (.tmp 12) (.const (.int .i64 6))) a b) (M.pure undef))) fun v13=>
 M.bind (M.chk (isK v9) (M.if (isB v9 false) (oS (some v10) fun a=>oS (some v13) fun b=>Cl.get (aBin E .gtr 3 (.tmp 10) (.tmp 13)) a b) (M.pure undef))) fun v14=>
 M.bind (M.on (some v9) fun a=>M.on (some (.bool true)) fun b=>M.on (some v14) fun c=>Bv a b c) fun v15=>
 setF 15 v15 tm fun tm1=>
 M.pure tm1
theorem Cm_:RegEq 71 45 Ey OK Sw:=⟨by kernel_rfl,fun _ _ _ _ _ _ _ _ _=>by kernel_rfl⟩
theorem U6:Bg HD=some 15:=by kernel_rfl
def WI (E:Env)(call round:Ag)(tm:T Value):M (T Value):=
 mv (some (.int .i64 0)) fun v4=>
 setF 4 v4 tm fun tm1=>
 mv (some (.bool false)) fun v5=>
 setF 5 v5 tm1 fun tm2=>
 M.pure tm2
theorem AbY_:RegEq 71 45 Ey OV WI:=⟨by kernel_rfl,fun _ _ _ _ _ _ _ _ _=>by kernel_rfl⟩
def EG_ (E:Env)(call round:Ag)(tm:T Value):M ((Rho×T Value)×List OpLog):=
 M.bind (apartO (oS (T.get tm 0) fun a=>M.pure a)) fun p0=>
 M.bind (apartO (oS (T.get tm 1) fun a=>M.pure a)) fun p1=>
 M.bind (apartO (oS (some p0.1) fun a=>oS (some p1.1) fun b=>Bo E 22 a b)) fun p2=>
 M.bind (apartO (oS (some p2.1) fun a=>AE E 5 a)) fun p3=>
 M.bind (apartO (oS (some p3.1) fun a=>B4 E 5 3 a)) fun p4=>
 M.bind (apartO (oS (some p4.1) fun a=>oS (some (.int .u64 8)) fun b=>Cl.get (aBin E .shl 3 (.tmp 20) (.const (.int .u64 8))) a b)) fun p5=>
 M.bind (apartO (oS (T.get tm 0) fun a=>M.pure a)) fun p6=>
 M.bind (apartO (oS (T.get tm 1) fun a=>M.pure a)) fun p7=>
 M.bind (apartO (oS (some p7.1) fun a=>oS (some (.int .i64 1)) fun b=>Cl.get (aBin E .add 3 (.tmp 23) (.const (.int .i64 1))) a b)) fun p8=>
 M.bind (apartO (oS (some p6.1) fun a=>oS (some p8.1) fun b=>Bo E 22 a b)) fun p9=>
 M.bind (apartO (oS (some p9.1) fun a=>AE E 5 a)) fun p10=>
 M.bind (apartO (oS (some p10.1) fun a=>B4 E 5 3 a)) fun p11=>
 M.bind (apartO (oS (some p5.1) fun a=>oS (some p11.1) fun b=>Cl.get (aBin E .or 3 (.tmp 21) (.tmp 27)) a b)) fun p12=>
 M.pure (([p12.1,p11.1,p10.1,p9.1,p8.1,p7.1,p6.1,p5.1,p4.1,p3.1,p2.1,p1.1,p0.1],tm),[p12.2,p11.2,p10.2,p9.2,p8.2,p7.2,p6.2,p5.2,p4.2,p3.2,p2.2,p1.2,p0.2])
theorem YP_:DrawEq 71 45 Ey Jp [0,0,3,7,15,31,0,0,128,448,960,1984,4095,8191] EG_:=⟨by kernel_rfl,by kernel_rfl,fun _ _ _ _ _ _ _ _ _=>by kernel_rfl⟩
theorem Ado_ (E:Env)(call round:Ag)(x16 x17 x18 x19 x20 x21 x22 x23 x24 x25 x26 x27 x28:Value)(tm:T Value)(s:St):BP call round (Ct E Ey 45 (hdC Jp)) [x28,x27,x26,x25,x24,x23,x22,x21,x20,x19,x18,x17,x16] tm s=(M.bind (oS (some x28) fun a=>M.pure a) fun v6=>setT 6 v6 tm fun tm1=>M.pure tm1) s:=by kernel_rfl
theorem Aav_: ∃k,Rt= .code .ret::k:=⟨Rt.tail,by kernel_rfl⟩
def Dv_ (E:Env)(call round:Ag)(tm:T Value):M ((Rho×T Value)×List OpLog):=
 M.bind (apartO (oS (T.get tm 6) fun a=>M.pure a)) fun p0=>
 M.bind (apartO (oS (T.get tm 6) fun a=>M.pure a)) fun p1=>
 M.bind (apartO (M.on (some (.func (.func 20) #[] #[])) fun f=>M.on (seqO [(some p1.1)]) fun l=>Bh call round f l)) fun p2=>
 M.bind (apartO (oS (some p2.1) fun a=>oS (some (.int .i64 0)) fun b=>Cl.get (aBin E .gtr 3 (.tmp 31) (.const (.int .i64 0))) a b)) fun p3=>
 M.bind (apartO (oS (some p3.1) fun a=>M.pure a)) fun p4=>
 M.bind (apartO (M.chk (isK p4.1) (M.if (isB p4.1 true) (oS (T.get tm 0) fun a=>M.pure a) (M.pure undef)))) fun p5=>
 M.bind (apartO (M.chk (isK p4.1) (M.if (isB p4.1 true) (oS (T.get tm 1) fun a=>M.pure a) (M.pure undef)))) fun p6=>
 M.bind (apartO (M.chk (isK p4.1) (M.if (isB p4.1 true) (oS (T.get tm 1) fun a=>M.pure a) (M.pure undef)))) fun p7=>
 M.bind (apartO (M.chk (isK p4.1) (M.if (isB p4.1 true) (oS (some p7.1) fun a=>oS (some (.int .i64 6)) fun b=>Cl.get (aBin E .add 3 (.tmp 36) (.const (.int .i64 6))) a b) (M.pure undef)))) fun p8=>
 M.bind (apartO (M.chk (isK p4.1) (M.if (isB p4.1 true) (M.on (some p5.1) fun a=>M.on (onO (some p6.1) fun v=>some (some v)) fun b=>M.on (onO (some p8.1) fun v=>some (some v)) fun c=>BW E 22 a b c) (M.pure undef)))) fun p9=>
 M.bind (apartO (M.chk (isK p4.1) (M.if (isB p4.1 true) (oS (some p9.1) fun a=>Dn E 89 a) (M.pure undef)))) fun p10=>
 M.bind (apartO (M.chk (isK p4.1) (M.if (isB p4.1 true) (oS (some p10.1) fun a=>AE E 89 a) (M.pure undef)))) fun p11=>
 M.bind (apartO (M.chk (isK p4.1) (M.if (isB p4.1 true) (oS (T.get tm 6) fun a=>M.pure a) (M.pure undef)))) fun p12=>
 M.bind (apartO (M.chk (isK p4.1) (M.if (isB p4.1 true) (M.on (some (.func (.func 62) #[] #[])) fun f=>M.on (seqO [(some p12.1)]) fun l=>Bh call round f l) (M.pure undef)))) fun p13=>
 M.bind (apartO (M.chk (isK p4.1) (M.if (isB p4.1 true) (oS (some p11.1) fun a=>oS (some p13.1) fun b=>Cl.get (aBin E .eql 89 (.tmp 40) (.tmp 42)) a b) (M.pure undef)))) fun p14=>
 M.bind (apartO (M.on (some p4.1) fun a=>M.on (some p14.1) fun b=>M.on (some (.bool false)) fun c=>Bv a b c)) fun p15=>
 M.bind (apartO (oS (some p0.1) fun a=>M.pure a)) fun p16=>
 setT 4 p16.1 tm fun tm1=>
 M.pure (([p16.1,p15.1,p14.1,p13.1,p12.1,p11.1,p10.1,p9.1,p8.1,p7.1,p6.1,p5.1,p4.1,p3.1,p2.1,p1.1,p0.1],tm1),[p16.2,p15.2,p14.2,p13.2,p12.2,p11.2,p10.2,p9.2,p8.2,p7.2,p6.2,p5.2,p4.2,p3.2,p2.2,p1.2,p0.2])
theorem WF_:DrawEq 71 45 Ey HJ [0,0,2,6,14,30,30,30,158,510,1022,2046,30,4126,16382,32766,12319,131071] Dv_:=⟨by kernel_rfl,by kernel_rfl,fun _ _ _ _ _ _ _ _ _=>by kernel_rfl⟩
theorem X1 (E:Env)(call round:Ag)(x29 x30 x31 x32 x33 x34 x35 x36 x37 x38 x39 x40 x41 x42 x43 x44 x4:Value)(tm:T Value)(s:St):BP call round (Ct E Ey 45 (hdC HJ)) [x4,x44,x43,x42,x41,x40,x39,x38,x37,x36,x35,x34,x33,x32,x31,x30,x29] tm s=(M.bind (oS (some x44) fun a=>M.pure a) fun v5=>setT 5 v5 tm fun tm1=>M.pure tm1) s:=by kernel_rfl
theorem Ux: ∃k,TB= .code .ret::k:=⟨TB.tail,by kernel_rfl⟩
def D2:Nat:=Bw Try.f72
abbrev YV:Nat:=39
def Ww:Code:=Try.f72.body.getD .skip
theorem Pl:envS.fn.get 72=some Try.f72:=by kernel_rfl
theorem Adw_ {a0 a1 a2:Value}{n:Nat}{s:St}{Q:Value→St→Prop}(h: ∀tm,T.get tm 0=some a0→T.get tm 1=some a1→T.get tm 2=some a2→W (runF envS n ⟨72,39,D2,tm,[.code Ww], .run, .normal,none⟩) (s.cxN cxN) fun p s1=>Q p.1 (s1.cxN s.cx)):W (AJ envS (runF envS n) 72 [a0,a1,a2]) s Q:=
 W.call (by kernel_rfl) (by kernel_rfl) Pl (by kernel_rfl) rfl rfl (by simp) (h _ (by kernel_rfl) (by kernel_rfl) (by kernel_rfl))
theorem ZF:Try.f72.results.toList=[.cell 6 26, .tmp 7, .tmp 8]:=by kernel_rfl
def Qg:List Item:=skim 64 [.code Ww]
def KA:List Item:=skim 64 Qg.tail
theorem KL_:skim 64 Qg.tail=KA:=by kernel_rfl
def M2:List Item:=skim 64 KA.tail
theorem CS_:skim 64 KA.tail=M2:=by kernel_rfl
def G9:List Item:=skim 64 M2.tail
theorem UK:skim 64 M2.tail=G9:=by kernel_rfl
def Km:List Item:=skim 64 (brT G9)
theorem Nl_:skim 64 (brT G9)=Km:=by kernel_rfl
def K7:List Item:=skim 64 (brF G9)
theorem Qv_:skim 64 (brF G9)=K7:=by kernel_rfl
def QB:List Item:=skim 64 Km.tail
theorem MD_:skim 64 Km.tail=QB:=by kernel_rfl
def H5:List Item:=skim 64 K7.tail
theorem JC_:skim 64 K7.tail=H5:=by kernel_rfl
def Ko:List Item:=skim 64 H5.tail
theorem Pq_:skim 64 H5.tail=Ko:=by kernel_rfl
def UL (E:Env)(call round:Ag)(tm:T Value):M (T Value):=
 M.bind (BN E 26) fun v6=>
 setF 6 v6 tm fun tm1=>
 mv (some (.slice none 0 0)) fun v7=>
 setF 7 v7 tm1 fun tm2=>
 mv (some (.bool false)) fun v8=>
 setF 8 v8 tm2 fun tm3=>
 M.pure tm3
theorem Kg_:RegEq 72 39 D2 Qg UL:=⟨by kernel_rfl,fun _ _ _ _ _ _ _ _ _=>by kernel_rfl⟩
def Bz_ (E:Env)(call round:Ag)(tm:T Value):M (T Value):=
 mv (T.get tm 0) fun v13=>
 mv (T.get tm 1) fun v14=>
 M.bind (oS (some v14) fun a=>oS (some (.int .i64 6)) fun b=>Cl.get (aBin E .add 3 (.tmp 14) (.const (.int .i64 6))) a b) fun v15=>
 mv (T.get tm 1) fun v16=>
 mv (T.get tm 2) fun v17=>
 M.bind (M.on (some (.func (.func 20) #[] #[])) fun f=>M.on (seqO [(some v17)]) fun l=>Bh call round f l) fun v18=>
 M.bind (oS (some v16) fun a=>oS (some v18) fun b=>Cl.get (aBin E .add 3 (.tmp 16) (.tmp 18)) a b) fun v19=>
 M.bind (M.on (some v13) fun a=>M.on (onO (some v15) fun v=>some (some v)) fun b=>M.on (onO (some v19) fun v=>some (some v)) fun c=>BW E 22 a b c) fun v20=>
 M.bind (M.on (some (.func (.func 81) #[] #[])) fun f=>M.on (seqO [(some v20)]) fun l=>Bh call round f l) fun v21=>
 mv (some v21) fun v12=>
 M.bind (oS (some v12) fun a=>kExt 0 a) fun v22=>
 M.bind (oS (some v12) fun a=>kExt 1 a) fun v23=>
 mv (some v22) fun v9=>
 setF 9 v9 tm fun tm1=>
 mv (some v23) fun v10=>
 setF 10 v10 tm1 fun tm2=>
 M.pure tm2
theorem Ll_:RegEq 72 39 D2 KA Bz_:=⟨by kernel_rfl,fun _ _ _ _ _ _ _ _ _=>by kernel_rfl⟩
def Py (E:Env)(call round:Ag)(tm:T Value):M (T Value):=
 mv (T.get tm 10) fun v24=>
 M.bind (oS (some v24) fun a=>oS (some (.int .i64 0)) fun b=>Cl.get (aBin E .neq 27 (.tmp 24) (.const (.int .i64 0))) a b) fun v25=>
 setF 25 v25 tm fun tm1=>
 M.pure tm1
theorem VB:RegEq 72 39 D2 M2 Py:=⟨by kernel_rfl,fun _ _ _ _ _ _ _ _ _=>by kernel_rfl⟩
theorem Fp_:Bg G9=some 25:=by kernel_rfl
def Do_ (E:Env)(call round:Ag)(tm:T Value):M (T Value):=
 M.bind (oS (seqP []) fun ps=>Cv E 26 ps) fun v26=>
 M.bind (oS (T.get tm 6) fun a=>oS (some v26) fun b=>Bt E 26 a b) fun _=>
 mv (some (.slice none 0 0)) fun v7=>
 setF 7 v7 tm fun tm1=>
 mv (some (.bool false)) fun v8=>
 setF 8 v8 tm1 fun tm2=>
 M.pure tm2
theorem ZP_:RegEq 72 39 D2 Km Do_:=⟨by kernel_rfl,fun _ _ _ _ _ _ _ _ _=>by kernel_rfl⟩
def DJ_ (E:Env)(call round:Ag)(tm:T Value):M (T Value):=
 mv (T.get tm 9) fun v27=>
 M.bind (M.on (some v27) fun a=>M.on (some none) fun b=>M.on (onO (some (.int .i64 16)) fun v=>some (some v)) fun c=>BW E 22 a b c) fun v28=>
 M.bind (oS (some v28) fun a=>Dn E 26 a) fun v29=>
 M.bind (oS (some v29) fun a=>AE E 26 a) fun v30=>
 M.bind (BN E 26) fun v11=>
 setF 11 v11 tm fun tm1=>
 M.bind (oS (some v11) fun a=>oS (some v30) fun b=>Bt E 26 a b) fun _=>
 M.pure tm1
theorem Yi_:RegEq 72 39 D2 K7 DJ_:=⟨by kernel_rfl,fun _ _ _ _ _ _ _ _ _=>by kernel_rfl⟩
theorem Aba_: ∃k,QB= .code .ret::k:=⟨QB.tail,by kernel_rfl⟩
def Zb (E:Env)(call round:Ag)(tm:T Value):M ((Rho×T Value)×List OpLog):=
 M.bind (apartO (oS (T.get tm 11) fun a=>AE E 26 a)) fun p0=>
 M.bind (apartO (oS (T.get tm 9) fun a=>M.pure a)) fun p1=>
 M.bind (apartO (M.on (some p1.1) fun a=>M.on (onO (some (.int .i64 16)) fun v=>some (some v)) fun b=>M.on (some none) fun c=>BW E 22 a b c)) fun p2=>
 M.bind (apartO (oS (T.get tm 9) fun a=>M.pure a)) fun p3=>
 M.bind (apartO (M.on (some p3.1) fun a=>M.on (onO (some (.int .i64 16)) fun v=>some (some v)) fun b=>M.on (some none) fun c=>BW E 22 a b c)) fun p4=>
 M.bind (apartO (M.on (some (.func (.func 32) #[] #[])) fun f=>M.on (seqO [(some p4.1)]) fun l=>Bh call round f l)) fun p5=>
 M.bind (apartO (oS (T.get tm 11) fun a=>AE E 26 a)) fun p6=>
 M.bind (apartO (oS (some p5.1) fun a=>oS (some p6.1) fun b=>Cl.get (aBin E .eql 26 (.tmp 36) (.tmp 37)) a b)) fun p7=>
 M.bind (apartO (oS (T.get tm 6) fun a=>oS (some p0.1) fun b=>Bt E 26 a b)) fun p8=>
 M.bind (apartO (oS (some p2.1) fun a=>M.pure a)) fun p9=>
 setT 7 p9.1 tm fun tm1=>
 M.pure (([p9.1,p7.1,p6.1,p5.1,p4.1,p3.1,p2.1,p1.1,p0.1],tm1),[p9.2,p8.2,p7.2,p6.2,p5.2,p4.2,p3.2,p2.2,p1.2,p0.2])
theorem TJ_:DrawEq 72 39 D2 H5 [0,0,2,0,8,24,0,120,57,319,1023] Zb:=⟨by kernel_rfl,by kernel_rfl,fun _ _ _ _ _ _ _ _ _=>by kernel_rfl⟩
theorem AaA_ (E:Env)(call round:Ag)(x31 x32 x33 x34 x35 x36 x37 x38 x7:Value)(tm:T Value)(s:St):BP call round (Ct E D2 39 (hdC H5)) [x7,x38,x37,x36,x35,x34,x33,x32,x31] tm s=(M.bind (oS (some x38) fun a=>M.pure a) fun v8=>setT 8 v8 tm fun tm1=>M.pure tm1) s:=by kernel_rfl
theorem Ks_: ∃k,Ko= .code .ret::k:=⟨Ko.tail,by kernel_rfl⟩
def Tk:Nat:=Bw Try.f68
def Vq:Code:=Try.f68.body.getD .skip
theorem Uh:envS.fn.get 68=some Try.f68:=by kernel_rfl
theorem Hf_ {a0:Value}{n:Nat}{s:St}{Q:Value→St→Prop}(h: ∀tm,T.get tm 0=some a0→W (runF envS n ⟨68,4,Tk,tm,[.code Vq], .run, .normal,none⟩) (s.cxN cxN) fun p s1=>Q p.1 (s1.cxN s.cx)):W (AJ envS (runF envS n) 68 [a0]) s Q:=
 W.call (by kernel_rfl) (by kernel_rfl) Uh (by kernel_rfl) rfl rfl (by simp) (h _ (by kernel_rfl))
theorem Rq_:Try.f68.results.toList=[.tmp 2]:=by kernel_rfl
def Rm:List Item:=skim 64 [.code Vq]
def Ks:List Item:=skim 64 Rm.tail
theorem Mc_:skim 64 Rm.tail=Ks:=by kernel_rfl
def R5:List Item:=skim 64 Ks.tail
theorem Aah_:skim 64 Ks.tail=R5:=by kernel_rfl
def Ws (E:Env)(call round:Ag)(tm:T Value):M (T Value):=
 M.bind (oS (T.get tm 0) fun a=>kBox a) fun v1=>
 setF 1 v1 tm fun tm1=>
 mv (some .nilFunc) fun v2=>
 setF 2 v2 tm1 fun tm2=>
 M.pure tm2
theorem AeI_:RegEq 68 4 Tk Rm Ws:=⟨by kernel_rfl,fun _ _ _ _ _ _ _ _ _=>by kernel_rfl⟩
def Er_ (E:Env)(call round:Ag)(tm:T Value):M (T Value):=
 M.bind (oS (seqO []) fun a=>oS (seqO [(T.get tm 1)]) fun b=>M.pure (.func (.func 109) a.toArray b.toArray)) fun v3=>
 mv (some v3) fun v2=>
 setF 2 v2 tm fun tm1=>
 M.pure tm1
theorem UU_:RegEq 68 4 Tk Ks Er_:=⟨by kernel_rfl,fun _ _ _ _ _ _ _ _ _=>by kernel_rfl⟩
theorem Vs_: ∃k,R5= .code .ret::k:=⟨R5.tail,by kernel_rfl⟩
def B1:Nat:=Bw Try.f109
abbrev DZ:Nat:=66
def DW_:Code:=Try.f109.body.getD .skip
theorem Gj_:envS.fn.get 109=some Try.f109:=by kernel_rfl
theorem Xi_ {a0 a1:Value}{n:Nat}{s:St}{Q:Value→St→Prop}(h: ∀tm,T.get tm 0=some a0→T.get tm 1=some a1→W (runF envS n ⟨109,66,B1,tm,[.code DW_], .run, .normal,none⟩) (s.cxN cxN) fun p s1=>Q p.1 (s1.cxN s.cx)):W (AJ envS (runF envS n) 109 [a0,a1]) s Q:=
 W.call (by kernel_rfl) (by kernel_rfl) Gj_ (by kernel_rfl) rfl rfl (by simp) (h _ (by kernel_rfl) (by kernel_rfl))
theorem MQ_:Try.f109.results.toList=[]:=by kernel_rfl
def Qz:List Item:=skim 64 [.code DW_]
def E2:List Item:=skim 64 Qz.tail
theorem YJ_:skim 64 Qz.tail=E2:=by kernel_rfl
def OS:List Item:=skim 64 E2.tail
theorem Y7:skim 64 E2.tail=OS:=by kernel_rfl
def Ov:List Item:=skim 64 OS.tail
theorem EQ_:skim 64 OS.tail=Ov:=by kernel_rfl
def F6:List Item:=skim 64 Ov.tail
theorem SH:skim 64 Ov.tail=F6:=by kernel_rfl
def M8:List Item:=skim 64 (brT F6)
theorem Et_:skim 64 (brT F6)=M8:=by kernel_rfl
def Mc:List Item:=skim 64 (brF F6)
theorem Ib_:skim 64 (brF F6)=Mc:=by kernel_rfl
def FU:List Item:=skim 64 M8.tail
theorem Yj:skim 64 M8.tail=FU:=by kernel_rfl
def FX:List Item:=skim 64 Mc.tail
theorem CU_:skim 64 Mc.tail=FX:=by kernel_rfl
def WE:List Item:=skim 64 FU.tail
theorem ZC_:skim 64 FU.tail=WE:=by kernel_rfl
def EU:List Item:=skim 64 (brT FX)
theorem AeH_:skim 64 (brT FX)=EU:=by kernel_rfl
def Iz:List Item:=skim 64 (brF FX)
theorem AbW_:skim 64 (brF FX)=Iz:=by kernel_rfl
def Mh:List Item:=skim 64 (brT EU)
theorem Al_:skim 64 (brT EU)=Mh:=by kernel_rfl
def ML:List Item:=skim 64 (brF EU)
theorem WS:skim 64 (brF EU)=ML:=by kernel_rfl
theorem VU:skim 64 Iz.tail=EU:=by kernel_rfl
theorem UN_:skim 64 Mh.tail=FU:=by kernel_rfl
def I7:List Item:=skim 64 ML.tail
theorem Aj_:skim 64 ML.tail=I7:=by kernel_rfl
def GF:List Item:=skim 64 (brT I7)
theorem ZX_:skim 64 (brT I7)=GF:=by kernel_rfl
theorem Qe_:skim 64 (brF I7)=FU:=by kernel_rfl
def IF:List Item:=skim 64 GF.tail
theorem YQ_:skim 64 GF.tail=IF:=by kernel_rfl
def Lo:List Item:=skim 64 IF.tail
theorem MO_:skim 64 IF.tail=Lo:=by kernel_rfl
def Qr:List Item:=skim 64 (brF Lo)
theorem Ra_:skim 64 (brF Lo)=Qr:=by kernel_rfl
theorem Sg_:skim 64 Qr.tail=E2:=by kernel_rfl
def CB_ (E:Env)(call round:Ag)(tm:T Value):M (T Value):=
 mv (some (.int .i64 0)) fun v3=>
 setF 3 v3 tm fun tm1=>
 M.pure tm1
theorem OO_:RegEq 109 66 B1 Qz CB_:=⟨by kernel_rfl,fun _ _ _ _ _ _ _ _ _=>by kernel_rfl⟩
def SF (E:Env)(call round:Ag)(tm:T Value):M (T Value):=
 M.bind (oS (T.get tm 1) fun a=>AE E 22 a) fun v11=>
 mv (T.get tm 3) fun v12=>
 M.bind (M.on (some (.func (.func 71) #[] #[])) fun f=>M.on (seqO [(some v11),(some v12)]) fun l=>Bh call round f l) fun v13=>
 mv (some v13) fun v10=>
 M.bind (oS (some v10) fun a=>kExt 0 a) fun v14=>
 M.bind (oS (some v10) fun a=>kExt 1 a) fun v15=>
 mv (some v14) fun v4=>
 setF 4 v4 tm fun tm1=>
 mv (some v15) fun v5=>
 setF 5 v5 tm1 fun tm2=>
 M.pure tm2
theorem Ck_:RegEq 109 66 B1 E2 SF:=⟨by kernel_rfl,fun _ _ _ _ _ _ _ _ _=>by kernel_rfl⟩
def Rw (E:Env)(call round:Ag)(tm:T Value):M (T Value):=
 mv (some (.int .i64 2)) fun v6=>
 setF 6 v6 tm fun tm1=>
 M.pure tm1
theorem Vz:RegEq 109 66 B1 OS Rw:=⟨by kernel_rfl,fun _ _ _ _ _ _ _ _ _=>by kernel_rfl⟩
def Ph (E:Env)(call round:Ag)(tm:T Value):M (T Value):=
 mv (T.get tm 3) fun v17=>
 M.bind (oS (T.get tm 1) fun a=>AE E 22 a) fun v18=>
 M.bind (oS (seqO [(some v18)]) fun l=>A7 E .len [22] l) fun v19=>
 M.bind (oS (some v17) fun a=>oS (some v19) fun b=>Cl.get (aBin E .eql 3 (.tmp 17) (.tmp 19)) a b) fun v20=>
 mv (some v20) fun v16=>
 setF 16 v16 tm fun tm1=>
 M.pure tm1
theorem Ac_:RegEq 109 66 B1 Ov Ph:=⟨by kernel_rfl,fun _ _ _ _ _ _ _ _ _=>by kernel_rfl⟩
theorem SS:Bg F6=some 16:=by kernel_rfl
def Qk (E:Env)(call round:Ag)(tm:T Value):M (T Value):=
 mv (some (.int .i64 0)) fun v6=>
 setF 6 v6 tm fun tm1=>
 M.pure tm1
theorem FB_:RegEq 109 66 B1 M8 Qk:=⟨by kernel_rfl,fun _ _ _ _ _ _ _ _ _=>by kernel_rfl⟩
def Ay_ (E:Env)(call round:Ag)(tm:T Value):M (T Value):=
 M.bind (oS (T.get tm 1) fun a=>AE E 22 a) fun v22=>
 M.bind (oS (seqO [(some v22)]) fun l=>A7 E .len [22] l) fun v23=>
 mv (T.get tm 3) fun v24=>
 M.bind (oS (some v23) fun a=>oS (some v24) fun b=>Cl.get (aBin E .sub 3 (.tmp 23) (.tmp 24)) a b) fun v25=>
 M.bind (oS (some v25) fun a=>oS (some (.int .i64 6)) fun b=>Cl.get (aBin E .lss 3 (.tmp 25) (.const (.int .i64 6))) a b) fun v26=>
 mv (some v26) fun v21=>
 setF 21 v21 tm fun tm1=>
 M.pure tm1
theorem SR_:RegEq 109 66 B1 Mc Ay_:=⟨by kernel_rfl,fun _ _ _ _ _ _ _ _ _=>by kernel_rfl⟩
def Eh_ (E:Env)(call round:Ag)(tm:T Value):M (T Value):=
 mv (T.get tm 0) fun v61=>
 mv (T.get tm 3) fun v62=>
 mv (T.get tm 6) fun v63=>
 M.bind (oS (seqP [(2,(some v63))]) fun ps=>Cv E 97 ps) fun v64=>
 M.bind (M.on (some v61) fun f=>M.on (seqO [(some v62),(some v64)]) fun l=>Bh call round f l) fun v65=>
 M.pure tm
theorem AdN_:RegEq 109 66 B1 FU Eh_:=⟨by kernel_rfl,fun _ _ _ _ _ _ _ _ _=>by kernel_rfl⟩
theorem EV_:Bg FX=some 21:=by kernel_rfl
theorem J8:Bg EU=some 21:=by kernel_rfl
def PI (E:Env)(call round:Ag)(tm:T Value):M ((Rho×T Value)×List OpLog):=
 M.bind (apartO (oS (T.get tm 5) fun a=>M.pure a)) fun p0=>
 M.bind (apartO (oS (some p0.1) fun a=>M.pure a)) fun p1=>
 M.bind (apartO (M.chk (isK p1.1) (M.if (isB p1.1 true) (oS (T.get tm 1) fun a=>AE E 22 a) (M.pure undef)))) fun p2=>
 M.bind (apartO (M.chk (isK p1.1) (M.if (isB p1.1 true) (oS (seqO [(some p2.1)]) fun l=>A7 E .len [22] l) (M.pure undef)))) fun p3=>
 M.bind (apartO (M.chk (isK p1.1) (M.if (isB p1.1 true) (oS (T.get tm 3) fun a=>M.pure a) (M.pure undef)))) fun p4=>
 M.bind (apartO (M.chk (isK p1.1) (M.if (isB p1.1 true) (oS (some p3.1) fun a=>oS (some p4.1) fun b=>Cl.get (aBin E .sub 3 (.tmp 30) (.tmp 31)) a b) (M.pure undef)))) fun p5=>
 M.bind (apartO (M.chk (isK p1.1) (M.if (isB p1.1 true) (oS (T.get tm 4) fun a=>M.pure a) (M.pure undef)))) fun p6=>
 M.bind (apartO (M.chk (isK p1.1) (M.if (isB p1.1 true) (M.on (some (.func (.func 20) #[] #[])) fun f=>M.on (seqO [(some p6.1)]) fun l=>Bh call round f l) (M.pure undef)))) fun p7=>
 M.bind (apartO (M.chk (isK p1.1) (M.if (isB p1.1 true) (oS (some p5.1) fun a=>oS (some p7.1) fun b=>Cl.get (aBin E .lss 3 (.tmp 32) (.tmp 34)) a b) (M.pure undef)))) fun p8=>
 M.bind (apartO (M.on (some p1.1) fun a=>M.on (some p8.1) fun b=>M.on (some (.bool false)) fun c=>Bv a b c)) fun p9=>
 M.pure (([p9.1,p8.1,p7.1,p6.1,p5.1,p4.1,p3.1,p2.1,p1.1,p0.1],tm),[p9.2,p8.2,p7.2,p6.2,p5.2,p4.2,p3.2,p2.2,p1.2,p0.2])
theorem ZZ_:DrawEq 109 66 B1 Iz [0,1,3,7,3,31,3,67,255,511,1023] PI:=⟨by kernel_rfl,by kernel_rfl,fun _ _ _ _ _ _ _ _ _=>by kernel_rfl⟩
theorem XJ (E:Env)(call round:Ag)(x27 x28 x29 x30 x31 x32 x33 x34 x35 x36:Value)(tm:T Value)(s:St):BP call round (Ct E B1 66 (hdC Iz)) [x36,x35,x34,x33,x32,x31,x30,x29,x28,x27] tm s=(M.bind (oS (some x36) fun a=>M.pure a) fun v21=>setT 21 v21 tm fun tm1=>M.pure tm1) s:=by kernel_rfl
def Xw (E:Env)(call round:Ag)(tm:T Value):M (T Value):=
 mv (some (.int .i64 1)) fun v6=>
 setF 6 v6 tm fun tm1=>
 M.pure tm1
theorem Wf_:RegEq 109 66 B1 Mh Xw:=⟨by kernel_rfl,fun _ _ _ _ _ _ _ _ _=>by kernel_rfl⟩
def PO (E:Env)(call round:Ag)(tm:T Value):M (T Value):=
 mv (T.get tm 5) fun v38=>
 mv (some v38) fun v37=>
 setF 37 v37 tm fun tm1=>
 M.pure tm1
theorem Zy:RegEq 109 66 B1 ML PO:=⟨by kernel_rfl,fun _ _ _ _ _ _ _ _ _=>by kernel_rfl⟩
theorem U7:Bg I7=some 37:=by kernel_rfl
def FA_ (E:Env)(call round:Ag)(tm:T Value):M (T Value):=
 M.bind (oS (T.get tm 1) fun a=>AE E 22 a) fun v40=>
 mv (T.get tm 3) fun v41=>
 mv (T.get tm 4) fun v42=>
 M.bind (M.on (some (.func (.func 72) #[] #[])) fun f=>M.on (seqO [(some v40),(some v41),(some v42)]) fun l=>Bh call round f l) fun v43=>
 mv (some v43) fun v39=>
 M.bind (oS (some v39) fun a=>kExt 0 a) fun v44=>
 M.bind (oS (some v39) fun a=>kExt 1 a) fun v45=>
 M.bind (oS (some v39) fun a=>kExt 2 a) fun v46=>
 M.bind (BN E 26) fun v7=>
 setF 7 v7 tm fun tm1=>
 M.bind (oS (some v7) fun a=>oS (some v44) fun b=>Bt E 26 a b) fun _=>
 mv (some v45) fun v8=>
 mv (some v46) fun v9=>
 setF 9 v9 tm1 fun tm2=>
 M.pure tm2
theorem Wp_:RegEq 109 66 B1 GF FA_:=⟨by kernel_rfl,fun _ _ _ _ _ _ _ _ _=>by kernel_rfl⟩
def WK (E:Env)(call round:Ag)(tm:T Value):M (T Value):=
 mv (T.get tm 0) fun v47=>
 mv (T.get tm 3) fun v48=>
 M.bind (oS (T.get tm 7) fun a=>AE E 26 a) fun v49=>
 mv (T.get tm 3) fun v50=>
 mv (T.get tm 4) fun v51=>
 M.bind (oS (seqP [(0,(some v49)),(1,(some v50)),(2,(some v51))]) fun ps=>Cv E 35 ps) fun v52=>
 mv (T.get tm 9) fun v53=>
 M.bind (oS (seqP [(0,(some v52)),(1,(some v53)),(2,(some (.int .i64 (-1))))]) fun ps=>Cv E 97 ps) fun v54=>
 M.bind (M.on (some v47) fun f=>M.on (seqO [(some v48),(some v54)]) fun l=>Bh call round f l) fun v55=>
 M.bind (oS (some v55) fun a=>kUn E.P .not a) fun v56=>
 setF 56 v56 tm fun tm1=>
 M.pure tm1
theorem YR_:RegEq 109 66 B1 IF WK:=⟨by kernel_rfl,fun _ _ _ _ _ _ _ _ _=>by kernel_rfl⟩
theorem VV_:Bg Lo=some 56:=by kernel_rfl
def WV (E:Env)(call round:Ag)(tm:T Value):M (T Value):=
 mv (T.get tm 3) fun v57=>
 mv (T.get tm 4) fun v58=>
 M.bind (M.on (some (.func (.func 20) #[] #[])) fun f=>M.on (seqO [(some v58)]) fun l=>Bh call round f l) fun v59=>
 M.bind (oS (some v57) fun a=>oS (some v59) fun b=>Cl.get (aBin E .add 3 (.tmp 57) (.tmp 59)) a b) fun v60=>
 mv (some v60) fun v3=>
 setF 3 v3 tm fun tm1=>
 M.pure tm1
theorem GN_:RegEq 109 66 B1 Qr WV:=⟨by kernel_rfl,fun _ _ _ _ _ _ _ _ _=>by kernel_rfl⟩
def BZ:Nat:=Bw Try.f24
abbrev En:Nat:=33
def ZS:Code:=Try.f24.body.getD .skip
theorem Cj_:envS.fn.get 24=some Try.f24:=by kernel_rfl
theorem Hh_ {a0:Value}{n:Nat}{s:St}{Q:Value→St→Prop}(h: ∀tm,T.get tm 0=some a0→W (runF envS n ⟨24,33,BZ,tm,[.code ZS], .run, .normal,none⟩) (s.cxN cxN) fun p s1=>Q p.1 (s1.cxN s.cx)):W (AJ envS (runF envS n) 24 [a0]) s Q:=
 W.call (by kernel_rfl) (by kernel_rfl) Cj_ (by kernel_rfl) rfl rfl (by simp) (h _ (by kernel_rfl))
theorem Un_:Try.f24.results.toList=[.cell 2 36, .cell 3 3, .cell 4 3, .cell 5 3]:=by kernel_rfl
def Tx:List Item:=skim 64 [.code ZS]
def Ku:List Item:=skim 64 Tx.tail
theorem Mv_:skim 64 Tx.tail=Ku:=by kernel_rfl
def DG:List Item:=skim 64 Ku.tail
theorem QD_:skim 64 Ku.tail=DG:=by kernel_rfl
def Ny:Code:=asC DG
def Mn:Code:=bdC DG
theorem AdE_:rfP DG=some (9,[10,11],Ny,Mn):=by kernel_rfl
theorem QU_:TU DG=[.code Ny, .beginRound, .code Mn]:=by kernel_rfl
def Gs:List Item:=skim 64 DG.tail
theorem Aex_:skim 64 DG.tail=Gs:=by kernel_rfl
def I8:List Item:=skim 64 (TU DG)
theorem Uu_:skim 64 (TU DG)=I8:=by kernel_rfl
def SB:List Item:=skim 64 Gs.tail
theorem Tx_:skim 64 Gs.tail=SB:=by kernel_rfl
def NU:List Item:=skim 64 I8.tail
theorem QT_:skim 64 I8.tail=NU:=by kernel_rfl
def Ie:List Item:=skim 64 NU.tail
theorem Aga_:skim 64 NU.tail=Ie:=by kernel_rfl
def Ma:List Item:=skim 64 Ie.tail
theorem Rc_:skim 64 Ie.tail=Ma:=by kernel_rfl
def FZ:List Item:=skim 64 Ma.tail
theorem Dc_:skim 64 Ma.tail=FZ:=by kernel_rfl
def Im:List Item:=skim 64 (brT FZ)
theorem KS_:skim 64 (brT FZ)=Im:=by kernel_rfl
def Nu:List Item:=skim 64 (brF FZ)
theorem XI_:skim 64 (brF FZ)=Nu:=by kernel_rfl
def FW:List Item:=skim 64 Im.tail
theorem HE_:skim 64 Im.tail=FW:=by kernel_rfl
def Hm:List Item:=skim 64 Nu.tail
theorem ZN:skim 64 Nu.tail=Hm:=by kernel_rfl
def Lj:List Item:=skim 64 (brT Hm)
theorem AcP_:skim 64 (brT Hm)=Lj:=by kernel_rfl
def N4:List Item:=skim 64 (brF Hm)
theorem AaV_:skim 64 (brF Hm)=N4:=by kernel_rfl
theorem UF:skim 64 Lj.tail=FW:=by kernel_rfl
theorem Acn_:skim 64 N4.tail=FW:=by kernel_rfl
def Zm (E:Env)(call round:Ag)(tm:T Value):M (T Value):=
 M.bind (BN E 36) fun v2=>
 setF 2 v2 tm fun tm1=>
 M.bind (BN E 3) fun v3=>
 setF 3 v3 tm1 fun tm2=>
 M.bind (BN E 3) fun v4=>
 setF 4 v4 tm2 fun tm3=>
 M.bind (BN E 3) fun v5=>
 setF 5 v5 tm3 fun tm4=>
 M.pure tm4
theorem OM_:RegEq 24 33 BZ Tx Zm:=⟨by kernel_rfl,fun _ _ _ _ _ _ _ _ _=>by kernel_rfl⟩
def Za (E:Env)(call round:Ag)(tm:T Value):M (T Value):=
 mv (T.get tm 0) fun v8=>
 M.bind (M.on (some (.func (.func 68) #[] #[])) fun f=>M.on (seqO [(some v8)]) fun l=>Bh call round f l) fun v9=>
 setF 9 v9 tm fun tm1=>
 M.pure tm1
theorem UT_:RegEq 24 33 BZ Ku Za:=⟨by kernel_rfl,fun _ _ _ _ _ _ _ _ _=>by kernel_rfl⟩
def Ah_ (E:Env)(call round:Ag)(tm:T Value):M ((Rho×T Value)×List OpLog):=
 M.bind (apartO (oS (T.get tm 2) fun a=>AE E 36 a)) fun p0=>
 M.bind (apartO (oS (T.get tm 3) fun a=>AE E 3 a)) fun p1=>
 M.bind (apartO (oS (T.get tm 4) fun a=>AE E 3 a)) fun p2=>
 M.bind (apartO (oS (T.get tm 5) fun a=>AE E 3 a)) fun p3=>
 M.bind (apartO (oS (T.get tm 2) fun a=>oS (some p0.1) fun b=>Bt E 36 a b)) fun p4=>
 M.bind (apartO (oS (T.get tm 3) fun a=>oS (some p1.1) fun b=>Bt E 3 a b)) fun p5=>
 M.bind (apartO (oS (T.get tm 4) fun a=>oS (some p2.1) fun b=>Bt E 3 a b)) fun p6=>
 M.pure (([p3.1,p2.1,p1.1,p0.1],tm),[p6.2,p5.2,p4.2,p3.2,p2.2,p1.2,p0.2])
theorem RT_:DrawEq 24 33 BZ Gs [0,0,0,0,1,19,55,127] Ah_:=⟨by kernel_rfl,by kernel_rfl,fun _ _ _ _ _ _ _ _ _=>by kernel_rfl⟩
theorem Hz_ (E:Env)(call round:Ag)(x29 x30 x31 x32:Value)(tm:T Value)(s:St):BP call round (Ct E BZ 33 (hdC Gs)) [x32,x31,x30,x29] tm s=(M.bind (oS (T.get tm 5) fun a=>oS (some x32) fun b=>Bt E 3 a b) fun _=>M.pure tm) s:=by kernel_rfl
def Vm (E:Env)(call round:Ag)(tm:T Value):M (T Value):=
 mv (T.get tm 10) fun v6=>
 setF 6 v6 tm fun tm1=>
 M.pure tm1
theorem HV_:RegEq 24 33 BZ I8 Vm:=⟨by kernel_rfl,fun _ _ _ _ _ _ _ _ _=>by kernel_rfl⟩
theorem XW_: ∃k,SB= .code .ret::k:=⟨SB.tail,by kernel_rfl⟩
def X5 (E:Env)(call round:Ag)(tm:T Value):M (T Value):=
 M.bind (BN E 97) fun v7=>
 setF 7 v7 tm fun tm1=>
 M.bind (oS (some v7) fun a=>oS (T.get tm1 11) fun b=>Bt E 97 a b) fun _=>
 M.pure tm1
theorem AbX_:RegEq 24 33 BZ NU X5:=⟨by kernel_rfl,fun _ _ _ _ _ _ _ _ _=>by kernel_rfl⟩
theorem Abt_:Ie= .beginRound::Ie.tail:=by kernel_rfl
def Yc (E:Env)(call round:Ag)(tm:T Value):M (T Value):=
 M.bind (oS (T.get tm 7) fun a=>kFld E 97 a 2) fun v15=>
 M.bind (oS (some v15) fun a=>AE E 3 a) fun v16=>
 M.bind (oS (some v16) fun a=>oS (some (.int .i64 0)) fun b=>Cl.get (aBin E .geq 3 (.tmp 16) (.const (.int .i64 0))) a b) fun v17=>
 mv (some v17) fun v14=>
 setF 14 v14 tm fun tm1=>
 M.pure tm1
theorem IW_:RegEq 24 33 BZ Ma Yc:=⟨by kernel_rfl,fun _ _ _ _ _ _ _ _ _=>by kernel_rfl⟩
theorem AP_:Bg FZ=some 14:=by kernel_rfl
def V0 (E:Env)(call round:Ag)(tm:T Value):M ((Rho×T Value)×List OpLog):=
 M.bind (apartO (oS (T.get tm 6) fun a=>M.pure a)) fun p0=>
 M.bind (apartO (oS (T.get tm 7) fun a=>kFld E 97 a 2)) fun p1=>
 M.bind (apartO (oS (some p1.1) fun a=>AE E 3 a)) fun p2=>
 M.bind (apartO (oS (T.get tm 3) fun a=>oS (some p0.1) fun b=>Bt E 3 a b)) fun p3=>
 M.pure (([p2.1,p1.1,p0.1],tm),[p3.2,p2.2,p1.2,p0.2])
theorem LS_:DrawEq 24 33 BZ Im [0,0,2,1,15] V0:=⟨by kernel_rfl,by kernel_rfl,fun _ _ _ _ _ _ _ _ _=>by kernel_rfl⟩
theorem WP_ (E:Env)(call round:Ag)(x18 x19 x20:Value)(tm:T Value)(s:St):BP call round (Ct E BZ 33 (hdC Im)) [x20,x19,x18] tm s=(M.bind (oS (T.get tm 5) fun a=>oS (some x20) fun b=>Bt E 3 a b) fun _=>M.pure tm) s:=by kernel_rfl
def Xl (E:Env)(call round:Ag)(tm:T Value):M (T Value):=
 M.bind (oS (T.get tm 7) fun a=>kFld E 97 a 1) fun v22=>
 M.bind (oS (some v22) fun a=>AE E 4 a) fun v23=>
 mv (some v23) fun v21=>
 setF 21 v21 tm fun tm1=>
 M.pure tm1
theorem Ug_:RegEq 24 33 BZ Nu Xl:=⟨by kernel_rfl,fun _ _ _ _ _ _ _ _ _=>by kernel_rfl⟩
theorem BE_:Bg Hm=some 21:=by kernel_rfl
def VL (E:Env)(call round:Ag)(tm:T Value):M (T Value):=
 M.bind (oS (T.get tm 2) fun a=>AE E 36 a) fun v24=>
 M.bind (oS (T.get tm 7) fun a=>kFld E 97 a 0) fun v25=>
 M.bind (oS (some v25) fun a=>AE E 35 a) fun v26=>
 M.bind (oS (seqP [(0,(some v26))]) fun ps=>B7 E 36 1 ps) fun v27=>
 M.bind (oS (seqO [(some v24),(some v27)]) fun l=>A7 E .append [36,36] l) fun v28=>
 M.bind (oS (T.get tm 2) fun a=>oS (some v28) fun b=>Bt E 36 a b) fun _=>
 M.pure tm
theorem Lg_:RegEq 24 33 BZ Lj VL:=⟨by kernel_rfl,fun _ _ _ _ _ _ _ _ _=>by kernel_rfl⟩
def Es_ (E:Env)(call round:Ag)(tm:T Value):M (T Value):=
 M.bind (oS (T.get tm 4) fun a=>AE E 3 a) fun v12=>
 M.bind (oS (some v12) fun a=>oS (some (.int .i64 1)) fun b=>Cl.get (aBin E .add 3 (.tmp 12) (.const (.int .i64 1))) a b) fun v13=>
 M.bind (oS (T.get tm 4) fun a=>oS (some v13) fun b=>Bt E 3 a b) fun _=>
 M.pure tm
theorem VL_:RegEq 24 33 BZ N4 Es_:=⟨by kernel_rfl,fun _ _ _ _ _ _ _ _ _=>by kernel_rfl⟩
end Go.Proofs.Ytofanlcjeohcjaa.Am
end
