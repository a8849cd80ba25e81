import Derived.Test.YtofanlcjeohcjaaIMg15
namespace Go.Proofs.Ytofanlcjeohcjaa.Am
open Go.RowKit
theorem Dz_:fldN envS 167 0=some (0,1,false):=by kernel_rfl
theorem RA:fldN envS 167 1=some (1,8,true):=by kernel_rfl
theorem FM_:fldN envS 167 2=some (9,64,true):=by kernel_rfl
theorem Jv:fldN envS 167 3=some (73,1,false):=by kernel_rfl
theorem T6:ptrT envS 145=true:=by kernel_rfl
theorem Hg_:tyS envS 4=some (1,false):=by kernel_rfl
theorem IK:tyS envS 3=some (1,false):=by kernel_rfl
theorem Co_:arrN envS 165=some (64,1):=by kernel_rfl
theorem Io:tyS envS 163=some (8,true):=by kernel_rfl
theorem Bs.srcK {s:St}{v:Value}{l:List Nat}(h:Bs s v l){k:Nat}(hk:k<=l.length): ∃s1,srcL 1 v k s= .some (u8l (l.take k)) s1/\s1.mem=s.mem/\s1.next=s.next/\Ext (BsF v) Non s s1:=by
 rcases h with⟨rfl,rfl⟩|⟨b,o,c,rfl,_,_,h3⟩
 ·simp at hk
  subst hk
  exact⟨s,rfl,rfl,rfl,Ext.refl s⟩
 ·have h4:Row s b o (u8l (l.take k)):=by
   have:=h3.take (n:=k)
   rw[<-List.map_take]at this
   exact this
  have hl:(l.take k).length=k:=by rw[List.length_take];omega
  obtain⟨a,s1,e,rfl,h1,h2,h5⟩:=W.rdB (Q:=λa s1=>a=u8l (l.take k)/\s1.mem=s.mem/\s1.next=s.next/\Ext (In b o (l.take k).length) Non s s1) h4 λs1 e1 e2 e3=>⟨rfl,e1,e2,e3⟩
  rw[hl]at e h5
  refine⟨s1, ?_,h1,h2, ?_⟩
  ·show Am.rdL (k*1) ⟨b,o,none⟩ s=_
   rw[Nat.mul_one]
   exact e
  ·refine⟨h5.nxt,h5.lim,h5.cx,h5.mem, ?_,h5.wr⟩
   obtain⟨d,p1,p2⟩:=h5.rd
   exact⟨d,p1,λx hx=>⟨(p2 x hx).1,by have:=(p2 x hx).2;exact⟨this.1,by have:=this.2;omega⟩⟩⟩
theorem DS.k_le (d:DS)(b:List Nat):d.k b<=b.length/\d.n%64+d.k b<=64:=by
 unfold DS.k
 have h1:Nat.min (64-d.n%64) b.length<=64-d.n%64:=Nat.min_le_left _ _
 have h2:Nat.min (64-d.n%64) b.length<=b.length:=Nat.min_le_right _ _
 have h3:d.n%64<64:=Nat.mod_lt _ (by decide)
 exact⟨h2,by omega⟩
theorem DS.w'_len (d:DS)(b:List Nat)(h:d.w.length=64):(d.w' b).length=64:=by
 obtain⟨h1,h2⟩:=d.k_le b
 unfold DS.w'
 rw[List.length_append,List.length_append,List.length_take,List.length_take,List.length_drop,h]
 omega
theorem DS.w'_byt (d:DS)(b:List Nat)(h:Byt d.w)(hb:Byt b):Byt (d.w' b):=λx hx=>by
 unfold DS.w' at hx
 rcases List.mem_append.1 hx with hx|hx
 ·exact h x (List.mem_of_mem_take hx)
 ·rcases List.mem_append.1 hx with hx|hx
  ·exact hb x (List.mem_of_mem_take hx)
  ·exact h x (List.mem_of_mem_drop hx)
theorem Dig.lay {F:Nat->Prop}{s s2:St}{D:Nat}{d:DS}{b:List Nat}(h:Dig s D d)(x:Ext F (In D (0+9+d.n%64*1) (d.k b*1)) s s2)(r:Aa s2 D (0+9+d.n%64*1) (u8l (b.take (d.k b))))(hb:Byt b):Dig s2 D ⟨d.st,d.w' b,d.n⟩:=by
 obtain⟨h1,h2⟩:=d.k_le b
 have hm:d.n%64<64:=Nat.mod_lt _ (by decide)
 have hkl:(b.take (d.k b)).length=d.k b:=by rw[List.length_take];omega
 refine⟨h.made.ext x λq=>by have:=q.1;omega,h.st.ext x λi hi q=> ?_, ?_,h.n.ext x λq=>by have:=q.2;omega,d.w'_len b h.len,d.w'_byt b h.byt hb,h.ok⟩
 ·have h3:i<8:=hi
  have:=q.1;omega
 ·show Aa s2 D 9 (u8l (d.w' b))
  have e:u8l (d.w' b)=u8l (d.w.take (d.n%64))++(u8l (b.take (d.k b))++u8l (d.w.drop (d.n%64+d.k b))):=by
   unfold DS.w' u8l
   rw[List.map_append,List.map_append]
  have hl1:(u8l (d.w.take (d.n%64))).length=d.n%64:=by rw[Av,List.length_take,h.len];omega
  have hw1:Aa s D 9 (u8l (d.w.take (d.n%64))):=by
   have:=h.w.take (n:=d.n%64)
   rw[<-List.map_take]at this
   exact this
  have hw3:Aa s D (9+(d.n%64+d.k b)) (u8l (d.w.drop (d.n%64+d.k b))):=by
   have:=h.w.drop (n:=d.n%64+d.k b)
   rw[<-List.map_drop]at this
   exact this
  rw[e]
  refine Aa.append (hw1.ext x λi hi q=> ?_) (Aa.append ?_ ?_)
  ·rw[hl1]at hi
   have:=q.1;omega
  ·rw[hl1,show 9+d.n%64=0+9+d.n%64*1 by omega]
   exact r
  ·rw[hl1,Av,hkl,Nat.add_assoc]
   refine hw3.ext x λi hi q=> ?_
   have:=q.2;omega
abbrev DigF (D:Nat)(v:Value):Nat->Prop:=λx=>In D 0 74 x\/BsF v x
theorem Dig.setN {F:Nat->Prop}{s s2:St}{D:Nat}{d:DS}(h:Dig s D d){m:Nat}(x:Ext F (In D 73 1) s s2)(o:Own s2 D 73 (.int .i64 (m:Nat))):Dig s2 D ⟨d.st,d.w,m⟩:=
 ⟨h.made.ext x λq=>by have:=q.1;omega,h.st.ext x λi hi q=>by have h3:i<8:=hi;have:=q.1;omega,h.w.ext x λi hi q=>by rw[Av,h.len]at hi;have:=q.1;omega,o,h.len,h.byt,h.ok⟩
theorem Dig.setSt {F:Nat->Prop}{s s2:St}{D:Nat}{d:DS}(h:Dig s D d){r:Sha.St8}(hr:r.Ok)(x:Ext F (In D 1 8) s s2)(o:Aa s2 D 1 (st8V r).toList):Dig s2 D ⟨r,d.w,d.n⟩:=
 ⟨h.made.ext x λq=>by have:=q.1;omega,o,h.w.ext x λi hi q=>by have:=q.2;omega,h.n.ext x λq=>by have:=q.2;omega,h.len,h.byt,hr⟩
theorem Row.same' {s s':St}{b o:Nat}{l:List Value}(h:Row s b o l)(hm:s'.mem=s.mem)(hn:s'.next=s.next):Row s' b o l:=λi v e=>(h i v e).same hm hn
theorem PZ_ {D : Nat} {v0 : Value} {Q : Value × FrameMode -> St -> Prop} {s0 : St} (hb0 : s0.lim <= s0.next) (hcx : s0.cx = .cx none (some [])) (hdis : ∀ x, BsF v0 x -> ¬ In D 0 74 x) : ∀ (f n : Nat) (tm : T Value) (s : St) (td : List Item) (d : DS) (b : List Nat) (v : Value), b.length <= f -> 20 * f + 60 <= n -> skim 64 td = If -> Ext (DigF D v0) (In D 0 74) s0 s -> Dig s D d -> d.n + b.length <= 1000000000 -> (b ≠ [] -> Bn s v b) -> Bs s v b -> Byt b -> (∀ x, BsF v x -> BsF v0 x) ->
   T.get tm 0 = some (.pointer (some ⟨D, 0, none⟩)) -> T.get tm 1 = some v -> (∀ s1, Ext (DigF D v0) (In D 0 74) s0 s1 -> Dig s1 D (DS.write f d b) -> Q (.tuple #[], .run) s1) ->
   W (runF envS n ⟨111, WJ_, DE, tm, td, .run, .normal, none⟩) s Q := by
 intro f
 induction f with
 | zero =>
   intro n tm s td d b v hf hn hT hx hd hmax hbn hbs hbyt hv h0 h1 q
   have hb : b = [] := List.eq_nil_of_length_eq_zero (by omega)
   subst hb
   refine Ql.u ?_ hT
   simp -implicitDefEqProofs only [Ks, RR, SS, Cr, h1, hbs.len Al]
   refine aH Pd ?_
   refine aF (rs := []) (vs := []) rfl (.inr (by kernel_rfl)) (by omega) QN WO (hx.cx.trans hcx) rfl ?_
   exact q s hx hd
 | succ f ih =>
   intro n tm s td d b v hf hn hT hx hd hmax hbn hbs hbyt hv h0 h1 q
   by_cases hbe : b.length = 0
   · have hb : b = [] := List.eq_nil_of_length_eq_zero hbe
     subst hb
     refine Ql.u ?_ hT
     simp -implicitDefEqProofs only [Ks, RR, SS, Cr, h1, hbs.len Al]
     refine aH Pd ?_
     refine aF (rs := []) (vs := []) rfl (.inr (by kernel_rfl)) (by omega) QN WO (hx.cx.trans hcx) rfl ?_
     exact q s hx hd
   · have hbne : b ≠ [] := λe => hbe (by rw [e]; rfl)
     obtain ⟨hk1, hk2⟩ := d.k_le b
     have hm : d.n % 64 < 64 := Nat.mod_lt _ (by decide)
     have hk0 : 0 < d.k b := by
       unfold DS.k
       exact Nat.lt_min.2 ⟨by omega, by omega⟩
     refine Ql.u ?_ hT
     simp -implicitDefEqProofs only [Ks, RR, SS, Cr, h1, hbs.len Al]
     refine aI Pd ?_
     refine NM_.u ?_
     simp -implicitDefEqProofs only [Zo, RR, SS, reduceCtorEq, ↓reduceIte, h0, Au Jv (by decide : 0 < 1)]
     refine aB IK hd.n.at' ?_
     have hxa : Ext (DigF D v0) (In D 0 74) s0 (s.rdN (D + (0 + 73))) := hx.trans (Ext.rdN (F := DigF D v0) s _ λ_ => .inl ⟨by omega, by omega⟩) hb0 (λ_ _ h => h) λ_ _ h => h
     have hda : Dig (s.rdN (D + (0 + 73))) D d := hd.same rfl rfl
     have hba : Bn (s.rdN (D + (0 + 73))) v b := (hbn hbne).same rfl rfl
     generalize s.rdN (D + (0 + 73)) = sa at hxa hda hba ⊢
     simp -implicitDefEqProofs only [Lc]
     refine Akz_.u ?_
     simp -implicitDefEqProofs only [ZK, RR, SS, Nat.reduceEqDiff, reduceCtorEq, ↓reduceIte, h0, h1, Au FM_ (by decide : 0 < 64), Je (lo := some (.int .i64 ((d.n % 64 : Nat) : Int))) (hi := none) (l := d.n % 64) (h := 64) Co_ (Az (by decide)) rfl rfl (by omega) (Nat.le_refl _)]
     rw [if_neg (by omega)]
     obtain ⟨p, c, rfl⟩ := hba.bs.sl
     refine W.copy Ck rfl (hba.bs.srcK hk1) (by rw [Av, List.length_take]; show Nat.min (d.k b) b.length = d.k b * 1; rw [Nat.mul_one]; exact Nat.min_eq_left hk1) (Bx _) (λi hi => ?_) λsb nb xb rb => ?_
     · have hi' : i < d.k b * 1 := hi
       have := hda.w (d.n % 64 + i) (u8 (d.w[d.n % 64 + i]'(by rw [hda.len]; omega))) (by rw [List.getElem?_map, List.getElem?_eq_getElem (by rw [hda.len]; omega)]; rfl)
       exact ⟨_, by rw [show 0 + 9 + d.n % 64 * 1 + i = 9 + (d.n % 64 + i) by omega]; exact this⟩
     have hdisb : ∀ x, BsF (.slice p b.length c) x -> ¬ In D 0 74 x := λx hx' => hdis x (hv x hx')
     have hxb : Ext (DigF D v0) (In D 0 74) s0 sb := hxa.trans xb hb0 (λx _ h => by
       rcases h with h | h
       · exact .inr (hv x h)
       · exact .inl ⟨by have := h.1; omega, by have := h.2; have h3 : d.k b ≤ 64 := by omega
                                               have h4 : x < D + (0 + 9 + d.n % 64 * 1) + d.k b * 1 := h.2
                                               omega⟩) fun x _ h => ⟨by have := h.1; omega, by have h4 : x < D + (0 + 9 + d.n % 64 * 1) + d.k b * 1 := h.2
                                                                                               omega⟩
     have hdb : Dig sb D ⟨d.st, d.w' b, d.n⟩ := hda.lay xb rb hbyt
     have hbb : Bn sb (.slice p b.length c) b := hba.ext xb fun x hx' h => hdisb x hx' ⟨by have := h.1; omega, by have h4 : x < D + (0 + 9 + d.n % 64 * 1) + d.k b * 1 := h.2
                                                                                                                  omega⟩
     clear xb rb hda hba hxa nb
     have hkmin : Nat.min (64 - d.n % 64) b.length = d.k b := rfl
     simp -implicitDefEqProofs only [hkmin]
     refine Sv_.u ?_
     simp -implicitDefEqProofs only [CH_, RR, SS, Nat.reduceEqDiff, ↓reduceIte, h1]
     refine W.cut hbb Al (i := d.k b) (j := b.length) rfl rfl hk1 (Nat.le_refl _) λv1 hv1 hF1 => ?_
     rw [List.take_length] at hv1
     refine Wz_.u ?_
     simp -implicitDefEqProofs only [Bs_, RR, SS, Nat.reduceEqDiff, reduceCtorEq, ↓reduceIte, h0, Au Jv (by decide : 0 < 1)]
     refine aB IK hdb.n.at' ?_
     have en : wrap64 ((d.n : Nat) + (d.k b : Nat) : Int) = ((d.n + d.k b : Nat) : Int) := by
       rw [Ax (by omega) (by omega)]; simp
     simp -implicitDefEqProofs only [Aw, en]
     have hxb1 : Ext (DigF D v0) (In D 0 74) s0 (sb.rdN (D + (0 + 73))) := hxb.trans (Ext.rdN (F := DigF D v0) sb _ λ_ => .inl ⟨by omega, by omega⟩) hb0 (λ_ _ h => h) λ_ _ h => h
     have hdb1 : Dig (sb.rdN (D + (0 + 73))) D ⟨d.st, d.w' b, d.n⟩ := hdb.same rfl rfl
     have hv2 : Bn (sb.rdN (D + (0 + 73))) v1 (b.drop (d.k b)) := hv1.same rfl rfl
     generalize sb.rdN (D + (0 + 73)) = sc at hxb1 hdb1 hv2 ⊢
     refine aL IK rfl hdb1.n λse ne xe oe => ?_
     have hxe : Ext (DigF D v0) (In D 0 74) s0 se := hxb1.trans xe hb0 (λx _ h => .inl ⟨by have := h.1; omega, by have := h.2; omega⟩) λx _ h => ⟨by have := h.1; omega, by have := h.2; omega⟩
     have hde : Dig se D ⟨d.st, d.w' b, d.n + d.k b⟩ := hdb1.setN xe oe
     have hve : Bn se v1 (b.drop (d.k b)) := hv2.ext xe λx hx' h => hdisb x (hF1 x hx') ⟨by have := h.1; omega, by have := h.2; omega⟩
     clear xe oe hdb1 hv2 hxb1 hdb hxb
     refine YP_.u ?_
     have ea : wrap64 ((d.n % 64 : Nat) + (d.k b : Nat) : Int) = ((d.n % 64 + d.k b : Nat) : Int) := by
       rw [Ax (by omega) (by omega)]; simp
     simp -implicitDefEqProofs only [Ny_, RR, SS, Nat.reduceEqDiff, ↓reduceIte, Aw, Di, ea]
     have hlen1 : (b.drop (d.k b)).length <= f := by rw [List.length_drop]; omega
     have hmax1 : d.n + d.k b + (b.drop (d.k b)).length <= 1000000000 := by rw [List.length_drop]; omega
     have hby1 : Byt (b.drop (d.k b)) := λx hx' => hbyt x (List.mem_of_mem_drop hx')
     by_cases hfull : d.n % 64 + d.k b = 64
     · refine aI DL_ ?_
       refine RX_.u ?_
       have hde' : Dig (dSt se.mem se.next) D ⟨d.st, d.w' b, d.n + d.k b⟩ := hde.same rfl rfl
       simp -implicitDefEqProofs only [X2, RR, T.get_set, Nat.reduceEqDiff, ↓reduceIte, h0, AJ, Cw, Ag]
       rw [W_dq λs Q => HH (s := s) ⟨D, 0, none⟩ Q, W_dq λs Q => Au (s := s) RA (by decide : 0 < 8) Q]
       refine aV Io hde'.st.row (Dt _) λmem1 rd1 hm1 hr1 => ?_
       rw [hm1]
       simp -implicitDefEqProofs only [Ag]
       rw [W_dq λs Q => HH (s := s) ⟨D, 0, none⟩ Q, W_dq λs Q => Au (s := s) FM_ (by decide : 0 < 64) Q, W_dq λs Q => Je (s := s) (lo := none) (hi := none) (l := 0) (h := 64) Co_ (Az (by decide)) rfl rfl (Nat.zero_le _) (Nat.le_refl _) Q]
       simp -implicitDefEqProofs only [B5, B8, BU, Cw]
       refine aU ?_
       rw [HG]
       refine W.orc (m := Ey) (by kernel_rfl) ?_
       refine W.next hde.ok (hde'.w.row.same' rfl rfl) hde'.len hde'.byt λs1 m1 n1 x1 => ⟨In D 9 64, x1, λrd2 hr2 => ?_⟩
       have m1' : s1.mem = se.mem := m1
       have n1' : s1.next = se.next := n1
       rw [m1', n1']
       simp -implicitDefEqProofs only [Ag]
       rw [W_dq λs Q => HH (s := s) ⟨D, 0, none⟩ Q, W_dq λs Q => Au (s := s) RA (by decide : 0 < 8) Q]
       rw [AK]
       refine ⟨CI (by simp) (by simp), ?_⟩
       refine aJ (AbN_ _ _ _ _ _ _ _ _ _ _ _ _ _ _ _ _ _) ?_
       simp -implicitDefEqProofs only [SS]
       generalize hs' : (⟨(dSt se.mem se.next).mem, (dSt se.mem se.next).next, se.lim, _, _, se.cx⟩ : St) = s'
       have hx' : Ext (DigF D v0) (In D 0 74) s0 s' := by
         rw [<- hs']
         refine hxe.trans (Ext.draw (F := λx => In D 0 74 x) (Nat.le_refl _) (λ_ _ => rfl) (by simp) (by
           simp -implicitDefEqProofs only [List.mem_cons, List.not_mem_nil, or_false]
           rintro m (rfl | rfl | rfl | rfl | rfl | rfl | rfl | rfl | rfl | rfl | rfl | rfl) x hx _ <;> first | (have h3 := hr1 _ hx; exact ⟨by have := h3.1; omega, by have := h3.2; omega⟩) | (have h3 := (hr2 _ hx).2; exact ⟨by have := h3.1; omega, by have := h3.2; omega⟩) | (cases hx))) hb0 (λ_ _ h => .inl h) λ_ _ h => h.elim
       have hdf : Dig s' D ⟨d.st, d.w' b, d.n + d.k b⟩ := by rw [<- hs']; exact hde.same rfl rfl
       have hvf : Bn s' v1 (b.drop (d.k b)) := by rw [<- hs']; exact hve.same rfl rfl
       clear hs' hr1 hr2 hm1 m1 n1 m1' n1' x1
       have hr : (Sha.next d.st λj => (d.w' b).getD j 0).Ok := Sha.plus_ok _ _
       have hst : d.step b = ⟨Sha.next d.st λj => (d.w' b).getD j 0, d.w' b, d.n + d.k b⟩ := by unfold DS.step; rw [if_pos hfull]
       generalize (Sha.next d.st λj => (d.w' b).getD j 0) = r at hr hst ⊢
       refine W.store Io rfl rfl (λi hi => ⟨_, by rw [show 0 + 1 + i = 1 + i by omega]; exact hdf.st i _ (List.getElem?_eq_getElem hi)⟩) λsf nf xf rf => ?_
       have hxf : Ext (DigF D v0) (In D 0 74) s0 sf := hx'.trans xf hb0 (λx _ h => .inl ⟨by have := h.1; omega, by have := h.2; omega⟩) λx _ h => ⟨by have := h.1; omega, by have := h.2; omega⟩
       have hdg : Dig sf D ⟨r, d.w' b, d.n + d.k b⟩ := hdf.setSt hr xf rf
       have hvg : Bn sf v1 (b.drop (d.k b)) := hvf.ext xf λx hx' h => hdisb x (hF1 x hx') ⟨by have := h.1; omega, by have := h.2; omega⟩
       refine ih _ _ _ _ ⟨r, d.w' b, d.n + d.k b⟩ (b.drop (d.k b)) v1 hlen1 (by omega) Ama_ hxf hdg hmax1 (λ_ => hvg) hvg.bs hby1 (λx hx' => hv x (hF1 x hx')) (by simp [T.get_set, h0]) (by simp [T.get_set]) λs1 x1 d1 => q s1 x1 ?_
       unfold DS.write
       rw [if_neg hbe, hst]
       exact d1
     · refine aH DL_ ?_
       refine ih _ _ _ _ ⟨d.st, d.w' b, d.n + d.k b⟩ (b.drop (d.k b)) v1 hlen1 (by omega) Ze_ hxe hde hmax1 (λ_ => hve) hve.bs hby1 (λx hx' => hv x (hF1 x hx')) (by simp [T.get_set, h0]) (by simp [T.get_set]) λs1 x1 d1 => q s1 x1 ?_
       have : d.step b = ⟨d.st, d.w' b, d.n + d.k b⟩ := by unfold DS.step; rw [if_neg hfull]
       unfold DS.write
       rw [if_neg hbe, this]
       exact d1
theorem As_ {D n:Nat}{v:Value}{Q:Value->St->Prop}{s:St}{d:DS}{b:List Nat}(hbd:s.lim<=s.next)(hdis: ∀x,BsF v x-> ¬In D 0 74 x)(hd:Dig s D d)(hmax:d.n+b.length<=1000000000)(hbn:b≠[]->Bn s v b)(hbs:Bs s v b)(hbyt:Byt b)(hn:20*b.length+100<=n)
  (q: ∀s1,Ext (DigF D v) (In D 0 74) s s1->Dig s1 D (DS.write b.length d b)->Q (.tuple #[]) s1):W (Ab envS (runF envS n) 111 [.pointer (some ⟨D,0,none⟩),v]) s Q:=by
 refine Afy_ λtm h0 h1=> ?_
 have hd':Dig (s.cxN cxN) D d:=hd.same rfl rfl
 refine AeB_.u ?_
 simp -implicitDefEqProofs only[WD,RR,SS,reduceCtorEq, ↓reduceIte,h0,Kd_ T6,Au Dz_ (by decide:0<1)]
 refine aB Hg_ hd'.made.at' ?_
 simp -implicitDefEqProofs only[D5]
 refine aH St_ ?_
 refine PZ_ (s0:=s.cxN cxN) (v0:=v) hbd rfl hdis b.length _ _ _ _ d b v (Nat.le_refl _) (by omega) rfl (Ext.rdN (F:=DigF D v) _ _ λ_=> .inl ⟨by omega,by omega⟩) (hd'.same rfl rfl) hmax (λh=>(hbn h).same rfl rfl) (hbs.same rfl rfl) hbyt (λx h=>h) (by simp[T.get_set,h0]) (by simp[T.get_set,h1]) λs1 x1 d1=>q _ x1.cx' (d1.same rfl rfl)
theorem Acs_:CG envS 163=some (List.replicate 8 (.int .u32 0)):=by kernel_rfl
theorem AeQ_ (r:Sha.St8):Cv envS 167 [(0, .bool true),(1, .agg (st8V r))]=some (.bool true::((st8V r).toList++(u8l (List.replicate 64 0)++[.int .i64 ((0:Nat):Int)]))):=by kernel_rfl
theorem YV_:Cv envS 163 [(0, .int .u32 1779033703),(1, .int .u32 3144134277),(2, .int .u32 1013904242),(3, .int .u32 2773480762),(4, .int .u32 1359893119),(5, .int .u32 2600822924),(6, .int .u32 528734635),(7, .int .u32 1541459225)]=some (st8V Dc).toList:=by kernel_rfl
theorem Aht_ {n:Nat}{s:St}{Q:Value->St->Prop}(hbd:s.lim<=s.next)(hn:10<=n)(q: ∀s1,Ext Non Non s s1->Q (.agg (st8V Dc)) s1):W (Ab envS (runF envS n) 133 []) s Q:=by
 refine Td_ λtm=> ?_
 refine Qc_.u ?_
 simp -implicitDefEqProofs only[Ws,RR,SS]
 refine W.alloc Acs_ λsa na xa oa=> ?_
 refine Pf_.u ?_
 simp -implicitDefEqProofs only[Fy_,RR,SS, ↓reduceIte,CA YV_]
 refine W.store Io rfl rfl (λi hi=>⟨.int .u32 0,by rw[Nat.zero_add];have:=oa i (.int .u32 0) (by rw[List.getElem?_replicate];rw[if_pos hi]);rw[Nat.zero_add]at this;exact this⟩) λsb nb xb ob=> ?_
 refine bB (r:=0) (t:=163) rfl (.inl ZN_) (by omega) Id_ Aec_ (xb.cx.trans xa.cx) (by simp[T.get_set];rfl) ?_
 refine aG Io ob.row rfl λsc mc nc xc=> ?_
 have x:Ext Non Non s (sc.cxN s.cx):=((xa.trans xb hbd (λx h g=>by have g1:s.next+0<=x:=g.1;have h1:x<s.lim:=h;omega) λx h g=>by have g1:s.next+0<=x:=g.1;have h1:x<s.next:=h;omega).trans xc hbd (λx h g=>by have g1:s.next+0<=x:=g.1;have h1:x<s.lim:=h;omega) λx h g=>g.elim).cx'
 exact q _ x
def DS.new:DS:=⟨Dc,List.replicate 64 0,0⟩
theorem AaT_ {n:Nat}{s:St}{Q:Value->St->Prop}(hbd:s.lim<=s.next)(hn:30<=n)(q: ∀s1 D,s.next<=D->D+74<=s1.next->Ext Non Non s s1->Dig s1 D DS.new->Q (.pointer (some ⟨D,0,none⟩)) s1):W (Ab envS (runF envS n) 110 []) s Q:=by
 refine Alb_ λtm=> ?_
 refine Afm_.u ?_
 simp -implicitDefEqProofs only[Z3,RR,SS]
 refine UX_.u ?_
 simp -implicitDefEqProofs only[MD_,RR,SS]
 refine Aht_ (s:=s.cxN cxN) hbd (by omega) λsa xa=> ?_
 simp -implicitDefEqProofs only[CA (AeQ_ Dc)]
 refine W.box λsb nb xb ob=> ?_
 refine aF (rs:=[0]) (vs:=[.pointer (some ⟨sa.next,0,none⟩)]) rfl (.inl Ua_) (by omega) Fm_ Yi_ (xb.cx.trans xa.cx) (by simp[T.get_set]) ?_
 have hx:Ext Non Non s (sb.cxN s.cx):=(xa.trans xb hbd (λx h g=>g) λx h g=>g).cx'
 have ob':Aa (sb.cxN s.cx) sa.next 0 (.bool true::((st8V Dc).toList++(u8l (List.replicate 64 0)++[.int .i64 ((0:Nat):Int)]))):=λi v e=>(ob i v e).same rfl rfl
 refine q _ sa.next xa.nxt ?_ hx ⟨?_, ?_, ?_, ?_,rfl, ?_,Tr⟩
 ·have h:(sb.cxN s.cx).next=sa.next+74+1:=nb
  omega
 ·exact ob' 0 _ rfl
 ·intro i v e
  have e:(st8V Dc).toList[i]?=some v:=e
  have hi:=(List.getElem?_eq_some_iff.1 e).1
  have:=ob' (1+i) v (by rw[Nat.add_comm,List.getElem?_cons_succ,List.getElem?_append_left hi];exact e)
  rw[Nat.zero_add]at this
  exact this
 ·intro i v e
  have e:(u8l (List.replicate 64 0))[i]?=some v:=e
  have hi:=(List.getElem?_eq_some_iff.1 e).1
  have:=ob' (9+i) v (by rw[show 9+i=(8+i)+1 by omega,List.getElem?_cons_succ,List.getElem?_append_right (by rw[Dt];omega),Dt,show 8+i-8=i by omega,List.getElem?_append_left hi];exact e)
  rw[Nat.zero_add]at this
  exact this
 ·exact ob' 73 _ rfl
 ·intro x hx
  have hx:x∈List.replicate 64 0:=hx
  rw[List.mem_replicate]at hx
  omega
theorem Jd:hasT envS 3=true:=by kernel_rfl
def tl8 (N:Nat):Nat->List Nat
 |0=>[]
 |k+1=>(N>>>(8*k))%256::tl8 N k
theorem OJ (N:Nat): ∀k,(tl8 N k).length=k
 |0=>rfl
 |k+1=>by unfold tl8;rw[List.length_cons,OJ N k]
theorem M6 (N:Nat): ∀k,Byt (tl8 N k)
 |0=>λx hx=>by cases hx
 |k+1=>λx hx=>by
  unfold tl8 at hx
  rcases List.mem_cons.1 hx with rfl|hx
  ·exact Nat.mod_lt _ (by decide)
  ·exact M6 N k x hx
abbrev PadF (D B:Nat):Nat->Prop:=λx=>In D 0 74 x\/In B 0 80 x
theorem SS_ {D B:Nat}{a2 a3 a4:Value}{d:DS}{Q:Value×FrameMode->St->Prop}{s0:St}(hmax:8*d.n<=9223372036854775807)(hb0:s0.lim<=s0.next)(hdis:D+74<=B\/B+80<=D)(hB:B+80<=s0.next): ∀(k n:Nat) (tm:T Value) (s:St) (td:List Item) (p:List Nat),k<=8->10*k+20<=n->skim 64 td=Jr->Ext (PadF D B) (In B 0 80) s0 s->Dig s D d->Aa s B 0 (u8l p)->An s B 0 80->p.length+k<=80->
  T.get tm 0=some (.pointer (some ⟨D,0,none⟩))->T.get tm 2=some a2->T.get tm 3=some a3->T.get tm 4=some a4->T.get tm 5=some (.slice (some ⟨B,0,none⟩) p.length 80)->T.get tm 6=some (.int .i64 (8*((k:Nat):Int)-8))->
  (∀n' tm' s1 td',n<=n'+10*k+5->skim 64 td'=Rt->Ext (PadF D B) (In B 0 80) s0 s1->Dig s1 D d->Aa s1 B 0 (u8l (p++tl8 (8*d.n) k))->T.get tm' 0=some (.pointer (some ⟨D,0,none⟩))->T.get tm' 2=some a2->T.get tm' 3=some a3->T.get tm' 4=some a4->T.get tm' 5=some (.slice (some ⟨B,0,none⟩) (p.length+k) 80)->W (runF envS n' ⟨112,GH,BC,tm',td', .run, .normal,none⟩) s1 Q)->
  W (runF envS n ⟨112,GH,BC,tm,td, .run, .normal,none⟩) s Q:=by
 intro k
 induction k with
 |zero=>
  intro n tm s td p hk hn hT hx hd ho hw hl h0 h2 h3 h4 h5 h6 q
  refine Y5.u ?_ hT
  simp -implicitDefEqProofs only[Ri,RR,SS,Gv,h6]
  refine aH YU ?_
  refine q _ _ _ _ (by omega) rfl hx hd ?_ (by simp[T.get_set,h0]) (by simp[T.get_set,h2]) (by simp[T.get_set,h3]) (by simp[T.get_set,h4]) (by simp[T.get_set,h5])
  rw[show tl8 (8*d.n) 0=[]from rfl,List.append_nil]
  exact ho
 |succ k ih=>
  intro n tm s td p hk hn hT hx hd ho hw hl h0 h2 h3 h4 h5 h6 q
  have ec:(8*((k+1:Nat):Int)-8)=((8*k:Nat):Int):=by omega
  rw[ec]at h6
  refine Y5.u ?_ hT
  simp -implicitDefEqProofs only[Ri,RR,SS,Gv,h6]
  refine aI YU ?_
  refine Ub_.u ?_
  simp -implicitDefEqProofs only[Zi,RR,SS,Nat.reduceEqDiff,reduceCtorEq, ↓reduceIte,h0,h5,h6,Au Jv (by decide:0<1)]
  refine aB IK hd.n.at' ?_
  have hxa:Ext (PadF D B) (In B 0 80) s0 (s.rdN (D+(0+73))):=hx.trans (Ext.rdN (F:=PadF D B) s _ λ_=> .inl ⟨by omega,by omega⟩) hb0 (λ_ _ h=>h) λ_ _ h=>h
  have hda:Dig (s.rdN (D+(0+73))) D d:=hd.same rfl rfl
  have hoa:Aa (s.rdN (D+(0+73))) B 0 (u8l p):=λi v e=>(ho i v e).same rfl rfl
  have hwa:An (s.rdN (D+(0+73))) B 0 80:=λj hj=>let ⟨u,h⟩:=hw j hj;⟨u,h.same rfl rfl⟩
  generalize s.rdN (D+(0+73))=sa at hxa hda hoa hwa ⊢
  simp -implicitDefEqProofs only[K2 hmax,Fk (k:= .i64) (kk:= .i64) (n:=8*k) (show 8*k<=64 by omega),Cu Jd Dy,wrap_u8]
  have hba:sa.lim<=sa.next:=hxa.bnd hb0
  refine aK hba (r:=u8l [(8*d.n)>>>(8*k)%256]) Ck (by decide) rfl (Az (by decide)) λsb nb xb rb=> ?_
  have hxb:Ext (PadF D B) (In B 0 80) s0 sb:=hxa.trans xb hb0 (λ_ _ h=>h.elim) λ_ _ h=>h.elim
  have hBs:Bs sb (.slice (some ⟨sa.next,0,none⟩) 1 1) [(8*d.n)>>>(8*k)%256]:=Aa.bn rb (Az (by simp))
  have hob:Aa sb B 0 (u8l p):=hoa.ext0 xb
  have hwb:An sb B 0 80:=λj hj=>let ⟨u,h⟩:=hwa j hj;⟨u,h.ext0 xb⟩
  simp -implicitDefEqProofs only[CC]
  refine W.appIn (n:=1) GF hBs.src.g (by rw[Nat.mod_eq_of_lt (Az (by decide))];omega) rfl (Bx _) (λi hi=> ?_) λsc nc xc rc=> ?_
  ·have:=hwb (p.length+i) (by omega)
   rw[show 0+p.length*1+i=0+(p.length+i) by omega]
   exact this
  have sub: ∀x,In B (0+p.length*1) (1*1) x->In B 0 80 x:=λx h=>⟨by have:=h.1;omega,by
   have h4:x<B+(0+p.length*1)+1*1:=h.2
   omega⟩
  have nod: ∀i,i<74-> ¬In B (0+p.length*1) (1*1) (D+i):=λi hi h=>by
   have h3:B+(0+p.length*1)<=D+i:=h.1
   have h4:D+i<B+(0+p.length*1)+1*1:=h.2
   omega
  have hxc:Ext (PadF D B) (In B 0 80) s0 sc:=hxb.trans xc hb0 (λx hx' h=>by
   rcases h with h|h
   ·have h1:sa.next+0<=x:=h.1
    have h2:=hxa.nxt
    omega
   ·exact .inr (sub x h)) λx _ h=>sub x h
  have hdc:Dig sc D d:=⟨hda.made.ext0 xb |>.ext xc (nod 0 (by decide)),(hda.st.ext0 xb).ext xc λi hi=>nod (1+i) (by rw[Dt]at hi;omega),(hda.w.ext0 xb).ext xc λi hi=>nod (9+i) (by rw[Av,hda.len]at hi;omega),(hda.n.ext0 xb).ext xc (nod 73 (by decide)),hda.len,hda.byt,hda.ok⟩
  have hoc:Aa sc B 0 (u8l (p++[(8*d.n)>>>(8*k)%256])):=by
   have e:u8l (p++[(8*d.n)>>>(8*k)%256])=u8l p++u8l [(8*d.n)>>>(8*k)%256]:=List.map_append
   rw[e]
   refine Aa.append (hob.ext xc λi hi h=> ?_) ?_
   ·rw[Av]at hi
    have h1:B+(0+p.length*1)<=B+(0+i):=h.1
    omega
   ·rw[Av,show 0+p.length=0+p.length*1 by omega]
    exact rc
  have hwc:An sc B 0 80:=hwb.ext xc rc
  have hlp:(p++[(8*d.n)>>>(8*k)%256]).length=p.length+1:=by simp
  refine AeJ_.u ?_
  have e8:wrap64 (((8*k:Nat):Int)-8)=8*((k:Nat):Int)-8:=by
   rw[Ax (by omega) (by omega)];omega
  simp -implicitDefEqProofs only[Yf,RR,SS,Nat.reduceEqDiff, ↓reduceIte,Cq,h6,e8]
  refine ih _ _ sc _ (p++[(8*d.n)>>>(8*k)%256]) (by omega) (by omega) Pm_ hxc hdc hoc hwc (by omega) (by simp[T.get_set,h0]) (by simp[T.get_set,h2]) (by simp[T.get_set,h3]) (by simp[T.get_set,h4]) (by simp[T.get_set]) (by simp[T.get_set]) λn' tm' s1 td' e1 e2 e3 e4 e5 e6 e7 e8 e9 e10=>q n' tm' s1 td' (by omega) e2 e3 e4 ?_ e6 e7 e8 e9 ?_
  ·rw[List.append_assoc]at e5
   exact e5
  ·rw[hlp]at e10
   rw[e10,show p.length+1+k=p.length+(k+1) by omega]
theorem K5:arrN envS 101=some (32,1):=by kernel_rfl
theorem Qh_:arrU envS 163=some 8:=by kernel_rfl
def be4 (x:Nat):List Nat:=[x>>>24%256,x>>>16%256,x>>>8%256,x%256]
def outs:List Nat->List Nat
 |[]=>[]
 |x::l=>be4 x++outs l
theorem LH: ∀l:List Nat,(outs l).length=4*l.length
 |[]=>rfl
 |x::l=>by
  unfold outs
  rw[List.length_append,LH l,List.length_cons]
  show 4+_=_
  omega
theorem ES_ (x:Nat): ∀l:List Nat,outs (l++[x])=outs l++be4 x
 |[]=>by show be4 x++[]=_;rw[List.append_nil];rfl
 |y::l=>by
  show be4 y++outs (l++[x])=(be4 y++outs l)++be4 x
  rw[ES_ x l,List.append_assoc]
theorem AeC_ {O:Nat}{a2:Value}{cs:Array Value}{l:List Nat}(hl8:l.length=8)(hcs: ∀i (h:i<l.length),cs.toList[i]?=some (.int .u32 (l[i]:Nat))){Q:Value×FrameMode->St->Prop}{s0:St}(hb0:s0.lim<=s0.next): ∀(k i n:Nat) (tm:T Value) (s:St) (td:List Item),i+k=8->10*k+20<=n->skim 64 td=Ln->Ext (In O 0 32) (In O 0 32) s0 s->Aa s O 0 (u8l (outs (l.take i)))->An s O 0 32->
  T.get tm 2=some a2->T.get tm 3=some (.pointer (some ⟨O,0,none⟩))->T.get tm 51=some (.agg cs)->T.get tm 52=some (.int .i64 (i:Nat))->
  (∀n' tm' s1 td',n<=n'+10*k+5->skim 64 td'=Pv->Ext (In O 0 32) (In O 0 32) s0 s1->Aa s1 O 0 (u8l (outs l))->T.get tm' 2=some a2->T.get tm' 3=some (.pointer (some ⟨O,0,none⟩))->W (runF envS n' ⟨112,GH,BC,tm',td', .run, .normal,none⟩) s1 Q)->
  W (runF envS n ⟨112,GH,BC,tm,td, .run, .normal,none⟩) s Q:=by
 intro k
 induction k with
 |zero=>
  intro i n tm s td hi hn hT hx ho hw h2 h3 h51 h52 q
  refine Iw_.u ?_ hT
  simp -implicitDefEqProofs only[Ou,RR,SS,h52,show(8:Int)=((8:Nat):Int)from rfl]
  simp -implicitDefEqProofs only[Ak]
  refine aH Az_ ?_
  rw[show i=l.length by omega,List.take_length]at ho
  exact q _ _ _ _ (by omega) rfl hx ho (by simp[T.get_set,h2]) (by simp[T.get_set,h3])
 |succ k ih=>
  intro i n tm s td hi hn hT hx ho hw h2 h3 h51 h52 q
  have hil:i<l.length:=by omega
  refine Iw_.u ?_ hT
  simp -implicitDefEqProofs only[Ou,RR,SS,h52]
  simp -implicitDefEqProofs only[Ak]
  refine aI Az_ ?_
  refine OC_.u ?_
  simp -implicitDefEqProofs only[U3,RR,SS,Nat.reduceEqDiff, ↓reduceIte,h51,h52,XM_ Qh_ (show i<8 by omega) (hcs i hil)]
  refine Ro_.u ?_
  generalize hxe:l[i]=x
  simp -implicitDefEqProofs only[Wf,RR,SS,Nat.reduceEqDiff, ↓reduceIte,h3,SG (show 4*i<=9223372036854775807 by omega),Je (lo:=some (.int .i64 ((4*i:Nat):Int))) (hi:=none) (l:=4*i) (h:=32) K5 (Az (by decide)) rfl rfl (by omega) (Nat.le_refl _)]
  rw[if_neg (by omega)]
  simp -implicitDefEqProofs only[Cu Gg Dy,wrap_u8,Gt (k:= .u32) (by decide),Qk (k:= .u32) (by decide),PE (k:= .u32) (by decide)]
  have hba:s.lim<=s.next:=hx.bnd hb0
  refine aK hba (r:=u8l (be4 x)) Ck (by decide) rfl (Az (by decide)) λsb nb xb rb=> ?_
  have hxb:Ext (In O 0 32) (In O 0 32) s0 sb:=hx.trans xb hb0 (λ_ _ h=>h.elim) λ_ _ h=>h.elim
  have hBs:Bs sb (.slice (some ⟨s.next,0,none⟩) 4 4) (be4 x):=Aa.bn rb (Az (by simp[be4]))
  have hob:Aa sb O 0 (u8l (outs (l.take i))):=ho.ext0 xb
  have hwb:An sb O 0 32:=λj hj=>let ⟨u,h⟩:=hw j hj;⟨u,h.ext0 xb⟩
  refine W.copy (k:=4) (l:=u8l (be4 x)) Ck (Nat.min_eq_right (show 4<=32-4*i by omega)).symm (hBs.srcK (k:=4) (Nat.le_refl _)) rfl (Bx _) (λj hj=> ?_) λsc nc xc rc=> ?_
  ·have:=hwb (4*i+j) (by omega)
   rw[show 0+4*i*1+j=0+(4*i+j) by omega]
   exact this
  have sub: ∀y,In O (0+4*i*1) (4*1) y->In O 0 32 y:=λy h=>⟨by have:=h.1;omega,by
   have h4:y<O+(0+4*i*1)+4*1:=h.2
   omega⟩
  have hxc:Ext (In O 0 32) (In O 0 32) s0 sc:=hxb.trans xc hb0 (λy hy h=>by
   rcases h with h|h
   ·have h1:s.next+0<=y:=h.1
    have h2:=hx.nxt
    omega
   ·exact sub y h) λy _ h=>sub y h
  have hlt:(outs (l.take i)).length=4*i:=by rw[LH,List.length_take];omega
  have hoc:Aa sc O 0 (u8l (outs (l.take (i+1)))):=by
   have e:u8l (outs (l.take (i+1)))=u8l (outs (l.take i))++u8l (be4 x):=by
    rw[List.take_add_one,List.getElem?_eq_getElem hil,hxe]
    show u8l (outs (l.take i++[x]))=_
    rw[ES_]
    exact List.map_append
   rw[e]
   refine Aa.append (hob.ext xc λj hj h=> ?_) ?_
   ·rw[Av,hlt]at hj
    have h1:O+(0+4*i*1)<=O+(0+j):=h.1
    omega
   ·rw[Av,hlt,show 0+4*i=0+4*i*1 by omega]
    exact rc
  have hwc:An sc O 0 32:=hwb.ext xc rc
  refine Aim_.u ?_
  have ei:=eiW (i:=i) (by omega)
  simp -implicitDefEqProofs only[Uh,RR,SS,Nat.reduceEqDiff, ↓reduceIte,Aw,h52,ei]
  exact ih (i+1) _ _ sc _ (by omega) (by omega) Qo_ hxc hoc hwc (by simp[T.get_set,h2]) (by simp[T.get_set,h3]) (by simp[T.get_set,h51]) (by simp[T.get_set]) λn' tm' s1 td' e1=>q n' tm' s1 td' (by omega)
theorem SD:tyS envS 167=some (74,true):=by kernel_rfl
theorem Ajv_:CG envS 167=some (.bool false::(List.replicate 8 (.int .u32 0)++(List.replicate 64 (.int .u8 0)++[.int .i64 0]))):=by kernel_rfl
theorem DI:tyS envS 101=some (32,true):=by kernel_rfl
theorem F6:CG envS 101=some (List.replicate 32 (.int .u8 0)):=by kernel_rfl
def DS.row (d:DS):List Value:= .bool true::((st8V d.st).toList++(u8l d.w++[.int .i64 (d.n:Nat)]))
theorem DS.row_len (d:DS)(h:d.w.length=64):d.row.length=74:=by
 unfold DS.row
 rw[List.length_cons,List.length_append,Dt,List.length_append,Av,h]
 rfl
theorem DS.row_one (d:DS):d.row.all oneCell=true:=by
 have h1:(st8V d.st).toList.all oneCell=true:=rfl
 unfold DS.row
 rw[List.all_cons,List.all_append,List.all_append,Bx,h1]
 rfl
theorem Aa.app_l {s:St}{b o:Nat}{l l':List Value}(h:Aa s b o (l++l')):Aa s b o l:=λi v e=>h i v (by rw[List.getElem?_append_left (List.getElem?_eq_some_iff.1 e).1];exact e)
theorem Aa.app_r {s:St}{b o:Nat}{l l':List Value}(h:Aa s b o (l++l')):Aa s b (o+l.length) l':=λi v e=>by
 have:=h (l.length+i) v (by rw[List.getElem?_append_right (by omega),show l.length+i-l.length=i by omega];exact e)
 rw[<-Nat.add_assoc]at this
 exact this
theorem Aa.cons_l {s:St}{b o:Nat}{v:Value}{l:List Value}(h:Aa s b o (v::l)):Own s b o v:=h 0 v rfl
theorem Aa.cons_r {s:St}{b o:Nat}{v:Value}{l:List Value}(h:Aa s b o (v::l)):Aa s b (o+1) l:=λi x e=>by
 have:=h (i+1) x (by simpa using e)
 rw[show o+1+i=o+(i+1) by omega]
 exact this
theorem Aa.cons {s:St}{b o:Nat}{v:Value}{l:List Value}(h:Own s b o v)(k:Aa s b (o+1) l):Aa s b o (v::l):=λi x e=>by
 cases i with
 |zero=>simp at e;subst e;exact h
 |succ i=>
  have:=k i x (by simpa using e)
  rw[show o+(i+1)=o+1+i by omega]
  exact this
theorem Aa.nil {s:St}{b o:Nat}:Aa s b o []:=λi x e=>by simp at e
theorem Dig.toRow {s:St}{D:Nat}{d:DS}(h:Dig s D d):Aa s D 0 d.row:=by
 unfold DS.row
 refine Aa.cons h.made (Aa.append h.st (Aa.append ?_ ?_))
 ·rw[Dt];exact h.w
 ·rw[Dt,Av,h.len]
  exact Aa.cons h.n .nil
theorem Dig.ofRow {s:St}{D:Nat}{d:DS}(h:Aa s D 0 d.row)(h1:d.w.length=64)(h2:Byt d.w)(h3:d.st.Ok):Dig s D d:=by
 unfold DS.row at h
 have h4:=h.cons_r
 have h5:=h4.app_r
 have h6:=h5.app_r
 rw[Dt]at h5
 rw[Dt,Av,h1]at h6
 exact⟨h.cons_l,h4.app_l,h5.app_l,h6.cons_l,h1,h2,h3⟩
def DS.pad0 (d:DS):List Nat:=128::List.replicate ((119-d.n%64)%64) 0
def DS.pad (d:DS):List Nat:=d.pad0++tl8 (8*d.n) 8
def DS.fin (d:DS):DS:=DS.write d.pad.length d d.pad
def st8L (r:Sha.St8):List Nat:=[r.a,r.b,r.c,r.d,r.e,r.f,r.g,r.h]
def DS.sum (d:DS):List Nat:=outs (st8L d.fin.st)
theorem DS.pad0_len (d:DS):d.pad0.length=(119-d.n%64)%64+1:=by unfold DS.pad0;rw[List.length_cons,List.length_replicate]
theorem DS.pad0_byt (d:DS):Byt d.pad0:=λx hx=>by
 unfold DS.pad0 at hx
 rcases List.mem_cons.1 hx with rfl|hx
 ·decide
 ·rw[List.mem_replicate]at hx;omega
theorem DS.pad_byt (d:DS):Byt d.pad:=λx hx=>by
 rcases List.mem_append.1 hx with hx|hx
 ·exact d.pad0_byt x hx
 ·exact M6 _ _ x hx
theorem DS.sum_len (d:DS):d.sum.length=32:=LH _
theorem TL_ (r:Sha.St8)(i:Nat)(h:i<(st8L r).length):(st8V r).toList[i]?=some (.int .u32 ((st8L r)[i]:Nat)):=by
 have h8:i<8:=h
 match i,h8 with
 |0,_=>rfl
 |1,_=>rfl
 |2,_=>rfl
 |3,_=>rfl
 |4,_=>rfl
 |5,_=>rfl
 |6,_=>rfl
 |7,_=>rfl
theorem Ta_ {C O2 O3 n:Nat}{d:DS}{tm:T Value}{td:List Item}{s:St}{Q:Value×FrameMode->St->Prop}(hb:s.lim<=s.next)(hcx:s.cx= .cx none (some []))(h23:O2+32<=O3)(hd:Dig s C d)(ho3:An s O3 0 32)(ho2:An s O2 0 32)(hn:120<=n)(hT:skim 64 td=NN)
  (h2:T.get tm 2=some (.pointer (some ⟨O2,0,none⟩))) (h3:T.get tm 3=some (.pointer (some ⟨O3,0,none⟩))) (h4:T.get tm 4=some (.pointer (some ⟨C,0,none⟩)))
  (q: ∀s1,Ext (λx=>In C 0 74 x\/In O3 0 32 x\/In O2 0 32 x) (λx=>In O3 0 32 x\/In O2 0 32 x) s s1->Q (.agg (u8l (outs (st8L d.st))).toArray, .run) s1):W (runF envS n ⟨112,GH,BC,tm,td, .run, .normal,none⟩) s Q:=by
 refine OL_.u ?_ hT
 simp -implicitDefEqProofs only[VU,RR,SS,h4,Au RA (by decide:0<8)]
 refine aG Io hd.st.row (Dt _) λsa ma na xa=> ?_
 have hxa:Ext (λx=>In C 0 74 x\/In O3 0 32 x\/In O2 0 32 x) (λx=>In O3 0 32 x\/In O2 0 32 x) s sa:=xa.weak hb (λx _ h=> .inl ⟨by have:=h.1;omega,by have:=h.2;omega⟩) λ_ _ h=>h.elim
 have ho3a:An sa O3 0 32:=λj hj=>let ⟨u,h⟩:=ho3 j hj;⟨u,h.same ma na⟩
 have ho2a:An sa O2 0 32:=λj hj=>let ⟨u,h⟩:=ho2 j hj;⟨u,h.same ma na⟩
 have hba:sa.lim<=sa.next:=xa.bnd hb
 refine AeC_ (l:=st8L d.st) (cs:=(st8V d.st).toList.toArray) rfl (λi h=>TL_ d.st i h) hba 8 0 _ _ sa _ rfl (by omega) rfl (Ext.refl sa) (λi v e=>by simp[outs,u8l]at e) ho3a (by simp[T.get_set,h2];rfl) (by simp[T.get_set,h3]) (by simp[T.get_set]) (by simp[T.get_set]) λn' tm' sb td' e1 e2 xb ob t2 t3=> ?_
 refine AdB_.u ?_ e2
 simp -implicitDefEqProofs only[KN_,RR,SS,t2,t3]
 have hxb:=hxa.trans xb hb (λx _ h=> .inr (.inl h)) λx _ h=> .inl h
 have hlen:(u8l (outs (st8L d.st))).length=32:=by rw[Av,LH];rfl
 refine aG DI ob.row hlen λsc mc nc xc=> ?_
 have hxc:=hxb.trans xc hb (λx _ h=> .inr (.inl h)) λx _ h=>h.elim
 have ho2c:An sc O2 0 32:=λj hj=>by
  obtain⟨u,h⟩:=ho2a j hj
  refine⟨u,(h.ext xb λh=> ?_).same mc nc⟩
  have h1:O3+0<=O2+(0+j):=h.1
  omega
 refine W.store DI hlen (Bx _) ho2c λse ne xe oe=> ?_
 have hxe:=hxc.trans xe hb (λx _ h=> .inr (.inr h)) λx _ h=> .inr h
 refine bB (r:=2) rfl (.inl OQ_) (by omega) Cg_ AgD_ (hxe.cx.trans hcx) t2 ?_
 refine aG DI oe.row hlen λsf mf nf xf=> ?_
 exact q sf (hxe.trans xf hb (λx _ h=> .inr (.inr h)) λx _ h=>h.elim)
theorem Dig.ext {F G:Nat->Prop}{s s':St}{D:Nat}{d:DS}(h:Dig s D d)(e:Ext F G s s')(k: ∀x,In D 0 74 x-> ¬G x):Dig s' D d:=
 ⟨h.made.ext e (k _ ⟨by omega,by omega⟩),h.st.ext e λi hi=>k _ ⟨by omega,by rw[Dt]at hi;omega⟩,h.w.ext e λi hi=>k _ ⟨by omega,by rw[Av,h.len]at hi;omega⟩,h.n.ext e (k _ ⟨by omega,by omega⟩),h.len,h.byt,h.ok⟩
theorem An.ext1 {F G:Nat->Prop}{s s':St}{b o n:Nat}(h:An s b o n)(e:Ext F G s s')(k: ∀x,In b o n x-> ¬G x):An s' b o n:=λj hj=>let ⟨u,hu⟩:=h j hj;⟨u,hu.ext e (k _ ⟨by omega,by omega⟩)⟩
theorem Qq_ {E:Env}{t:Nat}{s:St}{sz b o n c:Nat}(h:slN E t=some sz)(hk:0<n)(Q:Value->St->Prop):W (BE E t (.slice (some ⟨b,o,none⟩) n c) (.int .i64 0)) s Q=Q (.pointer (some ⟨b,o+0*sz,none⟩)) s:=AL (k:=0) h hk Q
abbrev MidF (D O2:Nat):Nat->Prop:=λx=>In D 0 74 x\/O2<=x
theorem Acu_ {D C O2 O3 n:Nat}{d:DS}{tm:T Value}{td:List Item}{s:St}{Q:Value×FrameMode->St->Prop}(hb:s.lim<=s.next)(hcx:s.cx= .cx none (some []))(hmax:d.n<=900000000)(hD2:D+74<=O2)(h23:O2+32<=O3)(h3C:O3+32<=C)(hCn:C+74<=s.next)(hd:Dig s D d)(hc:Dig s C d)(ho3:An s O3 0 32)(ho2:An s O2 0 32)(hn:2000<=n)(hT:skim 64 td=Ot)
  (h0:T.get tm 0=some (.pointer (some ⟨D,0,none⟩))) (h2:T.get tm 2=some (.pointer (some ⟨O2,0,none⟩))) (h3:T.get tm 3=some (.pointer (some ⟨O3,0,none⟩))) (h4:T.get tm 4=some (.pointer (some ⟨C,0,none⟩)))
  (q: ∀s1,Ext (MidF D O2) (λx=>O2<=x) s s1->Q (.agg (u8l d.sum).toArray, .run) s1):W (runF envS n ⟨112,GH,BC,tm,td, .run, .normal,none⟩) s Q:=by
 refine YR_.u ?_ hT
 simp -implicitDefEqProofs only[Vk,RR,SS,h0,Au Jv (by decide:0<1)]
 refine aB IK hd.n.at' ?_
 have hxa:Ext (MidF D O2) (λx=>O2<=x) s (s.rdN (D+(0+73))):=Ext.rdN (F:=MidF D O2) s _ λ_=> .inl ⟨by omega,by omega⟩
 have hda:Dig (s.rdN (D+(0+73))) D d:=hd.same rfl rfl
 have hca:Dig (s.rdN (D+(0+73))) C d:=hc.same rfl rfl
 have ho3a:An (s.rdN (D+(0+73))) O3 0 32:=λj hj=>let ⟨u,h⟩:=ho3 j hj;⟨u,h.same rfl rfl⟩
 have ho2a:An (s.rdN (D+(0+73))) O2 0 32:=λj hj=>let ⟨u,h⟩:=ho2 j hj;⟨u,h.same rfl rfl⟩
 have na:(s.rdN (D+(0+73))).next=s.next:=rfl
 generalize s.rdN (D+(0+73))=sa at hxa hda hca ho3a ho2a na ⊢
 have hm:d.n%64<64:=Nat.mod_lt _ (by decide)
 have e1:wrap64 (119-((d.n%64:Nat):Int))=((119-d.n%64:Nat):Int):=by
  rw[Ax (by omega) (by omega)];omega
 have e2:wrap64 (1+(((119-d.n%64)%64:Nat):Int))=((d.pad0.length:Nat):Int):=by
  rw[Ax (by omega) (by omega),DS.pad0_len];omega
 have hp0:d.pad0.length<=64:=by rw[DS.pad0_len];omega
 simp -implicitDefEqProofs only[Aw,Cq,Lc,e1,e2]
 have hba:sa.lim<=sa.next:=hxa.bnd hb
 refine W.mkSl (c:=80) Ck (by omega) (by decide) λsb nb xb ob=> ?_
 have hrl:(rep 80 [Value.int .u8 0]).length=80:=by rw[GY];simp
 have hnew:s.next<=sa.next:=hxa.nxt
 have hxb:Ext (MidF D O2) (λx=>O2<=x) s sb:=hxa.trans xb hb (λ_ _ h=>h.elim) λ_ _ h=>h.elim
 have hdb:Dig sb D d:=hda.ext0 xb
 have hcb:Dig sb C d:=hca.ext0 xb
 have ho3b:An sb O3 0 32:=ho3a.ext1 xb λ_ _ h=>h
 have ho2b:An sb O2 0 32:=ho2a.ext1 xb λ_ _ h=>h
 have hob:An sb sa.next 0 80:=by
  have:=Aa.owned ob
  rw[hrl]at this
  exact this
 have hzb:Aa sb sa.next 0 (List.replicate 80 (.int .u8 0)):=by rw[<-GY];exact ob
 clear ob xb hda hca ho3a ho2a
 refine Afo_.u ?_
 simp -implicitDefEqProofs only[Fx_,RR,SS, ↓reduceIte,Qq_ Al (show 0<d.pad0.length by rw[DS.pad0_len];omega)]
 obtain⟨u0,hu0⟩:=hob 0 (by omega)
 refine aL Cd rfl hu0 λsc nc xc oc=> ?_
 have sub: ∀x,In sa.next (0+0*1) 1 x->In sa.next 0 80 x:=λx h=>⟨by have:=h.1;omega,by have:=h.2;omega⟩
 have up: ∀x,In sa.next 0 80 x->O2<=x:=λx h=>by have:=h.1;omega
 have nod: ∀b m x,b+m<=s.next->In b 0 m x-> ¬In sa.next 0 80 x:=λb m x hbm h h'=>by
  have g1:=h.2
  have g2:=h'.1
  omega
 have hxc:Ext (MidF D O2) (λx=>O2<=x) s sc:=hxb.trans xc hb (λx _ h=> .inr (up x (sub x h))) λx _ h=>up x (sub x h)
 have hdc:Dig sc D d:=hdb.ext xc λx h h'=>nod D 74 x (by omega) h (sub x h')
 have hcc:Dig sc C d:=hcb.ext xc λx h h'=>nod C 74 x (by omega) h (sub x h')
 have ho3c:An sc O3 0 32:=ho3b.ext1 xc λx h h'=>nod O3 32 x (by omega) h (sub x h')
 have ho2c:An sc O2 0 32:=ho2b.ext1 xc λx h h'=>nod O2 32 x (by omega) h (sub x h')
 have hwc:An sc sa.next 0 80:=hob.ext (l:=[.int .u8 128]) xc (Aa.cons oc .nil)
 have hpc:Aa sc sa.next 0 (u8l d.pad0):=by
  have e:u8l d.pad0= .int .u8 128::List.replicate ((119-d.n%64)%64) (.int .u8 0):=by
   unfold DS.pad0 u8l
   rw[List.map_cons,List.map_replicate]
   rfl
  rw[e]
  refine Aa.cons oc λi v hi=> ?_
  rw[List.getElem?_replicate]at hi
  split at hi
  ·rename_i hlt
   cases hi
   have:=hzb (1+i) (.int .u8 0) (by rw[List.getElem?_replicate,if_pos (by omega)])
   rw[<-Nat.add_assoc]at this
   refine this.ext xc λh=> ?_
   have:=h.2
   omega
  ·cases hi
 clear hob hzb hu0 oc
 have hbc:sc.lim<=sc.next:=hxc.bnd hb
 have hBn:sa.next+80<=sc.next:=by
  have h1:sb.next=sa.next+(rep 80 [Value.int .u8 0]).length+1:=nb
  omega
 refine ZE_.u ?_
 simp -implicitDefEqProofs only[DR_,RR,SS]
 refine SS_ (d:=d) (a2:= .pointer (some ⟨O2,0,none⟩)) (a3:= .pointer (some ⟨O3,0,none⟩)) (a4:= .pointer (some ⟨C,0,none⟩)) (by omega) hbc (.inl (show D+74<=sa.next by omega)) hBn 8 _ _ sc _ d.pad0 (Nat.le_refl _) (by omega) rfl (Ext.refl sc) hdc hpc hwc (by omega) (by simp[T.get_set,h0]) (by simp[T.get_set,h2]) (by simp[T.get_set,h3]) (by simp[T.get_set,h4]) (by simp[T.get_set]) (by simp[T.get_set]) λn' tm' sd td' f1 f2 xd hdd hpd t0 t2 t3 t4 t5=> ?_
 have hxd:Ext (MidF D O2) (λx=>O2<=x) s sd:=hxc.trans xd hb (λx _ h=>by
  rcases h with h|h
  ·exact .inl h
  ·exact .inr (up x h)) λx _ h=>up x h
 have hcd:Dig sd C d:=hcc.ext xd λx h h'=>nod C 74 x (by omega) h h'
 have ho3d:An sd O3 0 32:=ho3c.ext1 xd λx h h'=>nod O3 32 x (by omega) h h'
 have ho2d:An sd O2 0 32:=ho2c.ext1 xd λx h h'=>nod O2 32 x (by omega) h h'
 have hpl:d.pad.length=d.pad0.length+8:=by unfold DS.pad;rw[List.length_append,OJ]
 rw[<-hpl]at t5
 have hpd':Aa sd sa.next 0 (u8l d.pad):=hpd
 have hbn:Bn sd (.slice (some ⟨sa.next,0,none⟩) d.pad.length 80) d.pad:=⟨sa.next,0,80,rfl,by rw[Nat.mod_eq_of_lt (Az (by decide))];omega,D4 (Az (by decide)),hpd'.row⟩
 have hbd:sd.lim<=sd.next:=hxd.bnd hb
 refine Wl_.u ?_ f2
 simp -implicitDefEqProofs only[U9,RR,SS,t4,t5]
 refine As_ hbd (λx h h'=>nod C 74 x (by omega) h' ⟨h.1,by have:=h.2;omega⟩) hcd (by omega) (λ_=>hbn) hbn.bs d.pad_byt (by omega) λse xe he=> ?_
 have hxe:Ext (MidF D O2) (λx=>O2<=x) s se:=hxd.trans xe hb (λx _ h=>by
  rcases h with h|h
  ·exact .inr (by have:=h.1;omega)
  ·exact .inr (up x ⟨h.1,by have:=h.2;omega⟩)) λx _ h=>by have:=h.1;omega
 have ho3e:An se O3 0 32:=ho3d.ext1 xe λx h h'=>by have:=h.2;have:=h'.1;omega
 have ho2e:An se O2 0 32:=ho2d.ext1 xe λx h h'=>by have:=h.2;have:=h'.1;omega
 have hbe:se.lim<=se.next:=hxe.bnd hb
 refine Ta_ (C:=C) hbe (hxe.cx.trans hcx) h23 he ho3e ho2e (by omega) rfl t2 t3 t4 λsf xf=>q sf (hxe.trans xf hb (λx _ h=> ?_) λx _ h=> ?_)
 ·rcases h with h|h|h
  ·exact .inr (by have:=h.1;omega)
  ·exact .inr (by have:=h.1;omega)
  ·exact .inr (by have:=h.1;omega)
 ·rcases h with h|h
  ·have:=h.1;omega
  ·have:=h.1;omega
theorem Ov_ {D n:Nat}{d:DS}{s:St}{Q:Value->St->Prop}(hbd:s.lim<=s.next)(hd:Dig s D d)(hmax:d.n<=900000000)(hn:2500<=n)
  (q: ∀s1,Ext (In D 0 74) Non s s1->Q (.agg (u8l d.sum).toArray) s1):W (Ab envS (runF envS n) 112 [.pointer (some ⟨D,0,none⟩)]) s Q:=by
 refine Abc_ λtm h0=> ?_
 have hD:D+73<s.next:=by have:=hd.n.1;omega
 have hd0:Dig (s.cxN cxN) D d:=hd.same rfl rfl
 refine Abv_.u ?_
 simp -implicitDefEqProofs only[Uk,RR,SS]
 refine W.alloc F6 λsa na xa oa=> ?_
 have na':sa.next=s.next+33:=na
 have hxa:Ext (In D 0 74) Non (s.cxN cxN) sa:=(Ext.refl _).step xa hbd (λ_ _ h=>h.elim) λ_ h=>h.elim
 refine Qd_.u ?_
 simp -implicitDefEqProofs only[Ja_,RR,SS]
 refine W.alloc F6 λsb nb xb ob=> ?_
 have nb':sb.next=sa.next+33:=nb
 have hxb:Ext (In D 0 74) Non (s.cxN cxN) sb:=hxa.step xb hbd (λ_ _ h=>h.elim) λ_ h=>h.elim
 have hdb:Dig sb D d:=hd0.ext0 hxb
 have ho2:An sb s.next 0 32:=(Aa.owned oa).ext1 xb λ_ _ h=>h
 have ho3:An sb sa.next 0 32:=Aa.owned ob
 refine ON_.u ?_
 simp -implicitDefEqProofs only[ME_,RR,SS,reduceCtorEq, ↓reduceIte,h0,Kd_ T6,Au Dz_ (by decide:0<1)]
 refine aB Hg_ hdb.made.at' ?_
 simp -implicitDefEqProofs only[D5]
 have hxc:Ext (In D 0 74) Non (s.cxN cxN) (sb.rdN (D+(0+0))):=hxb.step (Ext.rdN (F:=In D 0 74) (G:=Non) sb _ λ_=>⟨by omega,by omega⟩) hbd (λ_ _ h=>h) λ_ h=>h.elim
 have hdc:Dig (sb.rdN (D+(0+0))) D d:=hdb.same rfl rfl
 have ho2c:An (sb.rdN (D+(0+0))) s.next 0 32:=λj hj=>let ⟨u,h⟩:=ho2 j hj;⟨u,h.same rfl rfl⟩
 have ho3c:An (sb.rdN (D+(0+0))) sa.next 0 32:=λj hj=>let ⟨u,h⟩:=ho3 j hj;⟨u,h.same rfl rfl⟩
 have nc:(sb.rdN (D+(0+0))).next=sb.next:=rfl
 refine aH Xo_ ?_
 generalize sb.rdN (D+(0+0))=sc at hxc hdc ho2c ho3c nc ⊢
 refine Tn_.u ?_
 simp -implicitDefEqProofs only[JI_,RR,SS,reduceCtorEq, ↓reduceIte,h0]
 refine aG SD hdc.toRow.row (d.row_len hd.len) λsd md nd xd=> ?_
 have hxd:Ext (In D 0 74) Non (s.cxN cxN) sd:=hxc.step xd hbd (λ_ _ h=>h) λ_ h=>h.elim
 refine W.alloc Ajv_ λse ne xe oe=> ?_
 have ne':se.next=sd.next+75:=ne
 have hxe:Ext (In D 0 74) Non (s.cxN cxN) se:=hxd.step xe hbd (λ_ _ h=>h.elim) λ_ h=>h.elim
 have hnd:sd.next=sc.next:=nd
 refine W.store SD (d.row_len hd.len) d.row_one (λi hi=>oe.owned i (by simp;omega)) λsf nf xf of=> ?_
 have hnf:sf.next=se.next:=nf
 have hG: ∀x,In sd.next 0 74 x->s.next<=x:=λx h=>by have:=h.1;omega
 have hxf:Ext (In D 0 74) Non (s.cxN cxN) sf:=hxe.step xf hbd (λx hx h=>by
  have h1:=hG x h
  have h2:x<s.lim:=hx
  omega) λx h=>hG x h
 have hbf:sf.lim<=sf.next:=hxf.bnd hbd
 have hcf:Dig sf sd.next d:=Dig.ofRow of hd.len hd.byt hd.ok
 have hdf:Dig sf D d:=hd0.ext0 hxf
 have ho2f:An sf s.next 0 32:=((ho2c.ext1 xd λ_ _ h=>h).ext1 xe λ_ _ h=>h).ext1 xf λx h h'=>by
  have:=h.2
  have:=h'.1
  omega
 have ho3f:An sf sa.next 0 32:=((ho3c.ext1 xd λ_ _ h=>h).ext1 xe λ_ _ h=>h).ext1 xf λx h h'=>by
  have:=h.2
  have:=h'.1
  omega
 refine Acu_ (D:=D) (C:=sd.next) (O2:=s.next) (O3:=sa.next) (d:=d) hbf hxf.cx hmax (by omega) (by omega) (by omega) (by omega) hdf hcf ho3f ho2f (by omega) rfl (by simp[T.get_set,h0]) (by simp[T.get_set]) (by simp[T.get_set]) (by simp[T.get_set]) λsg xg=> ?_
 have hxg:Ext (In D 0 74) Non (s.cxN cxN) sg:=hxf.step xg hbd (λx hx h=>by
  have h2:x<s.lim:=hx
  rcases h with h|h
  ·exact h
  ·omega) λx h=>h
 exact q _ hxg.cx'
theorem DS.write_n: ∀(f:Nat) (d:DS) (b:List Nat),b.length<=f->(DS.write f d b).n=d.n+b.length
 |0,d,b,h=>by
  have:b.length=0:=by omega
  unfold DS.write
  omega
 |f+1,d,b,h=>by
  unfold DS.write
  by_cases hb:b.length=0
  ·rw[if_pos hb];omega
  ·rw[if_neg hb]
   obtain⟨hk1,hk2⟩:=d.k_le b
   have hm:d.n%64<64:=Nat.mod_lt _ (by decide)
   have hk0:0<d.k b:=by
    unfold DS.k
    exact Nat.lt_min.2 ⟨by omega,by omega⟩
   rw[DS.write_n f _ _ (by rw[List.length_drop];omega),List.length_drop]
   show d.n+d.k b+(b.length-d.k b)=_
   omega
def sumB (b:List Nat):List Nat:=(DS.write b.length DS.new b).sum
theorem FU (b:List Nat):(sumB b).length=32:=DS.sum_len _
theorem Bs.bn' {s:St}{v:Value}{b:List Nat}(h:Bs s v b)(hb:b≠[]):Bn s v b:=by
 rcases h with⟨_,h⟩|h
 ·exact absurd h hb
 ·exact h
theorem Ty_ {n:Nat}{v:Value}{b:List Nat}{s:St}{Q:Value->St->Prop}(hbd:s.lim<=s.next)(hbs:Bs s v b)(hlt: ∀x,BsF v x->x<s.next)(hby:Byt b)(hmax:b.length<=900000)(hn:20*b.length+2600<=n)
  (q: ∀s1,Ext (BsF v) Non s s1->Q (.agg (u8l (sumB b)).toArray) s1):W (Ab envS (runF envS n) 73 [v]) s Q:=by
 refine AdO_ λtm h0=> ?_
 have hbs0:Bs (s.cxN cxN) v b:=hbs.same rfl rfl
 refine Alx_.u ?_
 simp -implicitDefEqProofs only[MQ_,RR,SS]
 refine W.alloc F6 λsa na xa oa=> ?_
 have na':sa.next=s.next+33:=na
 have hxa:Ext (BsF v) Non (s.cxN cxN) sa:=(Ext.refl _).step xa hbd (λ_ _ h=>h.elim) λ_ h=>h.elim
 refine Acp_.u ?_
 simp -implicitDefEqProofs only[EH_,RR,SS]
 refine AaT_ (hxa.bnd hbd) (by omega) λsb D hD1 hD2 xb hd=> ?_
 have hxb:Ext (BsF v) Non (s.cxN cxN) sb:=hxa.step xb hbd (λ_ _ h=>h.elim) λ_ h=>h.elim
 refine XL_.u ?_
 simp -implicitDefEqProofs only[KE_,RR,SS,reduceCtorEq, ↓reduceIte,h0]
 have hbsb:Bs sb v b:=hbs0.ext0 hxb
 refine As_ (hxb.bnd hbd) (λx h h'=>by have:=hlt x h;have:=h'.1;omega) hd (show 0+b.length<=1000000000 by omega) (λh=>hbsb.bn' h) hbsb hby (by omega) λsc xc hdc=> ?_
 have hG: ∀x,In D 0 74 x->s.next<=x:=λx h=>by have:=h.1;omega
 have hxc:Ext (BsF v) Non (s.cxN cxN) sc:=hxb.step xc hbd (λx hx h=>by
  have h2:x<s.lim:=hx
  rcases h with h|h
  ·have:=hG x h;omega
  ·exact h) λx h=>hG x h
 have hoc:An sc s.next 0 32:=((Aa.owned oa).ext1 xb λ_ _ h=>h).ext1 xc λx h h'=>by
  have h1:x<s.next+0+32:=h.2
  have:=h'.1
  omega
 refine Ahe_.u ?_
 simp -implicitDefEqProofs only[X8,RR,SS,Nat.reduceEqDiff, ↓reduceIte]
 refine Ov_ (hxc.bnd hbd) hdc (by rw[DS.write_n _ _ _ (Nat.le_refl _)];show 0+b.length<=_;omega) (by omega) λsd xd=> ?_
 have hxd:Ext (BsF v) Non (s.cxN cxN) sd:=hxc.step xd hbd (λx hx h=>by
  have h2:x<s.lim:=hx
  have:=hG x h
  omega) λ_ h=>h.elim
 have hod:An sd s.next 0 32:=hoc.ext1 xd λ_ _ h=>h
 have hlen:(u8l (DS.write b.length DS.new b).sum).length=32:=by rw[Av];exact DS.sum_len _
 refine W.store DI hlen (Bx _) hod λse ne xe oe=> ?_
 have hG2: ∀x,In s.next 0 32 x->s.next<=x:=λx h=>by have:=h.1;omega
 have hxe:Ext (BsF v) Non (s.cxN cxN) se:=hxd.step xe hbd (λx hx h=>by
  have h2:x<s.lim:=hx
  have:=hG2 x h
  omega) hG2
 refine bB (r:=2) rfl (.inl Zf_) (by omega) Xx PN_ hxe.cx (by simp[T.get_set];rfl) ?_
 refine aG DI oe.row hlen λsf mf nf xf=> ?_
 have hxf:Ext (BsF v) Non (s.cxN cxN) sf:=hxe.step xf hbd (λx hx h=>by
  have h2:x<s.lim:=hx
  have:=hG2 x h
  omega) λ_ h=>h.elim
 exact q _ hxf.cx'
theorem R0 {E:Env}{t n sz l c:Nat}{a:Addr}{s:St}(h:arrN E t=some (n,sz))(h1:n<=l)(h2:0<l)(Q:Value->St->Prop):W (Dd E t (.slice (some a) l c)) s Q=Q (.pointer (some a)) s:=by
 obtain⟨i,e,ie,g1,g2,g3,g4⟩:=Qy h
 refine AC ?_
 unfold Dd
 rw[AG (show ti E t s= .some i s by unfold ti;rw[g1];rfl),g2]
 show M.chk (Nat.ble n l&&Nat.blt 0 l) (M.pure (Value.pointer (some a))) s=_
 rw[Nat.ble_eq_true_of_le h1,Bq h2]
 rfl
theorem Kt:arrN envS 26=some (16,1):=by kernel_rfl
theorem BB:tyS envS 26=some (16,true):=by kernel_rfl
theorem Ei:CG envS 26=some (List.replicate 16 (.int .u8 0)):=by kernel_rfl
def idB (b:List Nat):List Nat:=(sumB b).take 16
theorem Lj (b:List Nat):(idB b).length=16:=by unfold idB;rw[List.length_take,FU];rfl
theorem Zh_ {n:Nat}{v:Value}{b:List Nat}{s:St}{Q:Value->St->Prop}(hbd:s.lim<=s.next)(hbs:Bs s v b)(hlt: ∀x,BsF v x->x<s.next)(hby:Byt b)(hmax:b.length<=900000)(hn:20*b.length+2700<=n)
  (q: ∀s1,Ext (BsF v) Non s s1->Q (.agg (u8l (idB b)).toArray) s1):W (Ab envS (runF envS n) 32 [v]) s Q:=by
 refine RN_ λtm h0=> ?_
 have hbs0:Bs (s.cxN cxN) v b:=hbs.same rfl rfl
 refine Yo_.u ?_
 simp -implicitDefEqProofs only[Ys,RR,SS]
 refine W.alloc Ei λsa na xa oa=> ?_
 have na':sa.next=s.next+17:=na
 have hxa:Ext (BsF v) Non (s.cxN cxN) sa:=(Ext.refl _).step xa hbd (λ_ _ h=>h.elim) λ_ h=>h.elim
 refine Vo_.u ?_
 simp -implicitDefEqProofs only[Dr_,RR,SS,reduceCtorEq, ↓reduceIte,h0]
 refine Ty_ (hxa.bnd hbd) (hbs0.ext0 hxa) (λx h=>by have:=hlt x h;omega) hby hmax (by omega) λsb xb=> ?_
 have hxb:Ext (BsF v) Non (s.cxN cxN) sb:=hxa.step xb hbd (λ_ _ h=>h) λ_ h=>h.elim
 refine W.alloc F6 λsc nc xc oc=> ?_
 have hxc:Ext (BsF v) Non (s.cxN cxN) sc:=hxb.step xc hbd (λ_ _ h=>h.elim) λ_ h=>h.elim
 have hbn:sa.next<=sb.next:=xb.nxt
 have hlen:(u8l (sumB b)).length=32:=by rw[Av];exact FU _
 refine W.store DI hlen (Bx _) (λi hi=>oc.owned i (by simp;omega)) λsd nd xd od=> ?_
 have hG: ∀x,In sb.next 0 32 x->s.next<=x:=λx h=>by have:=h.1;omega
 have hxd:Ext (BsF v) Non (s.cxN cxN) sd:=hxc.step xd hbd (λx hx h=>by
  have h2:x<s.lim:=hx
  have:=hG x h
  omega) hG
 have ho2:An sd s.next 0 16:=(((Aa.owned oa).ext1 xb λ_ _ h=>h).ext1 xc λ_ _ h=>h).ext1 xd λx h h'=>by
  have h1:x<s.next+0+16:=h.2
  have:=h'.1
  omega
 refine AlV_.u ?_
 simp -implicitDefEqProofs only[YW,RR,SS,Nat.reduceEqDiff, ↓reduceIte]
 simp -implicitDefEqProofs only[Je (lo:=none) (hi:=some (.int .i64 16)) (l:=0) (h:=16) K5 (Az (by decide)) rfl rfl (Nat.zero_le _) (by decide),R0 Kt (show 16<=16-0 by decide) (by decide),reduceCtorEq, ↓reduceIte]
 have hlen2:(u8l (idB b)).length=16:=by rw[Av];exact Lj _
 have hod:Aa sd sb.next 0 (u8l (idB b)):=by
  have:=od.take (n:=16)
  show Aa sd sb.next 0 (u8l ((sumB b).take 16))
  unfold u8l
  rw[List.map_take]
  exact this
 refine aG BB hod.row hlen2 λse me ne xe=> ?_
 have hxe:Ext (BsF v) Non (s.cxN cxN) se:=hxd.step xe hbd (λx hx h=>by
  have h2:x<s.lim:=hx
  have h3:sb.next+(0+0*1)<=x:=h.1
  omega) λ_ h=>h.elim
 have ho2e:An se s.next 0 16:=ho2.ext1 xe λ_ _ h=>h
 refine W.store BB hlen2 (Bx _) ho2e λsf nf xf of=> ?_
 have hG2: ∀x,In s.next 0 16 x->s.next<=x:=λx h=>by have:=h.1;omega
 have hxf:Ext (BsF v) Non (s.cxN cxN) sf:=hxe.step xf hbd (λx hx h=>by
  have h2:x<s.lim:=hx
  have:=hG2 x h
  omega) hG2
 refine bB (r:=2) rfl (.inl UR_) (by omega) WA AiB_ hxf.cx (by simp[T.get_set];rfl) ?_
 refine aG BB of.row hlen2 λsg mg ng xg=> ?_
 have hxg:Ext (BsF v) Non (s.cxN cxN) sg:=hxf.step xg hbd (λx hx h=>by
  have h2:x<s.lim:=hx
  have:=hG2 x h
  omega) λ_ h=>h.elim
 exact q _ hxg.cx'
