import Derived.Test.YtheboekhpelhlaaDSb29
namespace Go.Proofs.Ytheboekhpelhlaa.Am
open Go.RowKit
theorem Bs.pre {s:St}{v:Value}{l:List Nat}{kk:Nat}(h:Bs s v l)(hk:kk<=l.length): ∃v',(∀(s':St) (Q:Value->St->Prop),W (AZ envS 32 v none (some (.int .i64 (kk:Nat)))) s' Q=Q v' s')/\Bs s v' (l.take kk)/\ ∀x,BsF v' x->BsF v x:=by
 rcases h with⟨rfl,rfl⟩|⟨b,o,c,rfl,h1,h2,h3⟩
 ·have:kk=0:=by simpa using hk
  subst this
  exact⟨.slice none 0 0,λs' Q=>HT (lo:=none) (hi:=some (.int .i64 ((0:Nat):Int))) Bp rfl rfl Q, .inl ⟨rfl,rfl⟩,λx hx=>hx.elim⟩
 ·obtain⟨o',e1,e2,e3,e4,e5⟩:=Bs.sub' (b:=b) (o:=o) (c:=c) (i:=0) (j:=kk) (l:=l) (Nat.zero_le _) hk h1 h2 h3
  rw[List.drop_zero]at e1 e2 e4 e5
  refine⟨_,λs' Q=> ?_, .inr ⟨b,o',c-0,e1,e2,e3,e4⟩,λx hx=> ?_⟩
  ·exact CW (l:=0) (h:=kk) (lo:=none) (hi:=some (.int .i64 (kk:Nat))) Bp rfl rfl (Nat.zero_le _) J h2 Q
  ·rw[e1]at hx
   have h4:b+o'<=x:=hx.1
   have h5:x<b+o'+(l.take kk).length:=hx.2
   rw[List.length_take]at h5
   show In b o l.length x
   rcases e5 with e5|e5
   ·exact⟨J,J⟩
   ·rw[List.length_take]at e5
    omega
def crW (ks:List Int)(t:Nat)(f:RF):RF:={f with b:=f.b.take (f.safe+BR ks t (f.b.length-f.safe)),safe:=f.safe+BR ks t (f.b.length-f.safe)}
section
variable {n R:Nat}{s:St}{k:RkS}{ks:List Int}{kv:Value}{Q:Value->St->Prop}
theorem AfV_ {Q : Value × FrameMode -> St -> Prop} {s0 : St} (hb0 : s0.lim <= s0.next) (hI0 : RkI s0 R k) (hl : k.ws.length <= 900) (hz : ∀ f ∈ k.ws, f.rf.b.length <= 1000000 /\ f.rf.safe <= f.rf.b.length) (hk0 : KsR s0 kv ks) (hkF : ∀ x, KsF kv x -> x < s0.next /\ ¬ RkG R k x) (hcx : s0.cx = cxN)
   (q : ∀ n' tm' td' s1 ws', 60 <= n' -> skim 64 td' = Ny -> T.get tm' 0 = some (.pointer (some ⟨R, 0, none⟩)) -> Ext Any (RkG R k) s0 s1 -> RkI s1 R { k with ws := ws' } -> ws'.length = k.ws.length -> (∀ t (h : t < ws'.length) (h' : t < k.ws.length), ws'[t].rf = crW ks t k.ws[t].rf) -> (∀ f ∈ ws', ∀ x, BsF f.v x -> RkF R k x \/ s0.next <= x) -> W (runF envS n' ⟨32, OA, BE, tm', td', .run, .normal, none⟩) s1 Q) :
   ∀ (m i n : Nat) (tm : T Value) (s : St) (td : List Item) (ws' : List RW), i + m = k.ws.length -> 20 * m + 100 <= n -> skim 64 td = JH -> Ext Any (RkG R k) s0 s -> RkI s R { k with ws := ws' } -> ws'.length = k.ws.length -> (∀ t (h : t < ws'.length) (h' : t < k.ws.length), (t < i -> ws'[t].rf = crW ks t k.ws[t].rf) /\ (i <= t -> ws'[t].rf = k.ws[t].rf)) -> (∀ f ∈ ws', ∀ x, BsF f.v x -> RkF R k x \/ s0.next <= x) -> T.get tm 0 = some (.pointer (some ⟨R, 0, none⟩)) -> T.get tm 1 = some kv -> T.get tm 5 = some (.int .i64 (i : Nat)) ->
   W (runF envS n ⟨32, OA, BE, tm, td, .run, .normal, none⟩) s Q := by
 intro m
 induction m with
 | zero =>
   intro i n tm s td ws' hi hn hT hx hI hwl hws hF h0 h1 h5
   refine FP_.u ?_ hT
   simp only [OV, RR, SS, h0, h5, Ab AM al]
   refine aA AN hI.r0.at' ?_
   have y : Ext Any (RkG R k) s0 (s.rdN (R + (0 + 0))) := hx.on ((Ext.refl (F := Any) (G := Non) s).thenRd (hx.bnd hb0) (R + (0 + 0))) hb0 λ_ _ h => h.elim
   simp only [Ap, LR.len hI.l AL]
   rw [hwl]
   refine aG Se_ ?_
   exact q _ _ _ _ ws' J rfl (by simp [T.get_set, h0]) y (hI.same rfl rfl) hwl (λt h h' => (hws t h h').1 J) hF
 | succ m ih =>
   intro i n tm s td ws' hi hn hT hx hI hwl hws hF h0 h1 h5
   have hil : i < ws'.length := J
   have hik : i < k.ws.length := J
   have erf := (hws i hil hik).2 (Nat.le_refl _)
   obtain ⟨z1, z2⟩ := hz _ (List.getElem_mem hik)
   rw [<- erf] at z1 z2
   have ei := eiW (i := i) J
   refine FP_.u ?_ hT
   simp only [OV, RR, SS, h0, h5, Ab AM al]
   refine aA AN hI.r0.at' ?_
   have y1 : Ext Any (RkG R k) s0 (s.rdN (R + (0 + 0))) := hx.on ((Ext.refl (F := Any) (G := Non) s).thenRd (hx.bnd hb0) (R + (0 + 0))) hb0 λ_ _ h => h.elim
   have hI1 : RkI (s.rdN (R + (0 + 0))) R { k with ws := ws' } := hI.same rfl rfl
   generalize s.rdN (R + (0 + 0)) = s1 at *
   simp only [Ap, LR.len hI.l AL]
   refine aJ Se_ ?_
   refine YC_.u ?_
   obtain ⟨c, ev, o0, o1, o2⟩ := hI1.l.at hil
   have ev' : k.L = .slice (some ⟨k.b, 0, none⟩) ws'.length c := ev
   have o0' : Own s1 k.b (0 + i * 3 + 0) (.string ws'[i].rf.name) := o0
   have o1' : Own s1 k.b (0 + i * 3 + 1) ws'[i].v := o1
   have o2' : Own s1 k.b (0 + i * 3 + 2) (.int .i64 (ws'[i].rf.safe : Nat)) := o2
   simp only [DK_, RR, SS, Nat.reduceEqDiff, reduceCtorEq, ↓reduceIte, h0, h5, Ab AM al]
   refine aA AN hI1.r0.at' ?_
   have y2 : Ext Any (RkG R k) s0 (s1.rdN (R + (0 + 0))) := y1.on ((Ext.refl (F := Any) (G := Non) s1).thenRd (y1.bnd hb0) (R + (0 + 0))) hb0 λ_ _ h => h.elim
   have hI2 : RkI (s1.rdN (R + (0 + 0))) R { k with ws := ws' } := hI1.same rfl rfl
   have w2 := row3 (s := s1.rdN (R + (0 + 0))) (o0'.same rfl rfl) (o1'.same rfl rfl) (o2'.same rfl rfl)
   generalize s1.rdN (R + (0 + 0)) = s2 at *
   simp only [ev', AA AL hil]
   refine W.loadA Hp w2.row rfl λs3 m3 n3 x3 => ?_
   have y3 : Ext Any (RkG R k) s0 s3 := y2.on (x3.monoF (F := Any) λ_ _ => trivial) hb0 λ_ _ h => h.elim
   have hI3 := hI2.same m3 n3
   refine W.alloc CX_ λs4 n4 x4 o4 => ?_
   have y4 := y3.on x4 hb0 λ_ _ h => h.elim
   have hI4 := hI3.ext0 x4
   refine W.store Hp rfl (by show (true && (oneCell ws'[i].v && (true && true))) = true; rw [(hI1.one _ (List.getElem_mem hil) : oneCell ws'[i].v = true)]; rfl) (λt ht => ⟨_, o4 t _ (List.getElem?_eq_getElem ht)⟩) λs5 n5 x5 o5 => ?_
   rw [FP] at o5
   have hn3 : s0.next <= s3.next := y3.nxt
   have y5 : Ext Any (RkG R k) s0 s5 := y4.on x5 hb0 λx hx h => by have h1 := h.1; omega
   have hI5 : RkI s5 R { k with ws := ws' } := hI4.ext x5 λx hx hF h => by have h1 := hI3.lt x hF; have h2 := h.1; omega
   have hC5 : s3.next + 4 ≤ s5.next := by have h3 : s4.next = s3.next + 3 + 1 := by rw [n4]; rfl
                                          omega
   have hCL0 : ∀ x, MkF 3 ws'.length k.b x -> x < s3.next := λx h => hI3.l.lt x h
   generalize hC : s3.next = C at *
   have hCL : ∀ x, MkF 3 ws'.length k.b x -> x < C := hCL0
   have hR : R + 6 <= s0.next := by have := hI0.r5.1; omega
   have p0 : Own s5 C 0 (.string ws'[i].rf.name) := o5 0 _ rfl
   have p1 : Own s5 C 1 ws'[i].v := o5 1 _ rfl
   have p2 : Own s5 C 2 (.int .i64 (ws'[i].rf.safe : Nat)) := o5 2 _ rfl
   refine Tf_.u ?_
   simp only [HV_, RR, SS]
   refine Vu_.u ?_
   simp only [Lg_, RR, SS, Nat.reduceEqDiff, ↓reduceIte, Ab CB al]
   refine aA A2 (p1.same (s' := s5) rfl rfl).at' ?_
   have hB5 : Bs s5 ws'[i].v ws'[i].rf.b := hI5.bs _ (List.getElem_mem hil)
   simp only [Bs.lenq hB5 BH, Ab Ge al]
   refine aA Bv (p2.same (s' := s5.rdN (C + (0 + 1))) rfl rfl).at' ?_
   have y6 : Ext Any (RkG R k) s0 ((s5.rdN (C + (0 + 1))).rdN (C + (0 + 2))) := y5.on (((Ext.refl (F := Any) (G := Non) s5).thenRd (y5.bnd hb0) (C + (0 + 1))).thenRd (y5.bnd hb0) (C + (0 + 2))) hb0 λ_ _ h => h.elim
   have hI6 : RkI ((s5.rdN (C + (0 + 1))).rdN (C + (0 + 2))) R { k with ws := ws' } := hI5.same rfl rfl
   have p61 : Own ((s5.rdN (C + (0 + 1))).rdN (C + (0 + 2))) C 1 ws'[i].v := p1.same rfl rfl
   have p62 : Own ((s5.rdN (C + (0 + 1))).rdN (C + (0 + 2))) C 2 (.int .i64 (ws'[i].rf.safe : Nat)) := p2.same rfl rfl
   have n6 : ((s5.rdN (C + (0 + 1))).rdN (C + (0 + 2))).next = s5.next := rfl
   generalize (s5.rdN (C + (0 + 1))).rdN (C + (0 + 2)) = s6 at *
   have e7 : wrap64 (((ws'[i].rf.b.length : Nat) : Int) - ((ws'[i].rf.safe : Nat) : Int)) = ((ws'[i].rf.b.length - ws'[i].rf.safe : Nat) : Int) := by
     rw [Bh J J]; omega
   have e8 : wrap64 (((ws'[i].rf.b.length - ws'[i].rf.safe : Nat) : Int) + 1) = ((ws'[i].rf.b.length - ws'[i].rf.safe + 1 : Nat) : Int) := by
     rw [Bh J J]; omega
   simp only [AY, HX, e7, e8]
   generalize hlo : ws'[i].rf.b.length - ws'[i].rf.safe = lo at *
   have hk6 : KsR s6 kv ks := hk0.ext y6 λx hx => (hkF x hx).2
   refine UY_.u ?_
   simp only [Jk_, RR, SS, Nat.reduceEqDiff, ↓reduceIte, Ap, h1, h5, hk6.len]
  
   have fin : ∀ (n' : Nat) (tm' : T Value) (td : List Item) (s' : St), n <= n' + 16 -> skim 64 td = HU -> Ext Any (RkG R k) s0 s' -> RkI s' R { k with ws := ws' } -> Own s' C 1 ws'[i].v -> Own s' C 2 (.int .i64 (ws'[i].rf.safe : Nat)) -> C + 4 <= s'.next -> T.get tm' 0 = some (.pointer (some ⟨R, 0, none⟩)) -> T.get tm' 1 = some kv -> T.get tm' 5 = some (.int .i64 (i : Nat)) -> T.get tm' 6 = some (.pointer (some ⟨C, 0, none⟩)) -> T.get tm' 7 = some (.int .i64 (BR ks i lo : Nat)) -> W (runF envS n' ⟨32, OA, BE, tm', td, .run, .normal, none⟩) s' Q := by
     intro n' tm' td s' hn' hT' y' hI' p1 p2 hCn g0 g1 g5 g6 g7
     have hB' : Bs s' ws'[i].v ws'[i].rf.b := hI'.bs _ (List.getElem_mem hil)
     have hkle := Le ks i lo
     generalize hkk : BR ks i lo = kk at *
     have hkb : ws'[i].rf.safe + kk <= ws'[i].rf.b.length := J
     have hsn : s0.next <= s'.next := y'.nxt
     have hib : k.b + (i * 3 + 1) < s'.next := by
       obtain ⟨_, _, _, q1, _⟩ := hI'.l.at hil
       have := q1.1
       have e : k.b + (0 + i * 3 + 1) < s'.next := this
       omega
     have hp : 0 < ws'.length := J
     have inL1 : MkF 3 ws'.length k.b (k.b + (i * 3 + 1)) := ⟨hp, J, by show _ < k.b + 0 + (ws'.length * 3 + 1); omega⟩
     have inL2 : MkF 3 ws'.length k.b (k.b + (i * 3 + 2)) := ⟨hp, J, by show _ < k.b + 0 + (ws'.length * 3 + 1); omega⟩
     have inK : ∀ x, MkF 3 ws'.length k.b x -> RkG R k x := λx h => .inr (by rw [hwl] at h; exact h)
     obtain ⟨c, ev, q0, q1, q2⟩ := hI'.l.at hil
     have r0 : Own s' R 0 (.slice (some ⟨k.b, 0, none⟩) ws'.length c) := by have := hI'.r0; rwa [show ({ k with ws := ws' } : RkS).L = _ from ev] at this
     refine VI_.u ?_ hT'
     have e11 : wrap64 (((ws'[i].rf.safe : Nat) : Int) + ((kk : Nat) : Int)) = ((ws'[i].rf.safe + kk : Nat) : Int) := by
       rw [Bh J J]; omega
     simp only [Av_, RR, g0, g5, g6, g7, Aa, Aj, EN, A3, A0, AW, Cb]
     rw [W_dq λs Q => AD (s := s) _ Q]
     dsimp only
     try simp only [Aa]
     rw [W_dq λs Q => Ab (s := s) AM al Q]
     dsimp only
     try simp only [Aa]
     refine aD AN ((r0.same (s' := dSt s'.mem s'.next) rfl rfl).at') λrd3 hr3 => ?_
     try simp only [Aa]
     refine Eq.mpr (Aj _ _ _ _ _) ?_
     dsimp only
     refine aO (aQ (s := oSt s'.mem s'.next) (Nat.le_refl _) (r := []) Lm al rfl (BD al) λs1 n1 x1 o1' => ⟨Non, x1, λrd5 hr5 => ?_⟩)
     obtain rfl := CU (λx hx => (hr5 x hx).2)
     have n1' : s1.next = s'.next + 1 := n1
     have eb : (oSt s'.mem s'.next).next = s'.next := rfl
     rw [eb]
     have pp1 := (p1.same (s' := oSt s'.mem s'.next) rfl rfl).ext0 x1
     have pp2 := (p2.same (s' := oSt s'.mem s'.next) rfl rfl).ext0 x1
     have hB1 := (hB'.same (s' := oSt s'.mem s'.next) rfl rfl).ext0 x1
     try simp only [Aa]
     rw [W_dq λs Q => Ab (s := s) CB al Q]
     dsimp only
     try simp only [Aa]
     refine aD A2 ((pp1.same (s' := dSt s1.mem s1.next) rfl rfl).at') λrd7 hr7 => ?_
     try simp only [Aa]
     rw [W_dq λs Q => Ab (s := s) Ge al Q]
     dsimp only
     try simp only [Aa]
     refine aD Bv ((pp2.same (s' := dSt s1.mem s1.next) rfl rfl).at') λrd9 hr9 => ?_
     try simp only [Aa]
     refine Eq.mpr (Aj _ _ _ _ _) ?_
     dsimp only
     try simp only [Aa]
     rw [W_dq λs Q => Hr (s := s) _ _ Q, e11]
     dsimp only
     try simp only [Aa, Cb, AW, A0, A3]
     obtain ⟨vP, eP, bP, fP⟩ := (hB1.same (s' := oSt s1.mem s1.next) rfl rfl).pre hkb
     rw [W_dq λs Q => eP s Q]
     dsimp only
     try simp only [Aa, A0, A3, AW]
     refine aS ?_
     refine W.appBy (s := oSt s1.mem s1.next) (Nat.le_refl _) (EmB.nil (b := s'.next)) bP (by simp; omega) λs8 v8 b8 hb8 m8 x8 => ⟨_, _, x8, λrd8 wr8 hr8 hw8 => ?_⟩
     rw [List.nil_append] at m8
     obtain rfl := CU (λx hx => Ct (hw8 x hx).2)
     have x8' : Ext Any Non (oSt s1.mem s1.next) s8 := (x8.monoF λ_ _ => trivial).gw (Nat.le_refl _) λ_ _ h => (Ct h).elim
     have n8 : s1.next <= s8.next := x8.nxt
     try simp only [Aa]
     rw [W_dq λs Q => AA (s := s) AL hil Q]
     dsimp only
     try simp only [Aa]
     rw [W_dq λs Q => Ab (s := s) CB al Q, AI]
     have hb8' : s'.next <= b8 := by
       rcases hb8 with h | h
       · rw [h]; exact Nat.le_refl _
       · have h' : s1.next <= b8 := h
         omega
     have hRC : R + 6 <= C := J
     have e3 : ∀ x ∈ rd3, x < s'.next := λx h => by have := hr3 x h; omega
     have e7' : ∀ x ∈ rd7, x < s'.next := λx h => by have := hr7 x h; omega
     have e9 : ∀ x ∈ rd9, x < s'.next := λx h => by have := hr9 x h; omega
     have r8 : ∀ x ∈ rd8, x < s'.next := λx h => by
       rcases (hr8 x h).2 with h1 | h1
       · exact hI'.bl _ (List.getElem_mem hil) x (fP x h1)
       · exact (Ct h1).elim
     refine ⟨CP ?_, ?_⟩
     · simp only [List.reverse_cons, List.reverse_nil, List.nil_append, List.cons_append, allP, BS, List.take, Cu]
       have g3 : ∀ x ∈ rd3, ¬ s'.next <= x := λx h => by have := e3 x h; omega
       have g7' : ∀ x ∈ rd7, ¬ s'.next <= x := λx h => by have := e7' x h; omega
       have g9 : ∀ x ∈ rd9, ¬ s'.next <= x := λx h => by have := e9 x h; omega
       have g8 : ∀ x ∈ rd8, ¬ s'.next <= x := λx h => by have := r8 x h; omega
       simp +contextual [g3, g7', g9, g8]
     · refine aK (Afg_ _ _ _ _ _ _ _ _ _ _ _ _ _ _ _ _ _ _ _ _ _) ?_
       simp only [SS]
       generalize hs' : (⟨(dSt s8.mem s8.next).mem, (dSt s8.mem s8.next).next, s'.lim, _, _, s'.cx⟩ : St) = s7
       have m7 : s7.mem = s8.mem := by rw [<- hs']; rfl
       have n7 : s7.next = s8.next := by rw [<- hs']; rfl
       have x7 : Ext Any Non s' s7 := by
         rw [<- hs']
         refine Ext.draw (F := Any) (by show s'.next <= s8.next; omega) (λx hx => ?_) am λ_ _ _ _ _ => trivial
         have h2 : T.get s8.mem x = T.get s1.mem x := x8'.mem x (by show x < s1.next; omega) λh => h
         have h3 : T.get s1.mem x = T.get s'.mem x := x1.mem x hx λh => h
         show T.get s8.mem x = _
         rw [h2, h3]
       have hI7 := hI'.ext0 x7
       have y7 := y'.on x7 hb0 λ_ _ h => h.elim
       refine aI A2 (by obtain ⟨c, e⟩ := m8.at; rw [e]; rfl) (q1.ext0 x7) λs9 n9 x9 o9 => ?_
       have z9 : Ext Any (λy => y = k.b + (i * 3 + 1)) s7 s9 := x9.weak (y7.bnd hb0) (λ_ _ _ => trivial) λy _ hq => by
         have h1 : k.b + (0 + i * 3 + 1) <= y := hq.1
         have h2 : y < k.b + (0 + i * 3 + 1) + 1 := hq.2
         omega
       have o9' : Own s9 k.b (i * 3 + 1) v8 := by
         have o9'' : Own s9 k.b (0 + i * 3 + 1) v8 := o9
         rwa [show 0 + i * 3 + 1 = i * 3 + 1 by omega] at o9''
       have m7' : EmB s7 (ws'[i].rf.b.take (ws'[i].rf.safe + kk)) v8 b8 := m8.same m7 n7
       have hlen : (ws'[i].rf.b.take (ws'[i].rf.safe + kk)).length < capU := Nat.lt_of_le_of_lt (show _ <= 1000000 by rw [List.length_take]; omega) al
       have hFv : ∀ x, BsF v8 x -> s'.next <= x /\ x < s7.next := λx hx => ⟨by have := m7'.f hx; omega, m7'.lt hx⟩
       have hI9 := hI7.put (i := i) (r := 1) (f := ⟨{ ws'[i].rf with b := ws'[i].rf.b.take (ws'[i].rf.safe + kk) }, v8⟩) hil al n9 z9 o9' (Ll hil rfl rfl) ((m7'.bs hlen).ext z9 λx hx h => by have h1 := hFv x hx; have h2 : x = _ := h; omega) λx hx => ⟨by rw [n9]; exact (hFv x hx).2, by have := hFv x hx; omega, λh => by have h1 := hFv x hx; have h2 := hI'.l.lt x h; omega⟩
       have y9 : Ext Any (RkG R k) s0 s9 := y7.on z9 hb0 λy _ h => by
         have h' : y = _ := h
         subst h'
         exact inK _ inL1
       have hC9 : C + 4 <= s9.next := by have := n9; omega
       have p29 : Own s9 C 2 (.int .i64 (ws'[i].rf.safe : Nat)) := (p2.ext0 x7).ext z9 λh => by
         have h1 := hI5.l.lt _ inL1
         have h2 : C + 2 = k.b + (i * 3 + 1) := h
         have h3 := hCL _ inL1
         omega
       replace hI9 : RkI s9 R { k with ws := ws'.set i ⟨{ ws'[i].rf with b := ws'[i].rf.b.take (ws'[i].rf.safe + kk) }, v8⟩ } := hI9
       generalize hws1 : ws'.set i ⟨{ ws'[i].rf with b := ws'[i].rf.b.take (ws'[i].rf.safe + kk) }, v8⟩ = ws1 at *
       have hl1 : ws1.length = ws'.length := by rw [<- hws1, List.length_set]
       have hi1 : i < ws1.length := J
       have ei1 : ws1[i] = ⟨{ ws'[i].rf with b := ws'[i].rf.b.take (ws'[i].rf.safe + kk) }, v8⟩ := by simp only [<- hws1, List.getElem_set_self]
       refine Ajm_.u ?_
       obtain ⟨c9, ev9, _, _, q29⟩ := hI9.l.at hi1
       have r09 : Own s9 R 0 (.slice (some ⟨k.b, 0, none⟩) ws1.length c9) := by have := hI9.r0; rwa [show ({ k with ws := ws1 } : RkS).L = _ from ev9] at this
       simp only [VH, RR, g0, g5, g6, g7, Aa, Aj]
       rw [W_dq λs Q => AD (s := s) _ Q]
       dsimp only
       try simp only [Aa]
       rw [W_dq λs Q => Ab (s := s) AM al Q]
       dsimp only
       try simp only [Aa]
       refine aD AN ((r09.same (s' := dSt s9.mem s9.next) rfl rfl).at') λre3 hs3 => ?_
       try simp only [Aa]
       refine Eq.mpr (Aj _ _ _ _ _) ?_
       dsimp only
       try simp only [Aa]
       rw [W_dq λs Q => Ab (s := s) Ge al Q]
       dsimp only
       try simp only [Aa]
       refine aD Bv ((p29.same (s' := dSt s9.mem s9.next) rfl rfl).at') λre6 hs6 => ?_
       try simp only [Aa]
       refine Eq.mpr (Aj _ _ _ _ _) ?_
       dsimp only
       try simp only [Aa]
       rw [W_dq λs Q => Hr (s := s) _ _ Q, e11]
       dsimp only
       try simp only [Aa]
       rw [W_dq λs Q => AA (s := s) AL hi1 Q]
       dsimp only
       try simp only [Aa]
       rw [W_dq λs Q => Ab (s := s) Ge al Q, AI]
       refine ⟨BZ am am, ?_⟩
       refine aK (WC_ _ _ _ _ _ _ _ _ _ _ _ _ _ _ _ _) ?_
       simp only [SS]
       generalize hs'' : (⟨(dSt s9.mem s9.next).mem, (dSt s9.mem s9.next).next, s9.lim, _, _, s9.cx⟩ : St) = s10
       have m10 : s10.mem = s9.mem := by rw [<- hs'']; rfl
       have n10 : s10.next = s9.next := by rw [<- hs'']; rfl
       have x10 : Ext Any Non s9 s10 := by
         rw [<- hs'']
         exact Ext.draw (F := Any) (Nat.le_refl _) (λ_ _ => rfl) am λ_ _ _ _ _ => trivial
       have y10 := y9.on x10 hb0 λ_ _ h => h.elim
       have hI10 := hI9.same m10 n10
       refine aI Bv rfl (q29.same m10 n10) λs11 n11 x11 o11 => ?_
       have z11 : Ext Any (λy => y = k.b + (i * 3 + 2)) s10 s11 := x11.weak (y10.bnd hb0) (λ_ _ _ => trivial) λy _ hq => by
         have h1 : k.b + (0 + i * 3 + 2) <= y := hq.1
         have h2 : y < k.b + (0 + i * 3 + 2) + 1 := hq.2
         omega
       have o11' : Own s11 k.b (i * 3 + 2) (.int .i64 (ws'[i].rf.safe + kk : Nat)) := by
         have o11'' : Own s11 k.b (0 + i * 3 + 2) (.int .i64 (ws'[i].rf.safe + kk : Nat)) := o11
         rwa [show 0 + i * 3 + 2 = i * 3 + 2 by omega] at o11''
       have hb10 : Bs s10 v8 (ws'[i].rf.b.take (ws'[i].rf.safe + kk)) := by
         have := hI10.bs _ (List.getElem_mem hi1)
         have h2 : Bs s10 ws1[i].v ws1[i].rf.b := this
         rwa [ei1] at h2
       have hI11 := hI10.put (i := i) (r := 2) (f := ⟨{ ws'[i].rf with b := ws'[i].rf.b.take (ws'[i].rf.safe + kk), safe := ws'[i].rf.safe + kk }, v8⟩) hi1 al n11 z11 o11' (QV hi1 (by show _ = ws1[i].rf.name; rw [ei1]) (by show _ = ws1[i].v; rw [ei1])) (hb10.ext z11 λx hx h => by have h1 := hFv x hx; have h2 : x = _ := h; have h3 := hI'.l.lt _ inL2; omega) λx hx => ⟨by have := hFv x hx; omega, by have := hFv x hx; omega, λh => by
         have h0 : MkF 3 ws1.length k.b x := h
         rw [hl1] at h0
         have h1 := hFv x hx; have h2 := hI'.l.lt x h0; omega⟩
       have y11 : Ext Any (RkG R k) s0 s11 := y10.on z11 hb0 λy _ h => by
         have h' : y = _ := h
         subst h'
         exact inK _ inL2
       replace hI11 : RkI s11 R { k with ws := ws'.set i ⟨{ ws'[i].rf with b := ws'[i].rf.b.take (ws'[i].rf.safe + kk), safe := ws'[i].rf.safe + kk }, v8⟩ } := by
         rw [<- List.set_set (a := ⟨{ ws'[i].rf with b := ws'[i].rf.b.take (ws'[i].rf.safe + kk) }, v8⟩), hws1]
         exact hI11
       refine Aka_.u ?_
       simp only [WX, RR, SS, AY, g5, ei]
       refine ih (i + 1) _ _ _ _ _ J J Amz_ y11 hI11 (by rw [List.length_set]; exact hwl) (λt h h' => ?_) (λf hf x hx => ?_) (by simp [T.get_set, g0]) (by simp [T.get_set, g1]) (by simp [T.get_set])
       · rw [List.length_set] at h
         by_cases c : t = i
         · subst c
           refine ⟨λ_ => ?_, λh => J⟩
           rw [List.getElem_set_self, <- erf]
           unfold crW
           rw [hlo, hkk]
         · rw [List.getElem_set_ne J]
           exact ⟨λh1 => (hws t h h').1 J, λh1 => (hws t h h').2 J⟩
       · rcases List.mem_or_eq_of_mem_set hf with hf | rfl
         · exact hF f hf x hx
         · have := hFv x hx
           exact .inr J
   by_cases hki : i < ks.length
   · refine aJ CH_ ?_
     refine ApZ_.u ?_
     obtain ⟨kb, ko, kc, ekv, hko⟩ := hk6.at hki
     simp only [Z8, RR, SS, Nat.reduceEqDiff, ↓reduceIte, h1, h5, ekv, AA GE hki]
     refine aA CL (hko.same (s' := s6) rfl rfl) ?_
     have y7 : Ext Any (RkG R k) s0 (s6.rdN (kb + (ko + i * 1))) := y6.on ((Ext.refl (F := Any) (G := Non) s6).thenRd (y6.bnd hb0) (kb + (ko + i * 1))) hb0 λ_ _ h => h.elim
     have b1 : (ks[i]).tmod ((lo + 1 : Nat) : Int) < ((lo + 1 : Nat) : Int) := Int.tmod_lt_of_pos _ J
     have b2 : -((lo + 1 : Nat) : Int) < (ks[i]).tmod ((lo + 1 : Nat) : Int) := by
       have := Int.lt_tmod_of_pos ks[i] (b := ((lo + 1 : Nat) : Int)) J
       omega
     have ew : wrap64 ((ks[i]).tmod ((lo + 1 : Nat) : Int) + ((lo + 1 : Nat) : Int)) = (ks[i]).tmod ((lo + 1 : Nat) : Int) + ((lo + 1 : Nat) : Int) := Bh J J
     have ek : ks[i] % ((lo + 1 : Nat) : Int) = ((BR ks i lo : Nat) : Int) := by
       unfold BR
       rw [dif_pos hki]
       have h2 := Int.emod_nonneg ks[i] (b := ((lo + 1 : Nat) : Int)) J
       omega
     simp only [AY, CK_ (n := lo + 1) J, ew, Wj (m := lo + 1) J, ek]
     exact fin _ _ _ _ J AdQ_ y7 (hI6.same rfl rfl) (p61.same rfl rfl) (p62.same rfl rfl) (by show C + 4 <= s6.next; omega) (by simp [T.get_set, h0]) (by simp [T.get_set, h1, ekv]) (by simp [T.get_set, h5]) (by simp [T.get_set]) (by simp [T.get_set])
   · refine aG CH_ ?_
     have ek : BR ks i lo = 0 := by unfold BR; rw [dif_neg hki]
     exact fin _ _ _ _ J rfl y6 hI6 p61 p62 J (by simp [T.get_set, h0]) (by simp [T.get_set, h1]) (by simp [T.get_set, h5]) (by simp [T.get_set]) (by rw [ek]; simp [T.get_set])
end
section
variable {n R:Nat}{s:St}{k:RkS}{ks:List Int}{kv:Value}{Q:Value->St->Prop}
theorem Ahp_ (hb:s.lim<=s.next)(hI:RkI s R k)(hl:k.ws.length<=900)(hz: ∀f∈k.ws,f.rf.b.length<=1000000/\f.rf.safe<=f.rf.b.length)(hk:KsR s kv ks)(hkF: ∀x,KsF kv x->x<s.next/\ ¬RkG R k x)(hn:20*k.ws.length+200<=n)
  (q: ∀s1 ws',Rft s s1 R k {k with ws:=ws',out:=false,fused:=false,left:=0}->ws'.length=k.ws.length->(∀t (h:t<ws'.length) (h':t<k.ws.length),ws'[t].rf=crW ks t k.ws[t].rf)->Q (.int .i64 0) s1):
  W (Ac envS (runF envS n) 32 [.pointer (some ⟨R,0,none⟩),kv]) s Q:=by
 have hb0:(s.cxN cxN).lim<=(s.cxN cxN).next:=hb
 have hI0:RkI (s.cxN cxN) R k:=hI.same rfl rfl
 refine Ahk_ λtm h0 h1=> ?_
 refine AeO_.u ?_
 simp only[Zp,RR,SS]
 refine Agk_.u ?_
 simp only[ED_,RR,SS]
 refine AfV_ (k:=k) (ks:=ks) (kv:=kv) (s0:=s.cxN cxN) hb0 hI0 hl hz (hk.same rfl rfl) hkF rfl (λn' tm' td' s1 ws' hn' hT' g0 x1 hI1 hwl hws hF=> ?_) k.ws.length 0 _ _ _ _ k.ws J J rfl (Ext.refl _) hI0 rfl (λt h h'=>⟨λh=>J,λ_=>rfl⟩) (λf hf x hx=> .inl (.inr (.inr ⟨f,hf,hx⟩))) (an h0) (an h1) Y
 have c6: ∀{o:Nat} y,In R (0+o) 1 y->o<6->RkG R k y:=λy h ho=> .inl (In6 ⟨by have:=h.1;omega,by have:=h.2;omega⟩)
 refine Amt_.u ?_ hT'
 simp only[Sc_,RR,SS,g0,Ab E9 al]
 refine aI BB rfl hI1.r5 λs2 n2 x2 o2=> ?_
 have y2:=x1.on x2 hb0 λy _ h=>c6 y h al
 have hI2:=hI1.own (room:=k.room) (N:=k.N) (fused:=k.fused) (left:=k.left) (out:=false) x2 (λy _ h=>⟨by have:=h.1;omega,by have:=h.2;omega⟩) (hI1.r1.ext x2 (cR al)) (hI1.r2.ext x2 (cR al)) (hI1.r3.ext x2 (cR al)) (hI1.r4.ext x2 (cR al)) o2
 refine Tr_.u ?_
 simp only[Hl_,RR,SS,g0,Ab Im al]
 refine aI BB rfl hI2.r3 λs3 n3 x3 o3=> ?_
 have y3:=y2.on x3 hb0 λy _ h=>c6 y h al
 have hI3:=hI2.own (room:=k.room) (N:=k.N) (fused:=false) (left:=k.left) (out:=false) x3 (λy _ h=>⟨by have:=h.1;omega,by have:=h.2;omega⟩) (hI2.r1.ext x3 (cR al)) (hI2.r2.ext x3 (cR al)) o3 (hI2.r4.ext x3 (cR al)) (hI2.r5.ext x3 (cR al))
 refine Wh_.u ?_
 simp only[QI_,RR,SS,g0,Ab Jt al]
 refine aI Bv rfl hI3.r4 λs4 n4 x4 o4=> ?_
 have y4:=y3.on x4 hb0 λy _ h=>c6 y h al
 have hI4:=hI3.own (room:=k.room) (N:=k.N) (fused:=false) (left:=0) (out:=false) x4 (λy _ h=>⟨by have:=h.1;omega,by have:=h.2;omega⟩) (hI3.r1.ext x4 (cR al)) (hI3.r2.ext x4 (cR al)) (hI3.r3.ext x4 (cR al)) o4 (hI3.r5.ext x4 (cR al))
 refine Arv_.u ?_
 simp only[V2,RR,SS]
 refine aB (rs:=[4]) (vs:=[.int .i64 0]) rfl (.inl Afr_) J GN_ AeP_ y4.cx Y ?_
 refine q _ ws' ⟨hI4.same rfl rfl,y4.cx',λx hx=> ?_⟩ hwl hws
 rcases hx with h|h|⟨f,hf,h⟩
 ·exact .inl (.inl h)
 ·have h':MkF 3 ws'.length k.b x:=h
  rw[hwl]at h'
  exact .inl (.inr (.inl h'))
 ·exact hF f hf x h
end
theorem Xc_ (n:Nat)(a b:ByteArray):Instr.sameBits n (.string a) (.string b)=(a==b):=by
 cases n<;>rfl
section
variable {E:Env}{s:St}{t kt et l m:Nat}{a:ByteArray}{es:List MapEntry}{ns:List ByteArray}
theorem W.mapUpS1 {j:Nat}{e:MapEntry}{x:Value}{Q:Value->St->Prop}(hT: ∀s,mapT E t s= .some (kt,et) s)(hk:E.P.underlying kt=some .string)(he:es.map (·.key)=ns.map Value.string)(hj:(ns.findIdx? λx=>a==x)=some j)(hej:es[j]?=some e)(hb:Instr.sameBits 10000 e.key (.string a)=true)(ho:Obj s l (.map es m))
  (q: ∀s1,s1.next=s.next->Ext Any (λy=>y=l) s s1->Obj s1 l (.map (es.set j ⟨.string a,x,e.born⟩) m)->Q undef s1):W (Eb E t (.map (some l)) (.string a) x) s Q:=by
 refine W.bind ⟨_,_,hT s, ?_⟩
 show W (M.bind (mapAt l) λp=>M.bind (putE E kt (.string a) x l p) λ_=>M.pure undef) s Q
 refine W.bind (W.bind (W.rdC ho.2 ho.1 (W.pure ?_)))
 refine W.bind ?_
 show W (putE E kt (.string a) x l (es,m)) (s.rdN l) _
 unfold putE
 refine W.bind ⟨_,_,Iw hk he _, ?_⟩
 rw[hj]
 have hl:l<(s.rdN l).next:=ho.1
 exact W.on hej (W.chk hb (W.wrC hl (W.pure (q _ rfl (Ext.wrO l _) (Obj.wrO ho)))))
end
theorem Me_ {f:MapEntry}: ∀{es:List MapEntry} {lo n j:Nat} (hj:j<es.length),AT es lo n=true->f.born=es[j].born->AT (es.set j f) lo n=true
 |[],_,_,_,hj,_,_=>by cases hj
 |x::es,lo,n,0,hj,h,e=>by
  have e':f.born=x.born:=e
  unfold AT at h
  show(Nat.ble lo f.born&&Nat.blt f.born n&&AT es (f.born+1) n)=true
  rw[e']
  exact h
 |x::es,lo,n,j+1,hj,h,e=>by
  unfold AT at h
  rw[Bool.and_eq_true]at h
  show(Nat.ble lo x.born&&Nat.blt x.born n&&AT (es.set j f) (x.born+1) n)=true
  rw[h.1,Me_ (by simpa using hj) h.2 e]
  rfl
def GD (fs:List FileS)(j:Nat)(hj:j<fs.length)(a:ByteArray)(fs':List FileS):Prop:=
 (An (fs.eraseIdx j) a=none/\ ∃b,fs'=fs.eraseIdx j++[fs[j].as a b])\/ ∃t,An (fs.eraseIdx j) a=some t/\ ∃b,fs'=(fs.eraseIdx j).set t (fs[j].as a b)
theorem UW_:Wm=[]:=X
section
variable {n D M C K j:Nat}{s:St}{k:DkS}{col:Nat->Nat}{a b:ByteArray}{Q:Value->St->Prop}
theorem AqO_ (hb:s.lim<=s.next)(hI:DkI s col D M k)(hlen:k.fs.length<=290)(hf:An k.fs a=some j)(hj:j<k.fs.length)(hC:Own s C 0 (.pointer (some ⟨D,0,none⟩)))(hC2:Own s (C+2) 0 (.string a))(hC4:Own s (C+4) 0 (.string b))(hK:Own s K 0 (.pointer (some ⟨k.fs[j].blk,0,none⟩)))
  (kC: ∀x,C<=x->x<C+6->1000<=col x) (kK:1000<=col K) (hn:20<=n)
  (q: ∀s1 col' fs' mx',GD k.fs j hj b fs'->DkI s1 col' D M {k with fs:=fs',mx:=mx'}->(∀x,1000<=col x->col' x=col x)->Ext Any (λx=>col x<1000) s s1->Q (.tuple #[]) s1):
  W (Ac envS (runF envS n) 54 [.pointer (some ⟨C,0,none⟩), .pointer (some ⟨C+2,0,none⟩), .pointer (some ⟨K,0,none⟩), .pointer (some ⟨C+4,0,none⟩)]) s Q:=by
 have hb0:(s.cxN cxN).lim<=(s.cxN cxN).next:=hb
 have hI0:DkI (s.cxN cxN) col D M k:=hI.same rfl rfl
 have hC0:Own (s.cxN cxN) C 0 (.pointer (some ⟨D,0,none⟩)):=hC.same rfl rfl
 have hC20:Own (s.cxN cxN) (C+2) 0 (.string a):=hC2.same rfl rfl
 have hC40:Own (s.cxN cxN) (C+4) 0 (.string b):=hC4.same rfl rfl
 have hK0:Own (s.cxN cxN) K 0 (.pointer (some ⟨k.fs[j].blk,0,none⟩)):=hK.same rfl rfl
 have hcx:(s.cxN cxN).cx=cxN:=rfl
 have kM: ∀o,o<6->C+o≠M:=λo ho e=>by
  have h1:=kC (C+o) J J
  have h2:=hI.km
  rw[e]at h1
  omega
 have kMK:K≠M:=λe=>by
  have h2:=hI.km
  rw[e]at kK
  omega
 refine TW_ λtm t0 t1 t2 t3=> ?_
 refine Adm_.u ?_
 generalize hs0:s.cxN cxN=s0 at *
 simp only[Du_,RR,t0,t1,Aa]
 refine aD Ci ((hC0.same (s':=dSt s0.mem s0.next) rfl rfl).at') λrd0 hr0=> ?_
 try simp only[Aa]
 rw[W_dq λs Q=>AD (s:=s) _ Q]
 dsimp only
 try simp only[Aa]
 rw[W_dq λs Q=>Ab (s:=s) B4 al Q]
 dsimp only
 try simp only[Aa]
 refine aD B7 ((hI0.d1.same (s':=dSt s0.mem s0.next) rfl rfl).at') λrd3 hr3=> ?_
 refine aD AQ ((hC20.same (s':=dSt s0.mem s0.next) rfl rfl).at') λrd4 hr4=> ?_
 rw[AI]
 refine⟨BZ am am, ?_⟩
 refine aK (Aha_ _ _ _ _ _ _ _ _ _ _) ?_
 simp only[SS,OP_]
 generalize hs':(⟨(dSt s0.mem s0.next).mem,(dSt s0.mem s0.next).next,s0.lim,_,_,s0.cx⟩:St)=s1
 have m1:s1.mem=s0.mem:=by rw[<-hs'];rfl
 have n1:s1.next=s0.next:=by rw[<-hs'];rfl
 have x1:Ext Any Non s0 s1:=by
  rw[<-hs']
  exact Ext.draw (F:=Any) (Nat.le_refl _) (λ_ _=>rfl) am λ_ _ _ _ _=>trivial
 have hI1:=hI0.same m1 n1
 refine W.delS (j:=j) (a:=a) FK Fw (FC k.fs) hf hI1.om λs2 n2 x2 o2=> ?_
 rw[<-Eu]at o2
 have hd1:D+1≠M:=λe=>by
  have h1:=hI.kd (D+1) J J
  have h2:=hI.km
  rw[e]at h1
  omega
 have p1:Own s2 D 1 (.map (some M)):=hI1.d1.ext x2 hd1
 have c0:Own s2 C 0 _:=(hC0.same m1 n1).ext x2 (kM 0 al)
 have c4:Own s2 (C+4) 0 _:=(hC40.same m1 n1).ext x2 (kM 4 al)
 have cK:Own s2 K 0 _:=(hK0.same m1 n1).ext x2 kMK
 have y2:Ext Any (λy=>y=M) s0 s2:=(x1.gw (hs0 ▸ hb0) λ_ _ h=>h.elim).on x2 (hs0 ▸ hb0) λy _ h=>h
 refine AgT_.u ?_
 simp only[CC_,RR,t0,t2,t3,Aa]
 refine aD Ci ((c0.same (s':=dSt s2.mem s2.next) rfl rfl).at') λre0 hr0=> ?_
 try simp only[Aa]
 rw[W_dq λs Q=>AD (s:=s) _ Q]
 dsimp only
 try simp only[Aa]
 rw[W_dq λs Q=>Ab (s:=s) B4 al Q]
 dsimp only
 try simp only[Aa]
 refine aD B7 ((p1.same (s':=dSt s2.mem s2.next) rfl rfl).at') λre3 hr3=> ?_
 refine aD AQ ((c4.same (s':=dSt s2.mem s2.next) rfl rfl).at') λre4 hr4=> ?_
 refine aD Ca ((cK.same (s':=dSt s2.mem s2.next) rfl rfl).at') λre5 hr5=> ?_
 rw[AI]
 refine⟨BZ am am, ?_⟩
 refine aK (Arr_ _ _ _ _ _ _ _ _ _ _ _) ?_
 simp only[SS]
 generalize hs3:(⟨(dSt s2.mem s2.next).mem,(dSt s2.mem s2.next).next,s2.lim,_,_,s2.cx⟩:St)=s3
 have m3:s3.mem=s2.mem:=by rw[<-hs3];rfl
 have n3:s3.next=s2.next:=by rw[<-hs3];rfl
 have x3:Ext Any Non s2 s3:=by
  rw[<-hs3]
  exact Ext.draw (F:=Any) (Nat.le_refl _) (λ_ _=>rfl) am λ_ _ _ _ _=>trivial
 have y3:=y2.on x3 (hs0 ▸ hb0) λ_ _ h=>h.elim
 have o3:=o2.same m3 n3
 have kMlo: ∀y,y=M->col y<1000:=λy h=>by rw[h,hI.km];decide
 have fin: ∀(n':Nat) (tm':T Value) (td:List Item) s4 fs' mx',2<=n'->skim 64 td=Wm->Ext Any (λy=>y=M) s3 s4->GD k.fs j hj b fs'->(∃t,DkI s4 (recJ j t col) D M {k with fs:=fs',mx:=mx'})->W (runF envS n' ⟨54,Zq_,Ho,tm',td, .run, .normal,none⟩) s4 λp s1=>Q p.1 (s1.cxN s.cx):=by
  intro n' tm' td s4 fs' mx' hn' hT x4 hr ⟨t,hI4⟩
  have y4:Ext Any (λx=>col x<1000) s0 s4:=(y3.on x4 (hs0 ▸ hb0) λ_ _ h=>h).gw (hs0 ▸ hb0) λy _ h=>kMlo y h
  refine aB (rs:=[]) (vs:=[]) hT (.inr UW_) J LV_ ApK_ (y4.cx.trans hcx) rfl ?_
  rw[<-hs0]at y4
  exact q _ (recJ j t col) fs' mx' hr (hI4.same rfl rfl) (λx hx=>Jh_ hx) y4.cx'
 have hl:(k.fs.eraseIdx j).length=k.fs.length-1:=List.length_eraseIdx_of_lt hj
 have hbe:AT ((k.fs.eraseIdx j).map FileS.ent) 0 k.mx=true:=by
  rw[Eu]
  exact RD j hI1.bo
 cases hlk:An (k.fs.eraseIdx j) b with
 |none=>
  refine W.mapUpS0 (a:=b) FK Fw (FC (k.fs.eraseIdx j)) hlk o3 λs4 n4 x4 o4=> ?_
  have z4:Ext Any (λy=>y=M) s0 s4:=y3.on x4 (hs0 ▸ hb0) λ_ _ h=>h
  have oM:Obj s4 M (.map ((k.fs.eraseIdx j++[k.fs[j].as b k.mx]).map FileS.ent) (k.mx+1)):=by
   rw[List.map_append]
   exact o4
  have hI4:=hI0.move (j:=j) (t:=k.fs.length-1) (fs':=k.fs.eraseIdx j++[k.fs[j].as b k.mx]) (mx':=k.mx+1) J z4 oM (by
   rw[List.map_append]
   exact Py hbe (Nat.zero_le _) rfl) λi' hi'=>by
    rw[List.length_append,hl]at hi'
    have hi'':i'<k.fs.length-1+1:=hi'
    by_cases c:i'<k.fs.length-1
    ·obtain⟨i,hi,h1,h2⟩:=NU (t:=k.fs.length-1) hj (show i'<(k.fs.eraseIdx j).length by omega)
     refine⟨i,hi,h1,k.fs[i].name,k.fs[i].born, ?_⟩
     rw[List.getElem_append_left J,h2]
     rfl
    ·have e:i'=k.fs.length-1:=J
     subst e
     refine⟨j,hj,by unfold mvJ;rw[if_neg J,if_pos rfl],b,k.mx, ?_⟩
     rw[List.getElem_append_right J]
     simp[hl]
  exact fin _ _ _ s4 _ _ J rfl x4 (.inl ⟨hlk,k.mx,rfl⟩) ⟨_,hI4⟩
 |some t=>
  have hlt:=Dh hlk
  obtain⟨_,hnm⟩:=HD hlk
  refine W.mapUpS1 (a:=b) (j:=t) (e:=(k.fs.eraseIdx j)[t].ent) FK Fw (FC (k.fs.eraseIdx j)) hlk (by rw[List.getElem?_map,List.getElem?_eq_getElem hlt];rfl) (by
   show Instr.sameBits 10000 (.string (k.fs.eraseIdx j)[t].name) (.string b)=true
   rw[Xc_,hnm,HW]) o3 λs4 n4 x4 o4=> ?_
  have z4:Ext Any (λy=>y=M) s0 s4:=y3.on x4 (hs0 ▸ hb0) λ_ _ h=>h
  have oM:Obj s4 M (.map (((k.fs.eraseIdx j).set t (k.fs[j].as b (k.fs.eraseIdx j)[t].born)).map FileS.ent) k.mx):=by
   rw[List.map_set]
   exact o4
  have hI4:=hI0.move (j:=j) (t:=t) (fs':=(k.fs.eraseIdx j).set t (k.fs[j].as b (k.fs.eraseIdx j)[t].born)) (mx':=k.mx) J z4 oM (by
   rw[List.map_set]
   refine Me_ (by simpa using hlt) hbe ?_
   rw[List.getElem_map]
   rfl) λi' hi'=>by
    rw[List.length_set]at hi'
    by_cases c:i'=t
    ·subst c
     exact⟨j,hj,by unfold mvJ;rw[if_neg J,if_pos rfl],b,(k.fs.eraseIdx j)[i'].born,by rw[List.getElem_set_self]⟩
    ·obtain⟨i,hi,h1,h2⟩:=NU (t:=t) hj hi'
     refine⟨i,hi,h1,k.fs[i].name,k.fs[i].born, ?_⟩
     rw[List.getElem_set_ne J,h2]
     rfl
  exact fin _ _ _ s4 _ _ J rfl x4 (.inr ⟨t,hlk,_,rfl⟩) ⟨_,hI4⟩
theorem ApV_ (hb:s.lim<=s.next)(hI:DkI s col D M k)(hlen:k.fs.length<=290)(hn:10*b.size+900<=n)
  (q1:k.out=true-> ∀s1 col',Aft s s1 col col' D M k->Q (.int .i64 10) s1)
  (q2:k.out=false->AC b=false-> ∀s1 col',Aft s s1 col col' D M k->Q (.int .i64 2) s1)
  (q3:k.out=false->AC b=true->An k.fs a=none-> ∀s1 col',Aft s s1 col col' D M k->Q (.int .i64 6) s1)
  (q4:k.out=false->AC b=true-> ∀j (hj:j<k.fs.length),An k.fs a=some j->0<k.fs[j].lb.length-> ∀s1 col',Aft s s1 col col' D M k->Q (.int .i64 9) s1)
  (q5:k.out=false->AC b=true-> ∀j (hj:j<k.fs.length),An k.fs a=some j->k.fs[j].lb.length=0->(k.fused=true/\k.left=0)-> ∀s1 col',Aft s s1 col col' D M {k with out:=true}->Q (.int .i64 10) s1)
  (q6:k.out=false->AC b=true-> ∀j (hj:j<k.fs.length),An k.fs a=some j->k.fs[j].lb.length=0-> ¬(k.fused=true/\k.left=0)-> ∀s1 col' fs' mx',GD k.fs j hj b fs'->Aft s s1 col col' D M {k with fs:=fs',mx:=mx',steps:=wrap64 (k.steps+1),left:=if k.fused then wrap64 (k.left-1)else k.left}->Q (.int .i64 0) s1):
  W (Ac envS (runF envS n) 23 [.pointer (some ⟨D,0,none⟩), .string a, .string b]) s Q:=by
 have hlen9:=hlen
 have hlen:k.fs.length<=300:=J
 have hb0:(s.cxN cxN).lim<=(s.cxN cxN).next:=hb
 have hI0:DkI (s.cxN cxN) (paint col s.next 1000) D M k:=(hI.col λx hx=>AX hx).same rfl rfl
 have hag: ∀x,x<s.next->paint col s.next 1000 x=col x:=λx hx=>AX hx
 have hnew: ∀x,s.next<=x->paint col s.next 1000 x=1000:=λx hx=>C2 hx
 have hDlt:D+6<s.next:=hI.d6.1
 generalize hcol1:paint col s.next 1000=col1 at *
 refine Aox_ λtm t0 t1 t2=> ?_
 refine Ta_.u ?_
 simp only[TU,RR,SS,Nat.reduceEqDiff, ↓reduceIte,t0]
 refine W.box λsa na xa oa=> ?_
 have ea:(s.cxN cxN).next=s.next:=rfl
 rw[CK (show oneCell (.pointer (some ⟨D,0,none⟩))=true from rfl)]at na oa
 rw[ea]at oa na ⊢
 have na':sa.next=s.next+2:=na
 simp only[SS,t1]
 refine W.box λsb nb xb ob=> ?_
 rw[CK (show oneCell (.string a)=true from rfl)]at nb ob
 rw[na']at ob nb ⊢
 have nb':sb.next=s.next+4:=nb
 simp only[SS,t2]
 refine W.box λsc nc xc oc=> ?_
 rw[CK (show oneCell (.string b)=true from rfl)]at nc oc
 rw[nb']at oc nc ⊢
 have nc':sc.next=s.next+6:=nc
 have yc:=(((Ext.refl (F:=Any) (G:=Non) (s.cxN cxN)).on xa hb0 λ_ _ h=>h).on xb hb0 λ_ _ h=>h).on xc hb0 λ_ _ h=>h
 have c0:Own sc s.next 0 (.pointer (some ⟨D,0,none⟩)):=((oa 0 _ rfl).ext0 xb).ext0 xc
 have c2:Own sc (s.next+2) 0 (.string a):=(ob 0 _ rfl).ext0 xc
 have c4:Own sc (s.next+4) 0 (.string b):=oc 0 _ rfl
 have hIc:DkI sc col1 D M k:=hI0.ext0 yc hlen
 refine Amq_.u ?_
 simp only[Oo_,RR,SS,Nat.reduceEqDiff, ↓reduceIte]
 refine aA Ci c0.at' ?_
 have yd:=yc.thenRd hb0 (s.next+0)
 refine I2 (o:=k.out) (yd.bnd hb0) (hIc.d0.same rfl rfl) (hIc.d6.same rfl rfl) J λs1 m1 n1 x1=> ?_
 have y1:=yd.on x1 hb0 λ_ _ h=>h
 have m1':s1.mem=sc.mem:=m1
 have n1':s1.next=s.next+6:=by have:s1.next=sc.next:=n1;omega
 have hI1:DkI s1 col1 D M k:=hIc.same m1' J
 have d0:=c0.same m1' (show s1.next=sc.next by omega)
 have d2:=c2.same m1' (show s1.next=sc.next by omega)
 have d4:=c4.same m1' (show s1.next=sc.next by omega)
 refine Aje_.u ?_
 cases ho:k.out with
 |true=>
  simp only[Rj,RR,SS, ↓reduceIte,Cr]
  refine aJ Fx_ ?_
  refine Akm_.u ?_
  simp only[UQ,RR,SS,Nat.reduceEqDiff, ↓reduceIte]
  refine aB (rs:=[6]) (vs:=[.int .i64 10]) rfl (.inl Agx_) J Gn GW y1.cx Y ?_
  exact q1 ho _ col1 ⟨hI1.same rfl rfl,λx hx _=>hag x hx,(y1.gw hb0 λ_ _ h=>h.elim).cx'⟩
 |false=>
  simp only[Rj,RR,SS,reduceCtorEq, ↓reduceIte,Cr]
  refine aG Fx_ ?_
  refine Aqr_.u ?_
  simp only[FQ_,RR,T.get_set,Nat.reduceEqDiff,reduceIte,Aa]
  refine aD Ci ((d0.same (s':=dSt s1.mem s1.next) rfl rfl).at') λrd0 hr0=> ?_
  try simp only[Aa]
  rw[W_dq λs Q=>AD (s:=s) _ Q]
  dsimp only
  try simp only[Aa]
  rw[W_dq λs Q=>Ab (s:=s) B4 al Q]
  dsimp only
  try simp only[Aa]
  refine aD B7 ((hI1.d1.same (s':=dSt s1.mem s1.next) rfl rfl).at') λrd3 hr3=> ?_
  refine aD AQ ((d2.same (s':=dSt s1.mem s1.next) rfl rfl).at') λrd4 hr4=> ?_
  try simp only[Aa]
  refine aO (DE (s:=oSt s1.mem s1.next) (fs:=k.fs) (mx:=k.mx) (hI1.om.same rfl rfl) ⟨Any,Ext.rdN (F:=Any) (G:=Non) _ M λ_=>trivial,λrd5 hr5=> ?_⟩)
  show W _ (dSt s1.mem s1.next) _
  refine aO (W.alloc (s:=oSt s1.mem s1.next) Sm λs2 n2 x2 o2=>⟨Non,x2,λrd6 hr6=> ?_⟩)
  obtain rfl:=CU (λx hx=>(hr6 x hx).2)
  have n2':s2.next=s.next+8:=by
   have:s2.next=s1.next+2:=n2
   omega
  simp only[E8,AI]
  refine⟨CP ?_, ?_⟩
  ·simp only[List.reverse_cons,List.reverse_nil,List.nil_append,List.cons_append,allP,BS,List.take,Cu]
   have lts: ∀x,s1.next<=x-> ¬x<s1.next:=λx h=>J
   have e5: ∀x,x∈rd5->s1.next<=x->False:=λx h1 h2=>by have:=(hr5 x h1).1;omega
   simp+contextual [lts]
  ·refine aK (VJ_ _ _ _ _ _ _ _ _ _ _ _ _) ?_
   simp only[SS]
   generalize hs':(⟨(dSt s2.mem s2.next).mem,(dSt s2.mem s2.next).next,s1.lim,_,_,s1.cx⟩:St)=s3
   have m3:s3.mem=s2.mem:=by rw[<-hs'];rfl
   have n3:s3.next=s2.next:=by rw[<-hs'];rfl
   have x3:Ext Any Non s1 s3:=by
    rw[<-hs']
    exact Ext.draw (F:=Any) (by show s1.next<=s2.next;omega) (λx hx=>x2.mem x hx λh=>h) am λ_ _ _ _ _=>trivial
   have y3:=y1.on x3 hb0 λ_ _ h=>h.elim
   have hlv:oneCell (AG k.fs a)=true:=by
    unfold AG
    cases An k.fs a with
    |none=>rfl
    |some j=>simp only;cases k.fs[j]?<;>rfl
   have oK3:Own s3 s1.next 0 (.pointer none):=(o2 0 _ rfl).same m3 n3
   rw[show(oSt s1.mem s1.next).next=s.next+6 from n1'] 
   rw[n1']at oK3
   refine aI Ca hlv oK3 λs4 n4 x4 o4=> ?_
   have x4':Ext Any (λy=>y=s.next+6) s3 s4:=x4.weak (y3.bnd hb0) (λ_ _ _=>trivial) λy _ hq=>by have h1:=hq.1;have h2:=hq.2;omega
   have y4:Ext Any Non (s.cxN cxN) s4:=y3.on x4' hb0 λy hy h=>by have:y<s.next:=hy;omega
   have hI4:DkI s4 col1 D M k:=(hI1.ext0 x3 hlen).ext x4' hlen λy _ h=>by rw[hnew y J];exact Nat.le_refl _
   have keep: ∀o u,o<6->Own s1 (s.next+o) 0 u->Own s4 (s.next+o) 0 u:=λo u ho hu=>(hu.ext0 x3).ext x4' λh=>J
   have e0:=keep 0 _ al d0
   have e2:=keep 2 _ al d2
   have e4:=keep 4 _ al d4
   have n4':s4.next=s.next+8:=J
   refine Afa_.u ?_
   simp only[EB_,RR,SS,Nat.reduceEqDiff, ↓reduceIte]
   refine aA AQ e4.at' ?_
   have y5:=y4.thenRd hb0 (s.next+4+0)
   refine Nt_ (y5.bnd hb0) J λs6 x6=> ?_
   have y6:=y5.on x6 hb0 λ_ _ h=>h
   have x46:Ext Any Non s4 s6:=((Ext.refl (F:=Any) (G:=Non) s4).thenRd (y4.bnd hb0) _).on x6 (y4.bnd hb0) λ_ _ h=>h
   have hI6:=hI4.ext0 x46 hlen
   have f0:=e0.ext0 x46
   have f2:=e2.ext0 x46
   have f4:=e4.ext0 x46
   have fK:=o4.ext0 x46
   simp only[A5]
   cases hnb:AC b with
   |false=>
    refine aJ BU_ ?_
    refine AkK_.u ?_
    simp only[AF_,RR,SS]
    refine aB (rs:=[6]) (vs:=[.int .i64 2]) rfl (.inl SN) J Gn GW y6.cx Y ?_
    exact q2 ho hnb _ col1 ⟨hI6.same rfl rfl,λx hx _=>hag x hx,(y6.gw hb0 λ_ _ h=>h.elim).cx'⟩
   |true=>
   refine aG BU_ ?_
   refine AcA_.u ?_
   simp only[RA_,RR,SS,Nat.reduceEqDiff, ↓reduceIte]
   refine aA Ca fK.at' ?_
   have y7:=y6.thenRd hb0 (s.next+6+0)
   cases hj:An k.fs a with
   |none=>
    have hv:AG k.fs a= .pointer none:=by unfold AG;rw[hj]
    rw[hv]
    simp only[Fb]
    refine aJ Cp_ ?_
    refine Agp_.u ?_
    simp only[Lu_,RR,SS]
    refine aB (rs:=[6]) (vs:=[.int .i64 6]) Ang_ (.inl SN) J Gn GW y7.cx Y ?_
    exact q3 ho hnb hj _ col1 ⟨hI6.same rfl rfl,λx hx _=>hag x hx,(y7.gw hb0 λ_ _ h=>h.elim).cx'⟩
   |some j=>
    have hlt:=Dh hj
    have hv:AG k.fs a= .pointer (some ⟨k.fs[j].blk,0,none⟩):=by
     unfold AG
     rw[hj]
     simp only[List.getElem?_eq_getElem hlt]
    have g:=hI6.fl j hlt
    rw[hv]at fK
    rw[hv]
    simp only[C5 ED]
    refine aG Cp_ ?_
    refine Acu_.u ?_
    simp only[JS_,RR,SS,Nat.reduceEqDiff, ↓reduceIte]
    refine aA Ca (fK.same (s':=s6.rdN (s.next+6+0)) rfl rfl).at' ?_
    have y8:=y7.thenRd hb0 (s.next+6+0)
    simp only[AD,Ab CS al]
    refine aA A2 (g.o1.same rfl rfl).at' ?_
    have y9:=y8.thenRd hb0 (k.fs[j].blk+(0+1))
    have hI9:DkI (((s6.rdN (s.next+6+0)).rdN (s.next+6+0)).rdN (k.fs[j].blk+(0+1))) col1 D M k:=hI6.same rfl rfl
    have u0:=f0.same (s':=((s6.rdN (s.next+6+0)).rdN (s.next+6+0)).rdN (k.fs[j].blk+(0+1))) rfl rfl
    have u2:=f2.same (s':=((s6.rdN (s.next+6+0)).rdN (s.next+6+0)).rdN (k.fs[j].blk+(0+1))) rfl rfl
    have u4:=f4.same (s':=((s6.rdN (s.next+6+0)).rdN (s.next+6+0)).rdN (k.fs[j].blk+(0+1))) rfl rfl
    have uK:=fK.same (s':=((s6.rdN (s.next+6+0)).rdN (s.next+6+0)).rdN (k.fs[j].blk+(0+1))) rfl rfl
    generalize ((s6.rdN (s.next+6+0)).rdN (s.next+6+0)).rdN (k.fs[j].blk+(0+1))=s8 at *
    simp only[Ck,MkS.lenq g.ml BH]
    by_cases hlo:0<k.fs[j].lb.length
    ·have ed:decide ((0:Int)<((k.fs[j].lb.length:Nat):Int))=true:=decide_eq_true J
     simp only[ed]
     refine aJ Zg ?_
     refine Agy_.u ?_
     simp only[No_,RR,SS]
     refine aB (rs:=[6]) (vs:=[.int .i64 9]) Ty_ (.inl SN) J Gn GW y9.cx Y ?_
     exact q4 ho hnb j hlt hj hlo _ col1 ⟨hI9.same rfl rfl,λx hx _=>hag x hx,(y9.gw hb0 λ_ _ h=>h.elim).cx'⟩
    ·have ed:decide ((0:Int)<((k.fs[j].lb.length:Nat):Int))=false:=decide_eq_false J
     have hlo:k.fs[j].lb.length=0:=J
     simp only[ed]
     refine aG Zg ?_
     refine Aof_.u ?_
     simp only[Zi,RR,SS,Nat.reduceEqDiff, ↓reduceIte]
     refine aA Ci u0.at' ?_
     have y10:=y9.thenRd hb0 (s.next+0)
     have hI8:DkI (s8.rdN (s.next+0)) col1 D M k:=hI9.same rfl rfl
     have w0:=u0.same (s':=s8.rdN (s.next+0)) rfl rfl
     have w2:=u2.same (s':=s8.rdN (s.next+0)) rfl rfl
     have w4:=u4.same (s':=s8.rdN (s.next+0)) rfl rfl
     have wK:=uK.same (s':=s8.rdN (s.next+0)) rfl rfl
     generalize s8.rdN (s.next+0)=t8 at *
     have hD0:=hI8.kd
     refine KQ (f2:=54) (y10.bnd hb0) hI8.d3 hI8.d4 hI8.d5 hI8.d6 J (λhf s9 n9 x9 o9=> ?_) λhf n9 s9 hn9 hcx9 hnx9 x9 o93 o95=> ?_
     ·have y11:Ext Any (λx=>col1 x<1000) (s.cxN cxN) s9:=(y10.gw hb0 λ_ _ h=>h.elim).on x9 hb0 λy _ h=>by rw[h,hD0 (D+6) J J];decide
      refine aB (rs:=[6]) (vs:=[.int .i64 10]) rfl (.inl Pm_) J Gn GW y11.cx Y ?_
      have hd:Ext Any (λy=>y=D+6) t8 s9:=x9
      have hI10:=hI8.own (st:=k.steps) (fu:=k.fused) (le:=k.left) (ou:=true) hd (λy _ h=>J) (hI8.d3.ext hd λh=>J) (hI8.d4.ext hd λh=>J) (hI8.d5.ext hd λh=>J) o9
      exact q5 ho hnb j hlt hj hlo hf _ col1 ⟨hI10.same rfl rfl,λx hx _=>hag x hx,(y11.gw hb0 λy hy h=>by rw[<-hag y hy];exact h).cx'⟩
     ·have hd:Ext Any (λy=>y=D+3\/y=D+5) t8 (s9.cxN t8.cx):=x9
      have hI9':=hI8.own (st:=wrap64 (k.steps+1)) (fu:=k.fused) (le:=if k.fused then wrap64 (k.left-1)else k.left) (ou:=k.out) hd (λy _ h=>J) (o93.same rfl rfl) (hI8.d4.ext hd λh=>J) (o95.same rfl rfl) (hI8.d6.ext hd λh=>J)
      have hI10:=hI9'.same (s':=s9) rfl rfl
      have v0:=(w0.ext hd λh=>J).same (s':=s9) rfl rfl
      have v2:=(w2.ext hd λh=>J).same (s':=s9) rfl rfl
      have v4:=(w4.ext hd λh=>J).same (s':=s9) rfl rfl
      have vK:=(wK.ext hd λh=>J).same (s':=s9) rfl rfl
      have y11:Ext Any (λx=>col1 x<1000) (s.cxN cxN) (s9.cxN t8.cx):=(y10.gw hb0 λ_ _ h=>h.elim).on hd hb0 λy _ h=>by rw[hD0 y J J];decide
      have y11':Ext Any (λx=>col1 x<1000) (s.cxN cxN) s9:=⟨y11.nxt,y11.lim,hcx9,y11.mem,y11.rd,y11.wr⟩
      show W (Ac envS (runF envS n9) 54 [.pointer (some ⟨s.next,0,none⟩), .pointer (some ⟨s.next+2,0,none⟩), .pointer (some ⟨s.next+6,0,none⟩), .pointer (some ⟨s.next+4,0,none⟩)]) s9 _
      refine AqO_ (C:=s.next) (K:=s.next+6) (y11'.bnd hb0) hI10 hlen9 hj hlt v0 v2 v4 vK (λx h1 h2=>by rw[hnew x h1];exact Nat.le_refl _) (by rw[hnew _ J];exact Nat.le_refl _) J λs10 col' fs' mx' hr hI11 hag10 x10=> ?_
      refine⟨x10.cx.trans hcx9, ?_⟩
      have y12:=y11'.on x10 hb0 λy hy h=>h
      have e8:t8.cx=cxN:=y10.cx
      rw[e8]
      refine aB (rs:=[6]) (vs:=[.int .i64 0]) rfl (.inl Pm_) J Gn GW rfl Y ?_
      exact q6 ho hnb j hlt hj hlo hf _ col' fs' mx' hr ⟨hI11.same rfl rfl,λx hx hc=>(hag10 x (by rw[hag x hx];exact hc)).trans (hag x hx),(y12.gw hb0 λy hy h=>by rw[<-hag y hy];exact h).cx'⟩
end
theorem Abs_ {wl:List RF}{a:ByteArray}(h:atW wl a=none): ∀f∈wl,(f.name==a)=false:=λf hf=>by
 unfold atW at h
 have:=List.findIdx?_eq_none_iff.1 h f hf
 simpa using this
theorem Ard_ {l1 l2:List RF}{f:RF}{a:ByteArray}(h: ∀g∈l1,(g.name==a)=false)(hf:(f.name==a)=true):atW (l1++f::l2) a=some l1.length:=by
 unfold atW
 rw[List.findIdx?_append,List.findIdx?_eq_none_iff.2 (λx hx=>by rw[h x hx]),List.findIdx?_cons,hf]
 simp
theorem Akx_ {wl:List RF}{a:ByteArray}{l:List Nat}(h:atW wl a=none):layW (insW wl ⟨a,[],0⟩) a l=insW wl ⟨a,l,0⟩:=by
 have hn:=Abs_ h
 have e1:=Lg wl ⟨a,[],0⟩
 have e2:=Lg wl ⟨a,l,0⟩
 have hat:atW (insW wl ⟨a,[],0⟩) a=some (wl.take (A9 wl a)).length:=by
  rw[e1]
  exact Ard_ (λg hg=>hn g (List.mem_of_mem_take hg)) (HW a)
 have hi:(wl.take (A9 wl a)).length<(insW wl ⟨a,[],0⟩).length:=by
  obtain⟨h,_⟩:=CO hat
  exact h
 rw[LU hat hi]
 have hg:(insW wl ⟨a,[],0⟩)[(wl.take (A9 wl a)).length]=⟨a,[],0⟩:=by
  simp only[e1]
  rw[List.getElem_append_right (Nat.le_refl _)]
  simp
 rw[hg,e1,e2]
 show(wl.take (A9 wl a)++⟨a,[],0⟩::wl.drop (A9 wl a)).set (wl.take (A9 wl a)).length ⟨a,[]++l,0⟩=wl.take (A9 wl a)++⟨a,l,0⟩::wl.drop (A9 wl a)
 rw[List.set_append_right _ _ (Nat.le_refl _)]
 simp
section
variable {k:DkS}{wl:List RF}{a:ByteArray}
theorem Rl.app (h:Rl k.fs wl)(blk b:Nat)(v:Value)(l:List Nat):Rl (CV k a blk v b l) (appW wl a l):=by
 rcases h.find a with⟨h1,h2⟩|⟨j,i,hj,hi,h1,h2,h3,h4⟩
 ·have e:CV k a blk v b l=k.fs++[⟨a,k.mx,blk, .slice none 0 0,0,[],v,b,l⟩]:=by unfold CV;rw[h1]
  have e2:appW wl a l=insW wl ⟨a,l,0⟩:=by
   unfold appW
   rw[h2]
   exact Akx_ h2
  rw[e,e2]
  exact h.add (g:=⟨a,k.mx,blk, .slice none 0 0,0,[],v,b,l⟩) h1
 ·have e:CV k a blk v b l=k.fs.set j {k.fs[j]with lv:=v,lbk:=b,lb:=k.fs[j].lb++l}:=by
   unfold CV
   rw[h1]
   simp only[List.getElem?_eq_getElem hj]
  have e2:appW wl a l=wl.set i {wl[i]with b:=wl[i].b++l}:=by
   unfold appW
   rw[h2]
   exact LU h2 hi
  rw[e,e2]
  have:=h.set (g:={k.fs[j]with lv:=v,lbk:=b,lb:=k.fs[j].lb++l}) hj hi h3 rfl
  have e3:prF {k.fs[j]with lv:=v,lbk:=b,lb:=k.fs[j].lb++l}={wl[i]with b:=wl[i].b++l}:=by
   rw[h3]
   unfold prF
   simp only[List.append_assoc]
  rwa [e3]at this
theorem Rl.sync {fs:List FileS}(h:Rl fs wl){i j:Nat}(hj:j<fs.length)(hi:i<wl.length)(e:wl[i]=prF fs[j])(v:Value)(b:Nat):Rl (fs.set j (fs[j].kept v b (fs[j].sb++fs[j].lb))) (wl.set i {wl[i]with safe:=wl[i].b.length}):=by
 have:=h.set (g:=fs[j].kept v b (fs[j].sb++fs[j].lb)) hj hi e rfl
 have e3:prF (fs[j].kept v b (fs[j].sb++fs[j].lb))={wl[i]with safe:=wl[i].b.length}:=by
  rw[e]
  unfold prF FileS.kept
  simp
 rwa [e3]at this
theorem Aay_ {l m:List Nat}{x:Nat}(h:x/8<l.length):BC (l++m) x=l.set (x/8) (l.getD (x/8) 0^^^2^(x%8))++m:=by
 unfold BC
 rw[List.set_append_left _ _ h]
 congr 2
 rw[List.getD_eq_getElem?_getD,List.getD_eq_getElem?_getD,List.getElem?_append_left h]
theorem Alt_ {l m:List Nat}{x i:Nat}(h:x/8=l.length+i):BC (l++m) x=l++m.set i (m.getD i 0^^^2^(x%8)):=by
 unfold BC
 rw[h,List.set_append_right _ _ J]
 have e:l.length+i-l.length=i:=J
 rw[e]
 congr 2
 rw[List.getD_eq_getElem?_getD,List.getD_eq_getElem?_getD,List.getElem?_append_right J,e]
theorem Rl.flipS {fs:List FileS}(h:Rl fs wl){i j m:Nat}(hj:j<fs.length)(hi:i<wl.length)(e:wl[i]=prF fs[j])(hm:m/8<fs[j].sb.length):Rl (fs.set j {fs[j]with sb:=fs[j].sb.set (m/8) (fs[j].sb.getD (m/8) 0^^^2^(m%8))}) (wl.set i {wl[i]with b:=BC wl[i].b m}):=by
 have:=h.set (g:={fs[j]with sb:=fs[j].sb.set (m/8) (fs[j].sb.getD (m/8) 0^^^2^(m%8))}) hj hi e rfl
 have e3:prF {fs[j]with sb:=fs[j].sb.set (m/8) (fs[j].sb.getD (m/8) 0^^^2^(m%8))}={wl[i]with b:=BC wl[i].b m}:=by
  rw[e]
  unfold prF
  simp only[Aay_ hm,List.length_set]
 rwa [e3]at this
theorem Rl.flipL {fs:List FileS}(h:Rl fs wl){i j m t:Nat}(hj:j<fs.length)(hi:i<wl.length)(e:wl[i]=prF fs[j])(hm:m/8=fs[j].sb.length+t):Rl (fs.set j {fs[j]with lb:=fs[j].lb.set t (fs[j].lb.getD t 0^^^2^(m%8))}) (wl.set i {wl[i]with b:=BC wl[i].b m}):=by
 have:=h.set (g:={fs[j]with lb:=fs[j].lb.set t (fs[j].lb.getD t 0^^^2^(m%8))}) hj hi e rfl
 have e3:prF {fs[j]with lb:=fs[j].lb.set t (fs[j].lb.getD t 0^^^2^(m%8))}={wl[i]with b:=BC wl[i].b m}:=by
  rw[e]
  unfold prF
  simp only[Alt_ hm]
 rwa [e3]at this
theorem Rl.ren {fs fs':List FileS}(h:Rl fs wl){i j:Nat}{b:ByteArray}(hj:j<fs.length)(hi:i<wl.length)(e:wl[i]=prF fs[j])(hr:GD fs j hj b fs'):Rl fs' (insW (outW (wl.eraseIdx i) b) {wl[i]with name:=b}):=by
 have h1:=h.erase hj hi e
 have ep: ∀c,prF (fs[j].as b c)={wl[i]with name:=b}:=λc=>by rw[e];rfl
 rcases hr with⟨hl,c,rfl⟩|⟨t,hl,c,rfl⟩
 ·rcases h1.find b with⟨_,h2⟩|⟨_,_,_,_,h2,_⟩
  ·have:=h1.add (g:=fs[j].as b c) hl
   rw[ep]at this
   unfold outW
   rw[h2]
   exact this
  ·rw[hl]at h2
   cases h2
 ·rcases h1.find b with⟨h2,_⟩|⟨t',i',ht,hi',h2,h3,h4,h5⟩
  ·rw[hl]at h2
   cases h2
  ·rw[hl]at h2
   obtain rfl:t=t':=by injection h2
   have h6:=h1.erase ht hi' h4
   have hn:An ((fs.eraseIdx j).eraseIdx t) b=none:=by
    cases hq:An ((fs.eraseIdx j).eraseIdx t) b with
    |none=>rfl
    |some u=>
     obtain⟨hu,hun⟩:=HD hq
     have d:=h1.dist
     have d2:((fs.eraseIdx j).map FileS.name).Nodup:=by
      rw[List.Nodup,List.pairwise_map]at d
      rw[List.Nodup]
      exact d.imp λq hq=>q (by rw[hq])
     have hnm:(((fs.eraseIdx j).eraseIdx t).map FileS.name)=((fs.eraseIdx j).map FileS.name).eraseIdx t:=Eu _ _ _
     have hmem:b∈((fs.eraseIdx j).map FileS.name).eraseIdx t:=by
      rw[<-hnm]
      exact List.mem_map.2 ⟨_,List.getElem_mem hu,hun⟩
     have ht':t<((fs.eraseIdx j).map FileS.name).length:=by simpa using ht
     have hgt:((fs.eraseIdx j).map FileS.name)[t]=b:=by rw[List.getElem_map];exact h5
     have pp:=(Fe (l:=(fs.eraseIdx j).map FileS.name) (i:=t) ht').nodup_iff.1 d2
     rw[hgt]at pp
     exact absurd hmem (List.nodup_cons.1 pp).1
   have h7:=h6.add (g:=fs[j].as b c) hn
   rw[ep]at h7
   unfold outW
   rw[h3]
   refine⟨?_,h7.sort⟩
   refine List.Perm.trans ?_ h7.perm
   refine List.Perm.map prF ?_
   refine(JQ ht _).trans ?_
   exact List.perm_append_comm (l₁:=[fs[j].as b c])
end
theorem DO_ {k:List UInt8}: ∀{l:List (List UInt8)},k∉l->memB k l=false
 |[],_=>rfl
 |x::l,h=>by
  have h1: ¬k=x:=λe=>h (by simp[e])
  have h2:k∉l:=λe=>h (by simp[e])
  show((Cq x k&&Cq k x)||memB k l)=false
  rw[DO_ h2,Bool.or_false]
  cases e:(Cq x k&&Cq k x)with
  |false=>rfl
  |true=>
   rw[Bool.and_eq_true,FU,FU]at e
   exact absurd (OK e.2 e.1) h1
theorem ET_: ∀{l:List (List UInt8)},l.Nodup->Fl l=true
 |[],_=>rfl
 |k::l,h=>by
  obtain⟨h1,h2⟩:=List.nodup_cons.1 h
  show(!memB k l&&Fl l)=true
  rw[DO_ h1,ET_ h2]
  rfl
theorem Sm_ {n:Nat}: ∀{l:List (List UInt8)},(∀k∈l,k.length<=n)->Fc l n=true
 |[],_=>rfl
 |k::l,h=>by
  show(Nat.ble k.length n&&Fc l n)=true
  rw[Nat.ble_eq_true_of_le (h k am),Sm_ λx hx=>h x (by simp[hx])]
  rfl
section
variable {fs:List FileS}{wl:List RF}
theorem Rl.nms (h:Rl fs wl)(hn: ∀f∈wl,f.name.size<=1000000)(hl:wl.length<=300):NmsTo (fs.map FileS.name) (wl.map RF.name):=by
 refine⟨ET_ h.dist,Sm_ λx hx=> ?_,h.sorted,by rw[List.length_map,<-h.len];exact hl,by rw[List.length_map,List.length_map,h.len]⟩
 obtain⟨a,ha,rfl⟩:=List.mem_map.1 hx
 obtain⟨f,hf,rfl⟩:=List.mem_map.1 ha
 have:=hn (prF f) (h.perm.mem_iff.1 (List.mem_map_of_mem hf))
 show f.name.data.toList.length<=1000000
 rw[Array.length_toList]
 exact this
def pW (fs:List FileS)(wl:List RF)(i:Nat):Nat:=match wl[i]? with|some f=>(An fs f.name).getD 0|none=>0
theorem Rl.pw (h:Rl fs wl){i:Nat}(hi:i<wl.length): ∃hj:pW fs wl i<fs.length,An fs wl[i].name=some (pW fs wl i)/\wl[i]=prF fs[pW fs wl i]:=by
 have e:pW fs wl i=(An fs wl[i].name).getD 0:=by
  unfold pW
  rw[List.getElem?_eq_getElem hi]
 rcases h.find wl[i].name with⟨_,h2⟩|⟨j,i',hj,hi',h1,h2,h3,h4⟩
 ·exact absurd h2 (P9 (List.getElem_mem hi))
 ·have ej:pW fs wl i=j:=by rw[e,h1];rfl
  obtain⟨_,hn⟩:=CO h2
  have ei:i'=i:=h.uniq hi' hi hn
  subst ei
  refine⟨by rw[ej];exact hj,by rw[ej];exact h1, ?_⟩
  rw[h3]
  congr 1
  simp only[ej]
theorem Rl.pw_inj (h:Rl fs wl){i j:Nat}(hi:i<wl.length)(hj:j<wl.length)(e:pW fs wl i=pW fs wl j):i=j:=by
 obtain⟨_,_,h1⟩:=h.pw hi
 obtain⟨_,_,h2⟩:=h.pw hj
 refine h.uniq hi hj ?_
 rw[h1,h2]
 simp only[e]
theorem Rl.pw_sur (h:Rl fs wl){t:Nat}(ht:t<fs.length): ∃i,∃hi:i<wl.length,pW fs wl i=t:=by
 obtain⟨i,hi,e⟩:=List.getElem_of_mem (h.perm.mem_iff.1 (List.mem_map_of_mem (f:=prF) (List.getElem_mem ht)))
 obtain⟨hj,_,h1⟩:=h.pw hi
 refine⟨i,hi, ?_⟩
 have hn:fs[pW fs wl i].name=fs[t].name:=by
  have h2:=congrArg RF.name (h1.symm.trans e)
  exact h2
 have d:=h.dist
 rw[List.map_map]at d
 have d2:=List.pairwise_iff_getElem.1 (List.pairwise_map.1 d)
 rcases Nat.lt_trichotomy (pW fs wl i) t with c|c|c
 ·exact absurd (congrArg nmL hn) (d2 _ _ hj ht c)
 ·exact c
 ·exact absurd (congrArg nmL hn.symm) (d2 _ _ ht hj c)
theorem Rl.crash (h:Rl fs wl){ks:List Int}{fs':List FileS}{wl':List RF}{V:Nat->Prop}(hV: ∀t,t<fs.length->V t)(hC:CrG (stR fs ks (pW fs wl)) fs fs' V)(hl:wl'.length=wl.length)(hw: ∀t (h:t<wl'.length) (h':t<wl.length),wl'[t]=crW ks t wl[t]):Rl fs' wl':=by
 have hfl:=hC.1
 have hnm:=hC.names
 have one: ∀i (hi:i<wl.length) (hi':i<wl'.length),∃hp:pW fs wl i<fs'.length,prF fs'[pW fs wl i]=wl'[i]:=λi hi hi'=>by
  obtain⟨hj,_,h1⟩:=h.pw hi
  have hj':pW fs wl i<fs'.length:=J
  refine⟨hj', ?_⟩
  obtain⟨v,b,kk,⟨x,hx,hpx,f,hf,hkk⟩,e⟩:=(hC.2 _ hj hj').1 (hV _ hj)
  have hxi:x=i:=h.pw_inj (by rw[h.len];exact hx) hi hpx
  subst hxi
  rw[List.getElem?_eq_getElem hj]at hf
  have hf':fs[pW fs wl x]=f:=by injection hf
  rw[e,hw x hi' hi,h1,hkk,<-hf']
  unfold prF FileS.kept crW
  simp only[List.append_nil,List.length_append,List.length_take]
  have hle:=Le ks x fs[pW fs wl x].lb.length
  have e1:fs[pW fs wl x].sb.length+fs[pW fs wl x].lb.length-fs[pW fs wl x].sb.length=fs[pW fs wl x].lb.length:=J
  rw[e1,List.take_length_add_append]
  congr 1
  omega
 have names:wl'.map RF.name=wl.map RF.name:=by
  apply List.ext_getElem
  ·simp[hl]
  ·intro t h1 h2
   rw[List.getElem_map,List.getElem_map,hw t (by simpa using h1) (by simpa using h2)]
   rfl
 have srt:wl'.Pairwise λx y=>ltN x.name y.name:=by
  have h1:=(List.pairwise_map (f:=RF.name) (R:=ltN)).2 h.sort
  rw[<-names]at h1
  exact List.pairwise_map.1 h1
 refine⟨?_,srt⟩
 refine(List.perm_ext_iff_of_nodup ?_ ?_).2 λx=>⟨λhx=> ?_,λhx=> ?_⟩
 ·have d:=h.dist
  rw[<-hnm,List.map_map]at d
  rw[List.Nodup,List.pairwise_map]at d ⊢
  exact d.imp λq e=>q (show nmL (prF _).name=nmL (prF _).name by rw[e])
 ·rw[List.Nodup]
  exact srt.imp λq e=>q.2 (by rw[e])
 ·obtain⟨f,hf,rfl⟩:=List.mem_map.1 hx
  obtain⟨t,ht,rfl⟩:=List.getElem_of_mem hf
  obtain⟨i,hi,e⟩:=h.pw_sur (t:=t) J
  obtain⟨hp,h1⟩:=one i hi J
  simp only[e]at h1
  rw[h1]
  exact List.getElem_mem _
 ·obtain⟨i,hi,rfl⟩:=List.getElem_of_mem hx
  obtain⟨hp,h1⟩:=one i J hi
  rw[<-h1]
  exact List.mem_map_of_mem (List.getElem_mem _)
end
structure PdS where
 wl:List RF
 room:Int
 N:Int
 fused:Bool
 left:Int
 out:Bool
def RkS.pd (w:RkS):PdS:=⟨w.wl,w.room,w.N,w.fused,w.left,w.out⟩
structure SdI (k:DkS)(w:PdS):Prop where
 rl:Rl k.fs w.wl
 room:k.room=w.room
 N:k.steps=w.N
 fused:k.fused=w.fused
 left:k.left=w.left
 out:k.out=w.out
def I9 (k:DkS)(Er:Int->Prop)(Ok:Prop)(Eff:List FileS->Prop)(e:Int)(k':DkS):Prop:=
 (k.out=true/\e=10/\k'=k)\/(k.out=false/\Er e/\k'=k)\/(k.out=false/\Ok/\(k.fused=true/\k.left=0)/\e=10/\k'={k with out:=true})\/
 (k.out=false/\Ok/\ ¬(k.fused=true/\k.left=0)/\e=0/\ ∃fs' mx',Eff fs'/\k'={k with fs:=fs',mx:=mx',steps:=wrap64 (k.steps+1),left:=if k.fused then wrap64 (k.left-1)else k.left})
def F8 (w:PdS)(Er:Int->Prop)(Ok:Prop)(Eff:List RF->Prop)(e:Int)(w':PdS):Prop:=
 (w.out=true/\e=10/\w'=w)\/(w.out=false/\Er e/\w'=w)\/(w.out=false/\Ok/\(w.fused=true/\w.left=0)/\e=10/\w'={w with out:=true})\/
 (w.out=false/\Ok/\ ¬(w.fused=true/\w.left=0)/\e=0/\ ∃wl',Eff wl'/\w'={w with wl:=wl',N:=wrap64 (w.N+1),left:=if w.fused then wrap64 (w.left-1)else w.left})
theorem JR {k k':DkS}{w w':PdS}{E1 E2:Int->Prop}{O1 O2:Prop}{F1:List FileS->Prop}{F2:List RF->Prop}{e e':Int}(h:SdI k w)(h1:I9 k E1 O1 F1 e k')(h2:F8 w E2 O2 F2 e' w')(hE: ∀e e',E1 e->E2 e'->e=e')(hA:O1-> ∀e,E2 e->False)(hB:O2-> ∀e,E1 e->False)(hF:O1->O2-> ∀fs' wl',F1 fs'->F2 wl'->Rl fs' wl'):e=e'/\SdI k' w':=by
 have ho:=h.out
 have hfu:(k.fused=true/\k.left=0)↔(w.fused=true/\w.left=0):=by rw[h.fused,h.left]
 rcases h1 with⟨a,rfl,rfl⟩|⟨a,b,rfl⟩|⟨a,b,c,rfl,rfl⟩|⟨a,b,c,rfl,fs',mx',d,rfl⟩<;>rcases h2 with⟨a',rfl,rfl⟩|⟨a',b',rfl⟩|⟨a',b',c',rfl,rfl⟩|⟨a',b',c',rfl,wl',d',rfl⟩
 ·exact⟨rfl,h⟩
 ·rw[a,a']at ho;cases ho
 ·rw[a,a']at ho;cases ho
 ·rw[a,a']at ho;cases ho
 ·rw[a,a']at ho;cases ho
 ·exact⟨hE _ _ b b',h⟩
 ·exact(hB b' _ b).elim
 ·exact(hB b' _ b).elim
 ·rw[a,a']at ho;cases ho
 ·exact(hA b _ b').elim
 ·exact⟨rfl,h.rl,h.room,h.N,h.fused,h.left,rfl⟩
 ·exact absurd (hfu.1 c) c'
 ·rw[a,a']at ho;cases ho
 ·exact(hA b _ b').elim
 ·exact absurd (hfu.2 c') c
 ·refine⟨rfl,hF b b' _ _ d d',h.room, ?_,h.fused, ?_,h.out⟩
  ·show wrap64 (k.steps+1)=wrap64 (w.N+1)
   rw[h.N]
  ·show(if k.fused then wrap64 (k.left-1)else k.left)=(if w.fused then wrap64 (w.left-1)else w.left)
   rw[h.fused,h.left]
def CQ (wl:List RF):Nat:=(wl.map λf=>f.b.length).sum
theorem SdI.used {k:DkS}{w:PdS}(h:SdI k w):k.used=CQ w.wl:=h.rl.used
def AppD (k:DkS)(a:ByteArray)(l:List Nat):Int->DkS->Prop:=I9 k (λe=>(AC a=false/\e=2)\/(AC a=true/\k.room<(k.used+l.length:Nat)/\e=8)) (AC a=true/\((k.used+l.length:Nat):Int)<=k.room) λfs'=> ∃blk v b,fs'=CV k a blk v b l
def AppW (w:PdS)(a:ByteArray)(l:List Nat):Int->PdS->Prop:=F8 w (λe=>(AC a=false/\e=2)\/(AC a=true/\w.room<(CQ w.wl+l.length:Nat)/\e=8)) (AC a=true/\((CQ w.wl+l.length:Nat):Int)<=w.room) λwl'=>wl'=appW w.wl a l
theorem Xf_ {k k':DkS}{w w':PdS}{a:ByteArray}{l:List Nat}{e e':Int}(h:SdI k w)(h1:AppD k a l e k')(h2:AppW w a l e' w'):e=e'/\SdI k' w':=by
 have hu:=h.used
 have hr:=h.room
 refine JR h h1 h2 (λe e' q1 q2=> ?_) (λq1 e q2=> ?_) (λq1 e q2=> ?_) λ_ _ fs' wl' q1 q2=> ?_
 ·rcases q1 with⟨a1,rfl⟩|⟨a1,b1,rfl⟩<;>rcases q2 with⟨a2,rfl⟩|⟨a2,b2,rfl⟩
  ·rfl
  ·rw[a1]at a2;cases a2
  ·rw[a1]at a2;cases a2
  ·rfl
 ·rcases q2 with⟨a2,_⟩|⟨_,b2,_⟩
  ·rw[q1.1]at a2;cases a2
  ·have:=q1.2;omega
 ·rcases q2 with⟨a2,_⟩|⟨_,b2,_⟩
  ·rw[q1.1]at a2;cases a2
  ·have:=q1.2;omega
 ·obtain⟨blk,v,b,rfl⟩:=q1
  rw[q2]
  exact h.rl.app blk b v l
def SynD (k:DkS)(a:ByteArray):Int->DkS->Prop:=I9 k (λe=>An k.fs a=none/\e=6) (∃j,An k.fs a=some j) λfs'=> ∃j,∃hj:j<k.fs.length,An k.fs a=some j/\ ∃v b,fs'=k.fs.set j (k.fs[j].kept v b (k.fs[j].sb++k.fs[j].lb))
def SynW (w:PdS)(a:ByteArray):Int->PdS->Prop:=F8 w (λe=>atW w.wl a=none/\e=6) (∃i,atW w.wl a=some i) λwl'=> ∃i,∃hi:i<w.wl.length,atW w.wl a=some i/\wl'=w.wl.set i {w.wl[i]with safe:=w.wl[i].b.length}
theorem ER {k:DkS}{w:PdS}(h:SdI k w)(a:ByteArray):An k.fs a=none↔atW w.wl a=none:=by
 rcases h.rl.find a with⟨h1,h2⟩|⟨j,i,_,_,h1,h2,_⟩
 ·exact⟨λ_=>h2,λ_=>h1⟩
 ·exact⟨λq=>absurd (h1.symm.trans q) am,λq=>absurd (h2.symm.trans q) am⟩
theorem Fs {k:DkS}{w:PdS}(h:SdI k w){a:ByteArray}{j i:Nat}(h1:An k.fs a=some j)(h2:atW w.wl a=some i)(hj:j<k.fs.length)(hi:i<w.wl.length):w.wl[i]=prF k.fs[j]:=by
 rcases h.rl.find a with⟨g1,g2⟩|⟨j',i',_,_,g1,g2,g3,_⟩
 ·rw[g1]at h1;cases h1
 ·rw[g1]at h1
  rw[g2]at h2
  obtain rfl:j'=j:=by injection h1
  obtain rfl:i'=i:=by injection h2
  exact g3
theorem Yq {k:DkS}{w:PdS}(h:SdI k w)(a:ByteArray):(∀{e e':Int},(An k.fs a=none/\e=6)->(atW w.wl a=none/\e'=6)->e=e')/\((∃j,An k.fs a=some j)-> ∀e:Int,(atW w.wl a=none/\e=6)->False)/\((∃i,atW w.wl a=some i)-> ∀e:Int,(An k.fs a=none/\e=6)->False):=by
 refine⟨λq1 q2=>by rw[q1.2,q2.2],λ⟨j,hj⟩ e q=> ?_,λ⟨i,hi⟩ e q=> ?_⟩
 ·rw[(ER h a).2 q.1]at hj;cases hj
 ·rw[(ER h a).1 q.1]at hi;cases hi
theorem Alq_ {k k':DkS}{w w':PdS}{a:ByteArray}{e e':Int}(h:SdI k w)(h1:SynD k a e k')(h2:SynW w a e' w'):e=e'/\SdI k' w':=by
 obtain⟨m1,m2,m3⟩:=Yq h a
 refine JR h h1 h2 (λ_ _=>m1) m2 m3 λ_ _ fs' wl' q1 q2=> ?_
 obtain⟨j,hj,l1,v,b,rfl⟩:=q1
 obtain⟨i,hi,l2,rfl⟩:=q2
 exact h.rl.sync hj hi (Fs h l1 l2 hj hi) v b
def RemD (k:DkS)(a:ByteArray):Int->DkS->Prop:=I9 k (λe=>An k.fs a=none/\e=6) (∃j,An k.fs a=some j) λfs'=> ∃j,j<k.fs.length/\An k.fs a=some j/\fs'=k.fs.eraseIdx j
def RemW (w:PdS)(a:ByteArray):Int->PdS->Prop:=F8 w (λe=>atW w.wl a=none/\e=6) (∃i,atW w.wl a=some i) λwl'=> ∃i,i<w.wl.length/\atW w.wl a=some i/\wl'=w.wl.eraseIdx i
theorem AiL_ {k k':DkS}{w w':PdS}{a:ByteArray}{e e':Int}(h:SdI k w)(h1:RemD k a e k')(h2:RemW w a e' w'):e=e'/\SdI k' w':=by
 obtain⟨m1,m2,m3⟩:=Yq h a
 refine JR h h1 h2 (λ_ _=>m1) m2 m3 λ_ _ fs' wl' q1 q2=> ?_
 obtain⟨j,hj,l1,rfl⟩:=q1
 obtain⟨i,hi,l2,rfl⟩:=q2
 exact h.rl.erase hj hi (Fs h l1 l2 hj hi)
theorem Rl.ren_same {fs fs':List FileS}{wl:List RF}(h:Rl fs wl){j:Nat}{b:ByteArray}(hj:j<fs.length)(hb:fs[j].name=b)(hr:GD fs j hj b fs'):Rl fs' wl:=by
 have ep: ∀c,prF (fs[j].as b c)=prF fs[j]:=λc=>by
  show(⟨b,fs[j].sb++fs[j].lb,fs[j].sb.length⟩:RF)=⟨fs[j].name,_,_⟩
  rw[hb]
 have d:=h.dist
 have d2:(fs.map FileS.name).Nodup:=by
  rw[List.Nodup,List.pairwise_map]at d
  rw[List.Nodup]
  exact d.imp λq hq=>q (by rw[hq])
 have hj':j<(fs.map FileS.name).length:=by simpa using hj
 have pp:=(Fe (l:=fs.map FileS.name) (i:=j) hj').nodup_iff.1 d2
 rw[List.getElem_map,hb]at pp
 have hno:=(List.nodup_cons.1 pp).1
 rcases hr with⟨hl,c,rfl⟩|⟨t,hl,c,rfl⟩
 ·refine⟨?_,h.sort⟩
  refine List.Perm.trans ?_ h.perm
  rw[List.map_append]
  refine(List.perm_append_comm (l₁:=(fs.eraseIdx j).map prF)).trans ?_
  show(prF (fs[j].as b c)::(fs.eraseIdx j).map prF).Perm _
  rw[ep]
  exact((Fe hj).map prF).symm
 ·obtain⟨ht,hn⟩:=HD hl
  refine absurd ?_ hno
  rw[<-Eu]
  exact List.mem_map.2 ⟨_,List.getElem_mem ht,hn⟩
def RenD (k:DkS)(a b:ByteArray):Int->DkS->Prop:=I9 k (λe=>(AC b=false/\e=2)\/(AC b=true/\An k.fs a=none/\e=6)\/(AC b=true/\(∃j,∃hj:j<k.fs.length,An k.fs a=some j/\0<k.fs[j].lb.length)/\e=9)) (AC b=true/\ ∃j,∃hj:j<k.fs.length,An k.fs a=some j/\k.fs[j].lb.length=0) λfs'=> ∃j,∃hj:j<k.fs.length,An k.fs a=some j/\GD k.fs j hj b fs'
def Pu (w:PdS)(a b:ByteArray):Int->PdS->Prop:=F8 w (λe=>(AC b=false/\e=2)\/(AC b=true/\atW w.wl a=none/\e=6)\/(AC b=true/\(∃i,∃hi:i<w.wl.length,atW w.wl a=some i/\w.wl[i].safe<w.wl[i].b.length)/\e=9)) (AC b=true/\ ∃i,∃hi:i<w.wl.length,atW w.wl a=some i/\w.wl[i].b.length<=w.wl[i].safe) λwl'=> ∃i,∃hi:i<w.wl.length,atW w.wl a=some i/\wl'=if a==b then w.wl else renW w.wl i b
theorem GL {b:Bool}(h1:b=true)(h2:b=false):False:=by rw[h1]at h2;cases h2
theorem ren_same {k k':DkS}{w w':PdS}{a b:ByteArray}{e e':Int}(h:SdI k w)(h1:RenD k a b e k')(h2:Pu w a b e' w'):e=e'/\SdI k' w':=by
 have loose: ∀{j i:Nat} (hj:j<k.fs.length) (hi:i<w.wl.length),An k.fs a=some j->atW w.wl a=some i->(w.wl[i].b.length=w.wl[i].safe+k.fs[j].lb.length):=λhj hi l1 l2=>by
  rw[Fs h l1 l2 hj hi]
  unfold prF
  simp
 refine JR h h1 h2 (λe e' q1 q2=> ?_) (λq1 e q2=> ?_) (λq1 e q2=> ?_) λq1 q2 fs' wl' q3 q4=> ?_
 ·rcases q1 with⟨a1,rfl⟩|⟨a1,b1,rfl⟩|⟨a1,⟨j,hj,l1,c1⟩,rfl⟩<;>rcases q2 with⟨a2,rfl⟩|⟨a2,b2,rfl⟩|⟨a2,⟨i,hi,l2,c2⟩,rfl⟩
  ·rfl
  ·exact(GL a2 a1).elim
  ·exact(GL a2 a1).elim
  ·exact(GL a1 a2).elim
  ·rfl
  ·rw[(ER h a).1 b1]at l2;cases l2
  ·exact(GL a1 a2).elim
  ·rw[(ER h a).2 b2]at l1;cases l1
  ·rfl
 ·obtain⟨a1,j,hj,l1,c1⟩:=q1
  rcases q2 with⟨a2,rfl⟩|⟨a2,b2,rfl⟩|⟨a2,⟨i,hi,l2,c2⟩,rfl⟩
  ·exact GL a1 a2
  ·rw[(ER h a).2 b2]at l1;cases l1
  ·have:=loose hj hi l1 l2;omega
 ·obtain⟨a1,i,hi,l1,c1⟩:=q1
  rcases q2 with⟨a2,rfl⟩|⟨a2,b2,rfl⟩|⟨a2,⟨j,hj,l2,c2⟩,rfl⟩
  ·exact GL a1 a2
  ·rw[(ER h a).1 b2]at l1;cases l1
  ·have:=loose hj hi l2 l1;omega
 ·obtain⟨j,hj,l1,hr⟩:=q3
  obtain⟨i,hi,l2,rfl⟩:=q4
  have hat:=Fs h l1 l2 hj hi
  cases hab:a==b with
  |true=>
   rw[if_pos rfl]
   obtain⟨_,hn⟩:=HD l1
   exact h.rl.ren_same hj (hn.trans ((EQ a b).1 hab)) hr
  |false=>
   rw[if_neg al]
   have e:renW w.wl i b=insW (outW (w.wl.eraseIdx i) b) {w.wl[i]with name:=b}:=by
    unfold renW
    rw[List.getElem?_eq_getElem hi]
   rw[e]
   exact h.rl.ren hj hi hat hr
def FlD (k:DkS)(a:ByteArray)(bit e:Int)(k':DkS):Prop:=
 (An k.fs a=none/\e=6/\k'=k)\/(∃j,∃hj:j<k.fs.length,An k.fs a=some j/\(bit<0\/ ∃m:Nat,bit=(m:Nat)/\k.fs[j].sb.length+k.fs[j].lb.length<=m/8)/\e=5/\k'=k)\/
 (∃j,∃hj:j<k.fs.length,∃m:Nat,An k.fs a=some j/\bit=(m:Nat)/\m/8<k.fs[j].sb.length/\e=0/\k'={k with fs:=k.fs.set j {k.fs[j]with sb:=k.fs[j].sb.set (m/8) (k.fs[j].sb.getD (m/8) 0^^^2^(m%8))}})\/
 (∃j,∃hj:j<k.fs.length,∃m t:Nat,An k.fs a=some j/\bit=(m:Nat)/\m/8=k.fs[j].sb.length+t/\t<k.fs[j].lb.length/\e=0/\k'={k with fs:=k.fs.set j {k.fs[j]with lb:=k.fs[j].lb.set t (k.fs[j].lb.getD t 0^^^2^(m%8))}})
def FlW (w:PdS)(a:ByteArray)(bit e:Int)(w':PdS):Prop:=
 (atW w.wl a=none/\e=6/\w'=w)\/(∃i,∃hi:i<w.wl.length,atW w.wl a=some i/\(bit<0\/ ∃m:Nat,bit=(m:Nat)/\8*w.wl[i].b.length<=m)/\e=5/\w'=w)\/
 (∃i,∃hi:i<w.wl.length,∃m:Nat,atW w.wl a=some i/\bit=(m:Nat)/\m<8*w.wl[i].b.length/\e=0/\w'={w with wl:=w.wl.set i {w.wl[i]with b:=BC w.wl[i].b m}})
theorem Ww_ {k k':DkS}{w w':PdS}{a:ByteArray}{bit e e':Int}(h:SdI k w)(h1:FlD k a bit e k')(h2:FlW w a bit e' w'):e=e'/\SdI k' w':=by
 have len: ∀{j i:Nat} (hj:j<k.fs.length) (hi:i<w.wl.length),An k.fs a=some j->atW w.wl a=some i->(w.wl[i].b.length=k.fs[j].sb.length+k.fs[j].lb.length):=λhj hi l1 l2=>by
  rw[Fs h l1 l2 hj hi]
  unfold prF
  simp
 have n1: ∀{i:Nat},An k.fs a=none->atW w.wl a=some i->False:=λq1 q2=>by rw[(ER h a).1 q1]at q2;cases q2
 have n2: ∀{j:Nat},An k.fs a=some j->atW w.wl a=none->False:=λq1 q2=>by rw[(ER h a).2 q2]at q1;cases q1
 rcases h1 with⟨l1,rfl,rfl⟩|⟨j,hj,l1,c1,rfl,rfl⟩|⟨j,hj,m,l1,rfl,c1,rfl,rfl⟩|⟨j,hj,m,t,l1,rfl,c1,d1,rfl,rfl⟩<;>rcases h2 with⟨l2,rfl,rfl⟩|⟨i,hi,l2,c2,rfl,rfl⟩|⟨i,hi,m2,l2,e2,c2,rfl,rfl⟩
 ·exact⟨rfl,h⟩
 ·exact(n1 l1 l2).elim
 ·exact(n1 l1 l2).elim
 ·exact(n2 l1 l2).elim
 ·exact⟨rfl,h⟩
 ·have hl:=len hj hi l1 l2
  rcases c1 with c1|⟨m,c1,d1⟩<;>omega
 ·exact(n2 l1 l2).elim
 ·have hl:=len hj hi l1 l2
  rcases c2 with c2|⟨m2,c2,d2⟩<;>omega
 ·obtain rfl:m=m2:=J
  exact⟨rfl,h.rl.flipS hj hi (Fs h l1 l2 hj hi) c1,h.room,h.N,h.fused,h.left,h.out⟩
 ·exact(n2 l1 l2).elim
 ·have hl:=len hj hi l1 l2
  rcases c2 with c2|⟨m2,c2,d2⟩<;>omega
 ·obtain rfl:m=m2:=J
  exact⟨rfl,h.rl.flipL hj hi (Fs h l1 l2 hj hi) c1,h.room,h.N,h.fused,h.left,h.out⟩
def FusD (k:DkS)(m e:Int)(k':DkS):Prop:=(m<0/\e=2/\k'=k)\/(0<=m/\e=0/\k'={k with fused:=true,left:=m})
def FusW (w:PdS)(m e:Int)(w':PdS):Prop:=(m<0/\e=2/\w'=w)\/(0<=m/\e=0/\w'={w with fused:=true,left:=m})
theorem Vb_ {k k':DkS}{w w':PdS}{m e e':Int}(h:SdI k w)(h1:FusD k m e k')(h2:FusW w m e' w'):e=e'/\SdI k' w':=by
 rcases h1 with⟨a,rfl,rfl⟩|⟨a,rfl,rfl⟩<;>rcases h2 with⟨b,rfl,rfl⟩|⟨b,rfl,rfl⟩
 ·exact⟨rfl,h⟩
 ·omega
 ·omega
 ·exact⟨rfl,h.rl,h.room,h.N,rfl,rfl,h.out⟩
def ResD (k:DkS)(m e:Int)(k':DkS):Prop:=((m<0\/16777216<m)/\e=5/\k'=k)\/(0<=m/\m<=16777216/\e=0/\k'={k with room:=m})
def ResW (w:PdS)(m e:Int)(w':PdS):Prop:=((m<0\/16777216<m)/\e=5/\w'=w)\/(0<=m/\m<=16777216/\e=0/\w'={w with room:=m})
theorem ZB_ {k k':DkS}{w w':PdS}{m e e':Int}(h:SdI k w)(h1:ResD k m e k')(h2:ResW w m e' w'):e=e'/\SdI k' w':=by
 rcases h1 with⟨a,rfl,rfl⟩|⟨a,a2,rfl,rfl⟩<;>rcases h2 with⟨b,rfl,rfl⟩|⟨b,b2,rfl,rfl⟩
 ·exact⟨rfl,h⟩
 ·omega
 ·omega
 ·exact⟨rfl,h.rl,rfl,h.N,h.fused,h.left,h.out⟩
def CraD (k:DkS)(wl:List RF)(ks:List Int)(e:Int)(k':DkS):Prop:=e=0/\ ∃fs' V,(∀t,t<k.fs.length->V t)/\CrG (stR k.fs ks (pW k.fs wl)) k.fs fs' V/\k'={k with fs:=fs',fused:=false,left:=0,out:=false}
def CraW (w:PdS)(ks:List Int)(e:Int)(w':PdS):Prop:=e=0/\ ∃wl':List RF,wl'.length=w.wl.length/\(∀t (h:t<wl'.length) (h':t<w.wl.length),wl'[t]=crW ks t w.wl[t])/\w'={w with wl:=wl',fused:=false,left:=0,out:=false}
theorem AiQ_ {k k':DkS}{w w':PdS}{ks:List Int}{e e':Int}(h:SdI k w)(h1:CraD k w.wl ks e k')(h2:CraW w ks e' w'):e=e'/\SdI k' w':=by
 obtain⟨rfl,fs',V,hV,hC,rfl⟩:=h1
 obtain⟨rfl,wl',hl,hw,rfl⟩:=h2
 exact⟨rfl,h.rl.crash hV hC hl hw,h.room,h.N,rfl,rfl,rfl⟩
section
variable {n R:Nat}{s:St}{k:RkS}{a b:ByteArray}{Q:Value->St->Prop}
theorem rft0 {s1:St}(hb:s.lim<=s.next)(hI:RkI s R k)(x:Ext Any Non s s1):Rft s s1 R k k:=⟨hI.ext0 x,x.gw hb λ_ _ h=>h.elim,λ_ h=> .inl h⟩
theorem rft1 {s1:St}{k':RkS}(hb:s.lim<=s.next)(x:Ext Any (In R 0 6) s s1)(hI:RkI s1 R k')(h1:k'.ws=k.ws)(h2:k'.b=k.b):Rft s s1 R k k':=⟨hI,x.gw hb λ_ _ h=> .inl h,LE_ h1 h2⟩
theorem HM {k k':RkS}{wl:List RF}{room N left:Int}{fused out:Bool}(h0:k'.wl=wl)(h1:k'.room=room)(h2:k'.N=N)(h3:k'.fused=fused)(h4:k'.left=left)(h5:k'.out=out):k'.pd=⟨wl,room,N,fused,left,out⟩:=by
 unfold RkS.pd
 rw[h0,h1,h2,h3,h4,h5]
theorem Ach_ (k:RkS):k.used=CQ k.pd.wl:=rfl
theorem Akr_ {bv:Value}{l:List Nat}(hb:s.lim<=s.next)(hI:RkI s R k)(hl:k.ws.length<=800)(hB:Bs s bv l)(hBF: ∀x,BsF bv x-> ¬RkG R k x)(hz: ∀f∈k.ws,f.rf.b.length+l.length<=1000000)(hz1:l.length<=1000000)(hu:k.used<=1000000)(ha:a.size<=1000000)(hn:10*k.ws.length+10*a.size+1000<=n)
  (q: ∀s1 e k',Rft s s1 R k k'->AppW k.pd a l e k'.pd->Q (.int .i64 e) s1):
  W (Ac envS (runF envS n) 35 [.pointer (some ⟨R,0,none⟩), .string a,bv]) s Q:=by
 have hu2:=Ach_ k
 refine Aao_ hb hI hl hB hBF hz hz1 hu ha J
  (λh1 s1 x=>q _ _ _ (rft0 hb hI x) (.inl ⟨h1,rfl,rfl⟩))
  (λh1 h2 s1 x=>q _ _ _ (rft0 hb hI x) (.inr (.inl ⟨h1, .inl ⟨h2,rfl⟩,rfl⟩)))
  (λh1 h2 h3 s1 x=>q _ _ _ (rft0 hb hI x) (.inr (.inl ⟨h1, .inr ⟨h2,by rw[<-hu2];exact h3,rfl⟩,rfl⟩)))
  (λh1 h2 h3 h4 s1 x h=>q _ _ _ (rft1 hb x h rfl rfl) (.inr (.inr (.inl ⟨h1,⟨h2,by rw[<-hu2];exact h3⟩,h4,rfl,rfl⟩))))
  (λh1 h2 h3 h4 s1 k' h e0 e1 e2 e3 e4 e5=>q _ _ _ h (.inr (.inr (.inr ⟨h1,⟨h2,by rw[<-hu2];exact h3⟩,h4,rfl,_,rfl,HM (k:=k) e0 e1 e2 e3 e4 e5⟩))))
theorem AcI_ (hb:s.lim<=s.next)(hI:RkI s R k)(hl:k.ws.length<=800)(hz: ∀f∈k.ws,f.rf.b.length<=1000000)(hn:10*k.ws.length+1000<=n)
  (q: ∀s1 e k',Rft s s1 R k k'->SynW k.pd a e k'.pd->Q (.int .i64 e) s1):
  W (Ac envS (runF envS n) 28 [.pointer (some ⟨R,0,none⟩), .string a]) s Q:=
 Za_ hb hI J hz J
  (λh1 s1 x=>q _ _ _ (rft0 hb hI x) (.inl ⟨h1,rfl,rfl⟩))
  (λh1 h2 s1 x=>q _ _ _ (rft0 hb hI x) (.inr (.inl ⟨h1,⟨h2,rfl⟩,rfl⟩)))
  (λh1 i hi h2 h4 s1 x h=>q _ _ _ (rft1 hb x h rfl rfl) (.inr (.inr (.inl ⟨h1,⟨i,h2⟩,h4,rfl,rfl⟩))))
  (λh1 i hi h2 h4 s1 x h=>q _ _ _ ⟨h,x,Sy λy hy=> .inl (.inr (.inr ⟨_,List.getElem_mem hi,hy⟩))⟩ (.inr (.inr (.inr ⟨h1,⟨i,h2⟩,h4,rfl,_,⟨i,by rw[show k.pd.wl=k.wl from rfl,aH];exact hi,h2,rfl⟩,HM (k:=k) (by
   have hi':i<k.wl.length:=by rw[aH];exact hi
   show(k.ws.set i k.ws[i].kept).map RW.rf=_
   rw[Kf]
   show k.wl.set i k.ws[i].kept.rf=k.wl.set i {k.wl[i]with safe:=k.wl[i].b.length}
   rw[aM hi]
   rfl) rfl rfl rfl rfl rfl⟩))))
theorem AgA_ (hb:s.lim<=s.next)(hI:RkI s R k)(hl:k.ws.length<=800)(hz: ∀f∈k.ws,f.rf.b.length<=1000000)(hn:10*k.ws.length+1000<=n)
  (q: ∀s1 e k',Rft s s1 R k k'->RemW k.pd a e k'.pd->Q (.int .i64 e) s1):
  W (Ac envS (runF envS n) 30 [.pointer (some ⟨R,0,none⟩), .string a]) s Q:=
 Aly_ hb hI J hz J
  (λh1 s1 x=>q _ _ _ (rft0 hb hI x) (.inl ⟨h1,rfl,rfl⟩))
  (λh1 h2 s1 x=>q _ _ _ (rft0 hb hI x) (.inr (.inl ⟨h1,⟨h2,rfl⟩,rfl⟩)))
  (λh1 i hi h2 h4 s1 x h=>q _ _ _ (rft1 hb x h rfl rfl) (.inr (.inr (.inl ⟨h1,⟨i,h2⟩,h4,rfl,rfl⟩))))
  (λh1 i hi h2 h4 s1 L' b' x hb' h=>q _ _ _ ⟨h,x.gw hb λ_ _ h=> .inl h,λy hy=>by
   rcases hy with hy|hy|⟨f,hf,hy⟩
   ·exact .inl (.inl hy)
   ·refine .inr ?_
    have h1:b'+0<=y:=hy.2.1
    omega
   ·exact .inl (.inr (.inr ⟨f,List.mem_of_mem_eraseIdx hf,hy⟩))⟩ (.inr (.inr (.inr ⟨h1,⟨i,h2⟩,h4,rfl,_,⟨i,by rw[show k.pd.wl=k.wl from rfl,aH];exact hi,h2,rfl⟩,HM (k:=k) (PY k.ws i) rfl rfl rfl rfl rfl⟩))))
theorem AjA_ (hb:s.lim<=s.next)(hI:RkI s R k)(hl:k.ws.length<=800)(hz: ∀f∈k.ws,f.rf.b.length<=1000000)(hzb:b.size<=1000000)(hn:10*k.ws.length+10*b.size+1000<=n)
  (q: ∀s1 e k',Rft s s1 R k k'->Pu k.pd a b e k'.pd->Q (.int .i64 e) s1):
  W (Ac envS (runF envS n) 29 [.pointer (some ⟨R,0,none⟩), .string a, .string b]) s Q:=by
 have ln: ∀{i:Nat},i<k.ws.length->i<k.pd.wl.length:=λhi=>by rw[show k.pd.wl=k.wl from rfl,aH];exact hi
 have at': ∀{i:Nat} (hi:i<k.ws.length) (hi':i<k.pd.wl.length),k.pd.wl[i]=k.ws[i].rf:=λhi _=>aM hi
 refine AmN_ hb hI hl hz hzb J
  (λh1 s1 x=>q _ _ _ (rft0 hb hI x) (.inl ⟨h1,rfl,rfl⟩))
  (λh1 h2 s1 x=>q _ _ _ (rft0 hb hI x) (.inr (.inl ⟨h1, .inl ⟨h2,rfl⟩,rfl⟩)))
  (λh1 h2 h3 s1 x=>q _ _ _ (rft0 hb hI x) (.inr (.inl ⟨h1, .inr (.inl ⟨h2,h3,rfl⟩),rfl⟩)))
  (λh1 h2 i hi h3 h4 s1 x=>q _ _ _ (rft0 hb hI x) (.inr (.inl ⟨h1, .inr (.inr ⟨h2,⟨i,ln hi,h3,by rw[at' hi];exact h4⟩,rfl⟩),rfl⟩)))
  (λh1 h2 i hi h3 h4 h5 s1 x h=>q _ _ _ (rft1 hb x h rfl rfl) (.inr (.inr (.inl ⟨h1,⟨h2,i,ln hi,h3,by rw[at' hi];exact h4⟩,h5,rfl,rfl⟩))))
  (λh1 h2 i hi h3 h4 h5 s1 k' h e0 e1 e2 e3 e4 e5=>q _ _ _ h (.inr (.inr (.inr ⟨h1,⟨h2,i,ln hi,h3,by rw[at' hi];exact h4⟩,h5,rfl,_,⟨i,ln hi,h3,rfl⟩,HM (k:=k) e0 e1 e2 e3 e4 e5⟩))))
theorem VO_ {bit:Int}(hb:s.lim<=s.next)(hI:RkI s R k)(hl:k.ws.length<=800)(hz: ∀f∈k.ws,f.rf.b.length<=1000000)(hby: ∀f∈k.ws,Byt f.rf.b)(hbit:bit<=9223372036854775807)(hn:10*k.ws.length+1000<=n)
  (q: ∀s1 e k',Rft s s1 R k k'->FlW k.pd a bit e k'.pd->Q (.int .i64 e) s1):
  W (Ac envS (runF envS n) 33 [.pointer (some ⟨R,0,none⟩), .string a, .int .i64 bit]) s Q:=by
 have ln: ∀{i:Nat},i<k.ws.length->i<k.pd.wl.length:=λhi=>by rw[show k.pd.wl=k.wl from rfl,aH];exact hi
 have at': ∀{i:Nat} (hi:i<k.ws.length) (hi':i<k.pd.wl.length),k.pd.wl[i]=k.ws[i].rf:=λhi _=>aM hi
 refine Agg_ hb hI J hz hby hbit J
  (λh1 s1 x=>q _ _ _ (rft0 hb hI x) (.inl ⟨h1,rfl,rfl⟩))
  (λi hi h1 h2 s1 x=>q _ _ _ (rft0 hb hI x) (.inr (.inl ⟨i,ln hi,h1,by rw[at' hi];exact h2,rfl,rfl⟩)))
  (λi hi m h1 h2 h3 s1 v h=>q _ _ _ h (.inr (.inr ⟨i,ln hi,m,h1,h2,by rw[at' hi];exact h3,rfl,HM (k:=k) (by
   show(k.ws.set i _).map RW.rf=_
   rw[Kf,at' hi]
   rfl) rfl rfl rfl rfl rfl⟩)))
theorem Ano_ {m:Int}(hb:s.lim<=s.next)(hI:RkI s R k)(hn:1000<=n)
  (q: ∀s1 e k',Rft s s1 R k k'->FusW k.pd m e k'.pd->Q (.int .i64 e) s1):
  W (Ac envS (runF envS n) 31 [.pointer (some ⟨R,0,none⟩), .int .i64 m]) s Q:=
 AkV_ hb hI J (λh1 s1 x=>q _ _ _ (rft0 hb hI x) (.inl ⟨h1,rfl,rfl⟩)) λh1 s1 x h=>q _ _ _ (rft1 hb x h rfl rfl) (.inr ⟨h1,rfl,rfl⟩)
theorem TN_ {m:Int}(hb:s.lim<=s.next)(hI:RkI s R k)(hn:1000<=n)
  (q: ∀s1 e k',Rft s s1 R k k'->ResW k.pd m e k'.pd->Q (.int .i64 e) s1):
  W (Ac envS (runF envS n) 34 [.pointer (some ⟨R,0,none⟩), .int .i64 m]) s Q:=by
 by_cases hm:m<0\/16777216<m
 ·exact Alg_ hm J λs1 x=>q _ _ _ (rft0 hb hI x) (.inl ⟨hm,rfl,rfl⟩)
 ·exact ZG_ hb hI J J J λs1 x h=>q _ _ _ (rft1 hb x h rfl rfl) (.inr ⟨J,J,rfl,rfl⟩)
theorem Ala_ {kv:Value}{ks:List Int}(hb:s.lim<=s.next)(hI:RkI s R k)(hl:k.ws.length<=800)(hz: ∀f∈k.ws,f.rf.b.length<=1000000/\f.rf.safe<=f.rf.b.length)(hk:KsR s kv ks)(hkF: ∀x,KsF kv x->x<s.next/\ ¬RkG R k x)(hn:20*k.ws.length+1000<=n)
  (q: ∀s1 e k',Rft s s1 R k k'->CraW k.pd ks e k'.pd->Q (.int .i64 e) s1):
  W (Ac envS (runF envS n) 32 [.pointer (some ⟨R,0,none⟩),kv]) s Q:=
 Ahp_ hb hI J hz hk hkF J λs1 ws' h h1 h2=>q _ _ _ h ⟨rfl,ws'.map RW.rf,by
  rw[List.length_map,h1]
  exact(aH k).symm,λt ht ht'=>by
  have e1:t<ws'.length:=by simpa using ht
  have e2:t<k.ws.length:=J
  rw[List.getElem_map,h2 t e1 e2]
  congr 1
  exact(aM e2).symm,rfl⟩
end
section
variable {n:Nat}{s:St}{v w:Value}{Q:Value->St->Prop}
theorem AfJ_ (a:ByteArray){E:Env}{s:St}{xo yo:Operand}{t:Nat}(Q:Value->St->Prop):W (Cl.get (aBin E .neq t xo yo) (.string a) (.string a)) s Q=Q (.bool false) s:=by
 rw[Ke]
 simp
theorem Eh (x:Int){E:Env}{s:St}{xo yo:Operand}{t:Nat}(Q:Value->St->Prop):W (Cl.get (aBin E .neq t xo yo) (.int .i64 x) (.int .i64 x)) s Q=Q (.bool false) s:=by
 rw[Cr]
 simp
theorem AhN_ {l:List ByteArray}{Q:Value×FrameMode->St->Prop}{s0:St}(hb0:s0.lim<=s0.next)(hl:l.length<=1000)(hv:StR s0 v l)(hw:StR s0 w l)(hcx:s0.cx=cxN)(q: ∀s1,Ext Any Non s0 s1->Q (.bool true, .run) s1):
  ∀(k i n:Nat) (tm:T Value) (s:St) (td:List Item),i+k=l.length->10*k+20<=n->skim 64 td=Kj->Ext Any Non s0 s->T.get tm 0=some v->T.get tm 1=some w->T.get tm 5=some (.int .i64 (i:Nat))->
  W (runF envS n ⟨40,Ari_,Dy,tm,td, .run, .normal,none⟩) s Q:=by
 intro k
 induction k with
 |zero=>
  intro i n tm s td hi hn hT hx h0 h1 h5
  refine Yl.u ?_ hT
  simp only[Ng,RR,SS,Ap,h0,h5,StR.len hv BP]
  refine aG Rr_ ?_
  refine Agc_.u ?_
  simp only[GI_,RR,SS]
  refine aB (rs:=[4]) (vs:=[.bool true]) rfl (.inl YE_) J OF_ Amx_ (hx.cx.trans hcx) Y ?_
  exact q _ hx
 |succ k ih=>
  intro i n tm s td hi hn hT hx h0 h1 h5
  have hil:i<l.length:=J
  obtain⟨b1,c1,e1,o1,_⟩:=(hv.ext0 hx).at hil
  obtain⟨b2,c2,e2,o2,_⟩:=(hw.ext0 hx).at hil
  refine Yl.u ?_ hT
  simp only[Ng,RR,SS,Ap,h0,h5,StR.len hv BP]
  refine aJ Rr_ ?_
  refine AoF_.u ?_
  simp only[NQ_,RR,T.get_set,Nat.reduceEqDiff,reduceIte,h0,h1,h5,e1,e2,Aa,Aj]
  rw[W_dq λs Q=>AA (s:=s) BP hil Q]
  dsimp only
  try simp only[Aa]
  refine aD AQ ((o1.same (s':=dSt s.mem s.next) rfl rfl).at') λrd3 hr3=> ?_
  try simp only[Aa]
  refine Eq.mpr (Aj _ _ _ _ _) ?_
  dsimp only
  refine Eq.mpr (Aj _ _ _ _ _) ?_
  dsimp only
  try simp only[Aa]
  rw[W_dq λs Q=>AA (s:=s) BP hil Q]
  dsimp only
  try simp only[Aa]
  refine aD AQ ((o2.same (s':=dSt s.mem s.next) rfl rfl).at') λrd7 hr7=> ?_
  rw[AI]
  refine⟨BZ am am, ?_⟩
  refine aK (Aoz_ _ _ _ _ _ _ _ _ _ _ _ _ _) ?_
  simp only[SS,AfJ_]
  generalize hs':(⟨(dSt s.mem s.next).mem,(dSt s.mem s.next).next,s.lim,_,_,s.cx⟩:St)=s1
  have x1:Ext Any Non s s1:=by
   rw[<-hs']
   exact Ext.draw (F:=Any) (Nat.le_refl _) (λ_ _=>rfl) am λ_ _ _ _ _=>trivial
  have y1:=hx.on x1 hb0 λ_ _ h=>h
  refine aG Amb_ ?_
  refine AbN_.u ?_
  have ei:=eiW (i:=i) J
  simp only[So_,RR,SS,Nat.reduceEqDiff, ↓reduceIte,AY,h5,ei]
  exact ih (i+1) _ _ _ _ J J Zj_ y1 (by simp[T.get_set,h0,e1]) (by simp[T.get_set,h1,e2]) Y
theorem JT_ {l:List ByteArray}(hb:s.lim<=s.next)(hl:l.length<=1000)(hv:StR s v l)(hw:StR s w l)(hn:10*l.length+60<=n)(q: ∀s1,Ext Any Non s s1->Q (.bool true) s1):
  W (Ac envS (runF envS n) 40 [v,w]) s Q:=by
 have hb0:(s.cxN cxN).lim<=(s.cxN cxN).next:=hb
 refine AkJ_ λtm h0 h1=> ?_
 refine AoD_.u ?_
 simp only[VC,RR,SS]
 refine SZ_.u ?_
 simp only[Qk_,RR,SS,Nat.reduceEqDiff,reduceCtorEq, ↓reduceIte,h0,h1,StR.len hv BP,StR.len hw BP,Eh]
 refine aG App_ ?_
 refine ApL_.u ?_
 simp only[DN_,RR,SS]
 exact AhN_ (s0:=s.cxN cxN) hb0 hl (hv.same rfl rfl) (hw.same rfl rfl) rfl (λs1 x1=>q _ x1.cx') l.length 0 _ _ _ _ J J rfl (Ext.refl _) (an h0) (an h1) Y
end
section
variable {n:Nat}{s:St}{v w:Value}{Q:Value->St->Prop}
theorem AlH_ {l:List Int}{Q:Value×FrameMode->St->Prop}{s0:St}(hb0:s0.lim<=s0.next)(hl:l.length<=1000)(hv:KsR s0 v l)(hw:KsR s0 w l)(hcx:s0.cx=cxN)(q: ∀s1,Ext Any Non s0 s1->Q (.bool true, .run) s1):
  ∀(k i n:Nat) (tm:T Value) (s:St) (td:List Item),i+k=l.length->10*k+20<=n->skim 64 td=Jq->Ext Any Non s0 s->T.get tm 0=some v->T.get tm 1=some w->T.get tm 5=some (.int .i64 (i:Nat))->
  W (runF envS n ⟨12,AcV_,DB,tm,td, .run, .normal,none⟩) s Q:=by
 intro k
 induction k with
 |zero=>
  intro i n tm s td hi hn hT hx h0 h1 h5
  refine Fu_.u ?_ hT
  simp only[QP,RR,SS,Ap,h0,h5,KsR.len hv]
  refine aG MC_ ?_
  refine XB_.u ?_
  simp only[Ti,RR,SS]
  refine aB (rs:=[4]) (vs:=[.bool true]) rfl (.inl Uq_) J T9 Acs_ (hx.cx.trans hcx) Y ?_
  exact q _ hx
 |succ k ih=>
  intro i n tm s td hi hn hT hx h0 h1 h5
  have hil:i<l.length:=J
  obtain⟨b1,p1,c1,e1,o1⟩:=(hv.ext0 hx).at hil
  obtain⟨b2,p2,c2,e2,o2⟩:=(hw.ext0 hx).at hil
  refine Fu_.u ?_ hT
  simp only[QP,RR,SS,Ap,h0,h5,KsR.len hv]
  refine aJ MC_ ?_
  refine Yp_.u ?_
  simp only[EF_,RR,T.get_set,Nat.reduceEqDiff,reduceIte,h0,h1,h5,e1,e2,Aa,Aj]
  rw[W_dq λs Q=>AA (s:=s) GE hil Q]
  dsimp only
  try simp only[Aa]
  refine aD CL (o1.same (s':=dSt s.mem s.next) rfl rfl) λrd3 hr3=> ?_
  try simp only[Aa]
  refine Eq.mpr (Aj _ _ _ _ _) ?_
  dsimp only
  refine Eq.mpr (Aj _ _ _ _ _) ?_
  dsimp only
  try simp only[Aa]
  rw[W_dq λs Q=>AA (s:=s) GE hil Q]
  dsimp only
  try simp only[Aa]
  refine aD CL (o2.same (s':=dSt s.mem s.next) rfl rfl) λrd7 hr7=> ?_
  rw[AI]
  refine⟨BZ am am, ?_⟩
  refine aK (AnC_ _ _ _ _ _ _ _ _ _ _ _ _ _) ?_
  simp only[SS,Eh]
  generalize hs':(⟨(dSt s.mem s.next).mem,(dSt s.mem s.next).next,s.lim,_,_,s.cx⟩:St)=s1
  have x1:Ext Any Non s s1:=by
   rw[<-hs']
   exact Ext.draw (F:=Any) (Nat.le_refl _) (λ_ _=>rfl) am λ_ _ _ _ _=>trivial
  have y1:=hx.on x1 hb0 λ_ _ h=>h
  refine aG ArF_ ?_
  refine Wx_.u ?_
  have ei:=eiW (i:=i) J
  simp only[Vz,RR,SS,Nat.reduceEqDiff, ↓reduceIte,AY,h5,ei]
  exact ih (i+1) _ _ _ _ J J AnU_ y1 (by simp[T.get_set,h0,e1]) (by simp[T.get_set,h1,e2]) Y
theorem AqQ_ {l:List Int}(hb:s.lim<=s.next)(hl:l.length<=1000)(hv:KsR s v l)(hw:KsR s w l)(hn:10*l.length+60<=n)(q: ∀s1,Ext Any Non s s1->Q (.bool true) s1):
  W (Ac envS (runF envS n) 12 [v,w]) s Q:=by
 have hb0:(s.cxN cxN).lim<=(s.cxN cxN).next:=hb
 refine AaY_ λtm h0 h1=> ?_
 refine Arm_.u ?_
 simp only[QA_,RR,SS]
 refine YI_.u ?_
 simp only[AR_,RR,SS,Nat.reduceEqDiff,reduceCtorEq, ↓reduceIte,h0,h1,KsR.len hv,KsR.len hw,Eh]
 refine aG Apr_ ?_
 refine Aoh_.u ?_
 simp only[Pe_,RR,SS]
 exact AlH_ (s0:=s.cxN cxN) hb0 hl (hv.same rfl rfl) (hw.same rfl rfl) rfl (λs1 x1=>q _ x1.cx') l.length 0 _ _ _ _ J J rfl (Ext.refl _) (an h0) (an h1) Y
end
section
variable {D M n:Nat}{s:St}{k:DkS}{col:Nat->Nat}{a:ByteArray}{Q:Value->St->Prop}
theorem LX_ {room:Int}(hb:s.lim<=s.next)(h0:Own s D 0 (.bool true))(hr:room<0\/16777216<room)(hn:60<=n)(q: ∀s1,Ext Any Non s s1->Q (.int .i64 5) s1):W (Ac envS (runF envS n) 21 [.pointer (some ⟨D,0,none⟩), .int .i64 room]) s Q:=by
 have hb0:(s.cxN cxN).lim<=(s.cxN cxN).next:=hb
 refine QR_ λtm t0 t1=> ?_
 refine Dd_.u ?_
 simp only[NX,RR,SS]
 refine PY_.u ?_
 simp only[MP,RR,SS,reduceCtorEq, ↓reduceIte,t0]
 refine CR hb0 (h0.same rfl rfl) J λs1 m1 n1 x1=> ?_
 refine aG Hh_ ?_
 refine Li_.u ?_
 have fin: ∀(n':Nat) (tm':T Value) (td:List Item),10<=n'->skim 64 td=Ld->T.get tm' 8=some (.bool true)->W (runF envS n' ⟨21,YU_,Ff,tm',td, .run, .normal,none⟩) s1 λp s1=>Q p.1 (s1.cxN s.cx):=by
  intro n' tm' td hn' hT g8
  refine aJ MB_ ?_ hT (by simp[g8])
  refine Afs_.u ?_
  simp only[Kk_,RR,SS]
  refine aB (rs:=[4]) (vs:=[.int .i64 5]) Aaa_ (.inl AgZ_) J L0 Yd x1.cx Y ?_
  exact q _ x1.cx'
 by_cases hneg:room<0
 ·simp only[Kr,RR,SS,Nat.reduceEqDiff, ↓reduceIte,Ap,t1,decide_eq_true hneg]
  exact fin _ _ _ J rfl Y
 ·have e2:decide ((16777216:Int)<room)=true:=decide_eq_true J
  simp only[Kr,RR,SS,Nat.reduceEqDiff,reduceCtorEq, ↓reduceIte,Ap,Ck,t1,decide_eq_false hneg,e2]
  exact fin _ _ _ J rfl Y
theorem AlW_ {room:Nat}(hb:s.lim<=s.next)(hI:DkI s col D M k)(hr:room<=16777216)(hn:60<=n)(q: ∀s1,DkI s1 col D M {k with room:=(room:Nat)}->Ext Any (λx=>col x<1000) s s1->Q (.int .i64 0) s1):W (Ac envS (runF envS n) 21 [.pointer (some ⟨D,0,none⟩), .int .i64 (room:Nat)]) s Q:=
 HG_ hb hI.d0 hI.d2 hr hn λs1 n1 x1 o1=>by
  have c: ∀o,o<7->o≠2-> ¬D+o=D+2:=λo _ h e=>J
  have z: ∀y,y=D+2->col y=0:=λy hy=>hI.kd y J J
  refine q s1 ⟨hI.d0.ext x1 (c 0 al al),hI.d1.ext x1 (c 1 al al),o1,hI.d3.ext x1 (c 3 al al),hI.d4.ext x1 (c 4 al al),hI.d5.ext x1 (c 5 al al),hI.d6.ext x1 (c 6 al al),hI.kd,hI.om.ext x1 λg=> ?_,hI.km,hI.bo,λi hi=>(hI.fl i hi).ext x1 λy hy g=> ?_⟩ (x1.gw hb λy _ h=>by rw[z y h];decide)
  ·have h1:=z _ g
   have h2:=hI.km
   omega
  ·have h1:=z y g
   omega
theorem YX_ {m:Int}(hm:m<0)(hb:s.lim<=s.next)(hI:DkI s col D M k)(hn:100<=n)(q: ∀s1,Ext Any Non s s1->Q (.int .i64 2) s1):W (Ac envS (runF envS n) 25 [.pointer (some ⟨D,0,none⟩), .int .i64 m]) s Q:=by
 have hb0:(s.cxN cxN).lim<=(s.cxN cxN).next:=hb
 have hI0:DkI (s.cxN cxN) col D M k:=hI.same rfl rfl
 refine Ov_ λtm t0 t1=> ?_
 refine AG_.u ?_
 simp only[PW,RR,SS]
 refine PJ_.u ?_
 simp only[PJ,RR,SS,reduceCtorEq, ↓reduceIte,t0]
 refine CR hb0 hI0.d0 J λs1 m1 n1 x1=> ?_
 have hI1:=hI0.same m1 n1
 have n1':s1.next=s.next:=n1
 refine aG Op_ ?_
 refine BC_.u ?_
 have e1:decide (m<0)=true:=decide_eq_true hm
 simp only[Q9,RR,SS,Nat.reduceEqDiff, ↓reduceIte,Ap,t1,e1]
 refine aJ Jc_ ?_
 refine AoG_.u ?_
 simp only[Sl_,RR,SS]
 refine aB (rs:=[4]) (vs:=[.int .i64 2]) AoK_ (.inl Vi_) J NR Dl_ x1.cx Y ?_
 exact q _ x1.cx'
theorem AfE_ (hb:s.lim<=s.next)(hI:DkI s col D M k)(hl:An k.fs a=none)(hn:100<=n)(q: ∀s1,Ext Any Non s s1->Q (.int .i64 0) s1):W (Ac envS (runF envS n) 15 [.pointer (some ⟨D,0,none⟩), .string a]) s Q:=by
 have hb0:(s.cxN cxN).lim<=(s.cxN cxN).next:=hb
 have hI0:DkI (s.cxN cxN) col D M k:=hI.same rfl rfl
 have hv:AG k.fs a= .pointer none:=by unfold AG;rw[hl]
 refine Cd_ λtm t0 t1=> ?_
 refine Js_.u ?_
 simp only[SJ,RR,SS]
 refine MV_.u ?_
 simp only[Rk,RR,SS,Nat.reduceEqDiff,reduceCtorEq, ↓reduceIte,t0]
 refine CR hb0 hI0.d0 J λs1 m1 n1 x1=> ?_
 have hI1:=hI0.same m1 n1
 simp only[SS,reduceCtorEq, ↓reduceIte,t1,Ab B4 al]
 refine aA B7 hI1.d1.at' ?_
 have y1:=x1.thenRd hb0 (D+(0+1))
 refine DE (fs:=k.fs) (mx:=k.mx) (hI1.om.same rfl rfl) ?_
 have y2:=y1.thenRd hb0 M
 have hI2:DkI ((s1.rdN (D+(0+1))).rdN M) col D M k:=hI1.same rfl rfl
 generalize (s1.rdN (D+(0+1))).rdN M=s2 at *
 rw[hv]
 simp only[Fb]
 refine aJ XA ?_
 refine AhI_.u ?_
 simp only[IS_,RR,SS]
 refine aB (rs:=[4]) (vs:=[.int .i64 0]) rfl (.inl Ti_) J SF Sh_ y2.cx Y ?_
 exact q _ y2.cx'
theorem AnD_ {o:Nat}{x:Int}(hb:s.lim<=s.next)(h3:Own s D o (.int .i64 x))(hn:20<=n)(q: ∀s1,Ext Any Non s s1->Q (.int .i64 x) s1):W (Ac envS (runF envS n) 60 [.pointer (some ⟨D,o,none⟩)]) s Q:=by
 have hb0:(s.cxN cxN).lim<=(s.cxN cxN).next:=hb
 refine Wk_ λtm h=> ?_
 refine Ts_.u ?_
 simp only[AB_,RR,SS]
 refine XV_.u ?_
 simp only[OW_,RR,SS,reduceCtorEq, ↓reduceIte,h,Ab Zf al]
 refine W.extF X (m:=IK) X ?_
 show W (M.bind (Am.rdV ⟨D,o,none⟩) λv=>match v with
  | .int .i64 x=>M.pure (Value.int .i64 x)
  |_=>aC) (s.cxN cxN) _
 have h3':Own (s.cxN cxN) D o (.int .i64 x):=h3.same rfl rfl
 refine W.bind (W.rdV h3'.at' (W.pure ?_))
 have z0:=(Ext.refl (F:=Any) (G:=Non) (s.cxN cxN)).thenRd hb0 (D+o)
 refine aB (rs:=[2]) (vs:=[.int .i64 x]) rfl (.inl AmA_) J Ec_ Vp_ z0.cx Y ?_
 exact q _ z0.cx'
theorem Abv_ (hb:s.lim<=s.next)(hI:DkI s col D M k)(hn:100<=n)(q: ∀s1,Ext Any Non s s1->Q (.int .i64 k.steps) s1):W (Ac envS (runF envS n) 38 [.pointer (some ⟨D,0,none⟩)]) s Q:=by
 have hb0:(s.cxN cxN).lim<=(s.cxN cxN).next:=hb
 have hI0:DkI (s.cxN cxN) col D M k:=hI.same rfl rfl
 refine Amc_ λtm t0=> ?_
 refine Aqo_.u ?_
 simp only[GE_,RR,SS]
 refine TL_.u ?_
 simp only[HQ_,RR,SS,reduceCtorEq, ↓reduceIte,t0]
 refine CR hb0 hI0.d0 J λs1 m1 n1 x1=> ?_
 have hI1:=hI0.same m1 n1
 refine aG ArI_ ?_
 refine Ark_.u ?_
 simp only[CM_,RR,SS,reduceCtorEq, ↓reduceIte,t0,Ab Si_ al]
 refine AnD_ (x1.bnd hb0) hI1.d3 J λs2 x2=> ?_
 have y2:=x1.on x2 hb0 λ_ _ h=>h
 refine aB (rs:=[2]) (vs:=[.int .i64 k.steps]) rfl (.inl ZR_) J QN_ AmU_ y2.cx Y ?_
 exact q _ y2.cx'
theorem Acr_ {room:Int}(hb:s.lim<=s.next)(hr:room<0\/16777216<room)(hn:100<=n)(q: ∀s1,Ext Any Non s s1->Q (.tuple #[.pointer none, .int .i64 5]) s1):W (Ac envS (runF envS n) 6 [.int .i64 room]) s Q:=by
 have hb0:(s.cxN cxN).lim<=(s.cxN cxN).next:=hb
 refine OI_ λtm t0=> ?_
 refine Xs.u ?_
 simp only[Mj,RR,SS]
 refine Ep_.u ?_
 simp only[Qk,RR,SS]
 unfold DQ
 refine W.bind (W.newO λs1 n1 x1 o1=> ?_)
 have ea:(s.cxN cxN).next=s.next:=rfl
 rw[ea]at o1 n1 ⊢
 have y1:Ext Any Non (s.cxN cxN) s1:=x1.weak hb0 (λ_ _ _=>trivial) λ_ _ h=>h
 simp only[AI,Ii (Hz_ s.next)]
 refine W.box λs2 n2 x2 r2=> ?_
 rw[FP]at n2 r2
 have n2':s2.next=s1.next+8:=n2
 rw[n1]at r2 n2' ⊢
 have y2:=y1.on x2 hb0 λ_ _ h=>h
 refine Az_.u ?_
 simp only[PA,RR,SS,reduceCtorEq, ↓reduceIte,t0]
 refine LX_ (y2.bnd hb0) (r2 0 _ rfl) hr J λs3 x3=> ?_
 have y3:Ext Any Non (s.cxN cxN) s3:=y2.on x3 hb0 λy hy h=>h
 refine Oh_.u ?_
 have e5:decide ((5:Int)=0)=false:=rfl
 simp only[NW,RR,SS, ↓reduceIte,Cr,e5,Bool.not_false]
 refine aJ ZZ ?_
 refine AbD_.u ?_
 simp only[Kc_,RR,SS,Nat.reduceEqDiff, ↓reduceIte]
 refine aB (rs:=[2,3]) (vs:=[.pointer none, .int .i64 5]) rfl (.inl Aqc_) J M7 Ac_ y3.cx Y ?_
 exact q _ y3.cx'
theorem Arl_ (hb:s.lim<=s.next)(hI:DkI s col D M k)(hz:k.used<=5000000)(q: ∀s1,Ext Any Non s s1->Q (.int .i64 (k.used:Nat)) s1):W (Ac envS (runF envS n) 20 [.pointer (some ⟨D,0,none⟩)]) s Q:=by
 refine W.orc Qf_ (W.used (s:=s) hb hI.d0.at' hI.d1.at' hI.om hI.bo (ns:=k.fs.map λf=>f.sb.length+f.lb.length) am (λi e n h1 h2=>hI.lens i e n h1 h2) λs1 m1 n1 x1=> ?_)
 have e:wrap64 (((k.fs.map λf=>f.sb.length+f.lb.length).sum:Nat):Int)=((k.used:Nat):Int):=by
  show wrap64 ((k.used:Nat):Int)=_
  exact Bh J J
 rw[e]
 exact q s1 x1
end
section
variable {n D M:Nat}{s:St}{k:DkS}{col:Nat->Nat}{a b:ByteArray}{Q:Value->St->Prop}
theorem aftN {s1:St}(hI:DkI s col D M k)(hlen:k.fs.length<=300)(hb:s.lim<=s.next)(x:Ext Any Non s s1):Aft s s1 col col D M k:=⟨hI.ext0 x hlen,λ_ _ _=>rfl,x.gw hb λ_ _ h=>h.elim⟩
theorem Akz_ {bv:Value}{l:List Nat}(hb:s.lim<=s.next)(hI:DkI s col D M k)(hlen:k.fs.length<=290)(hB:Bs s bv l)(hBc: ∀x,BsF bv x->x<s.next/\1000<=col x)(hz:k.used+l.length<=1000000)(hn:10*a.size+1000<=n)
  (q: ∀s1 col' e k',Aft s s1 col col' D M k'->AppD k a l e k'->Q (.int .i64 e) s1):
  W (Ac envS (runF envS n) 19 [.pointer (some ⟨D,0,none⟩), .string a,bv]) s Q:=
 AhQ_ hb hI J hB hBc J J
  (λh1 h2 s1 col' h=>q _ _ _ _ h.aft (.inr (.inl ⟨h1, .inl ⟨h2,rfl⟩,rfl⟩)))
  (λh1 s1 col' h=>q _ _ _ _ h.aft (.inl ⟨h1,rfl,rfl⟩))
  (λh1 h2 h3 s1 col' h=>q _ _ _ _ h.aft (.inr (.inl ⟨h1, .inr ⟨h2,h3,rfl⟩,rfl⟩)))
  (λh1 h2 h3 h4 s1 col' h=>q _ _ _ _ h.aft (.inr (.inr (.inl ⟨h1,⟨h2,h3⟩,h4,rfl,rfl⟩))))
  (λh1 h2 h3 h4 s1 col' blk v b h=>q _ _ _ _ h.aft (.inr (.inr (.inr ⟨h1,⟨h2,h3⟩,h4,rfl,_,_,⟨blk,v,b,rfl⟩,rfl⟩))))
theorem Ajs_ (hb:s.lim<=s.next)(hI:DkI s col D M k)(hlen:k.fs.length<=290)(hz:k.used<=1000000)(hn:1000<=n)
  (q: ∀s1 col' e k',Aft s s1 col col' D M k'->SynD k a e k'->Q (.int .i64 e) s1):
  W (Ac envS (runF envS n) 22 [.pointer (some ⟨D,0,none⟩), .string a]) s Q:=
 Aho_ hb hI J J J
  (λh1 s1 col' h=>q _ _ _ _ h.aft (.inl ⟨h1,rfl,rfl⟩))
  (λh1 h2 s1 col' h=>q _ _ _ _ h.aft (.inr (.inl ⟨h1,⟨h2,rfl⟩,rfl⟩)))
  (λh1 j h2 h4 s1 col' h=>q _ _ _ _ h.aft (.inr (.inr (.inl ⟨h1,⟨j,h2⟩,h4,rfl,rfl⟩))))
  (λh1 j h2 hj h4 s1 col' v b h=>q _ _ _ _ h.aft (.inr (.inr (.inr ⟨h1,⟨j,h2⟩,h4,rfl,_,_,⟨j,hj,h2,v,b,rfl⟩,rfl⟩))))
theorem Aqe_ (hb:s.lim<=s.next)(hI:DkI s col D M k)(hlen:k.fs.length<=290)(hn:1000<=n)
  (q: ∀s1 col' e k',Aft s s1 col col' D M k'->RemD k a e k'->Q (.int .i64 e) s1):
  W (Ac envS (runF envS n) 24 [.pointer (some ⟨D,0,none⟩), .string a]) s Q:=
 AgX_ hb hI hlen J
  (λh1 s1 col' h=>q _ _ _ _ h (.inl ⟨h1,rfl,rfl⟩))
  (λh1 h2 s1 col' h=>q _ _ _ _ h (.inr (.inl ⟨h1,⟨h2,rfl⟩,rfl⟩)))
  (λh1 j h2 h4 s1 col' h=>q _ _ _ _ h (.inr (.inr (.inl ⟨h1,⟨j,h2⟩,h4,rfl,rfl⟩))))
  (λh1 j h2 h4 s1 col' h=>q _ _ _ _ h (.inr (.inr (.inr ⟨h1,⟨j,h2⟩,h4,rfl,_,_,⟨j,(Dh h2),h2,rfl⟩,rfl⟩))))
theorem Zm_ (hb:s.lim<=s.next)(hI:DkI s col D M k)(hlen:k.fs.length<=290)(hn:10*b.size+1000<=n)
  (q: ∀s1 col' e k',Aft s s1 col col' D M k'->RenD k a b e k'->Q (.int .i64 e) s1):
  W (Ac envS (runF envS n) 23 [.pointer (some ⟨D,0,none⟩), .string a, .string b]) s Q:=
 ApV_ hb hI hlen J
  (λh1 s1 col' h=>q _ _ _ _ h (.inl ⟨h1,rfl,rfl⟩))
  (λh1 h2 s1 col' h=>q _ _ _ _ h (.inr (.inl ⟨h1, .inl ⟨h2,rfl⟩,rfl⟩)))
  (λh1 h2 h3 s1 col' h=>q _ _ _ _ h (.inr (.inl ⟨h1, .inr (.inl ⟨h2,h3,rfl⟩),rfl⟩)))
  (λh1 h2 j hj h3 h4 s1 col' h=>q _ _ _ _ h (.inr (.inl ⟨h1, .inr (.inr ⟨h2,⟨j,hj,h3,h4⟩,rfl⟩),rfl⟩)))
  (λh1 h2 j hj h3 h4 h5 s1 col' h=>q _ _ _ _ h (.inr (.inr (.inl ⟨h1,⟨h2,j,hj,h3,h4⟩,h5,rfl,rfl⟩))))
  (λh1 h2 j hj h3 h4 h5 s1 col' fs' mx' hr h=>q _ _ _ _ h (.inr (.inr (.inr ⟨h1,⟨h2,j,hj,h3,h4⟩,h5,rfl,_,_,⟨j,hj,h3,hr⟩,rfl⟩))))
theorem AdE_ {bit:Int}(hb:s.lim<=s.next)(hI:DkI s col D M k)(hlen:k.fs.length<=290)(hz:k.used<=1000000)(hn:1000<=n)(hbit:bit<=9223372036854775807)(hby: ∀f∈k.fs,Byt f.sb/\Byt f.lb)
  (q: ∀s1 col' e k',Aft s s1 col col' D M k'->FlD k a bit e k'->Q (.int .i64 e) s1):
  W (Ac envS (runF envS n) 27 [.pointer (some ⟨D,0,none⟩), .string a, .int .i64 bit]) s Q:=
 AiM_ hb hI J hz J hbit hby
  (λh1 s1 x=>q _ _ _ _ (aftN hI J hb x) (.inl ⟨h1,rfl,rfl⟩))
  (λj hj h1 h2 s1 x=>q _ _ _ _ (aftN hI J hb x) (.inr (.inl ⟨j,hj,h1,h2,rfl,rfl⟩)))
  (λj hj m h1 h2 h3 s1 h x=>q _ _ _ _ ⟨h,λ_ _ _=>rfl,x⟩ (.inr (.inr (.inl ⟨j,hj,m,h1,h2,h3,rfl,rfl⟩))))
  (λj hj m t h1 h2 h3 h4 s1 h x=>q _ _ _ _ ⟨h,λ_ _ _=>rfl,x⟩ (.inr (.inr (.inr ⟨j,hj,m,t,h1,h2,h3,h4,rfl,rfl⟩))))
theorem AeG_ {m:Int}(hb:s.lim<=s.next)(hI:DkI s col D M k)(hlen:k.fs.length<=290)(hn:1000<=n)
  (q: ∀s1 col' e k',Aft s s1 col col' D M k'->FusD k m e k'->Q (.int .i64 e) s1):
  W (Ac envS (runF envS n) 25 [.pointer (some ⟨D,0,none⟩), .int .i64 m]) s Q:=by
 by_cases hm:m<0
 ·exact YX_ hm hb hI J λs1 x=>q _ _ _ _ (aftN hI J hb x) (.inl ⟨hm,rfl,rfl⟩)
 ·obtain⟨t,rfl⟩: ∃t:Nat,m=(t:Nat):=⟨m.toNat,J⟩
  exact AiN_ hb hI J λs1 h x _=>q _ _ _ _ ⟨h,λ_ _ _=>rfl,x⟩ (.inr ⟨J,rfl,rfl⟩)
theorem AaZ_ {m:Int}(hb:s.lim<=s.next)(hI:DkI s col D M k)(hlen:k.fs.length<=290)(hn:1000<=n)
  (q: ∀s1 col' e k',Aft s s1 col col' D M k'->ResD k m e k'->Q (.int .i64 e) s1):
  W (Ac envS (runF envS n) 21 [.pointer (some ⟨D,0,none⟩), .int .i64 m]) s Q:=by
 by_cases hm:m<0\/16777216<m
 ·exact LX_ hb hI.d0 hm J λs1 x=>q _ _ _ _ (aftN hI J hb x) (.inl ⟨hm,rfl,rfl⟩)
 ·obtain⟨t,rfl⟩: ∃t:Nat,m=(t:Nat):=⟨m.toNat,J⟩
  exact AlW_ hb hI J J λs1 h x=>q _ _ _ _ ⟨h,λ_ _ _=>rfl,x⟩ (.inr ⟨J,J,rfl,rfl⟩)
theorem AdJ_ (a:ByteArray):hasB a ⟨#[]⟩=true:=by
 unfold hasB
 have e:(ByteArray.mk #[]).size=0:=rfl
 have e2:(a.extract 0 (ByteArray.mk #[]).size).data.toList=[]:=by
  rw[e]
  apply List.eq_nil_of_length_eq_zero
  rw[Array.length_toList]
  show(a.extract 0 0).size=0
  simp
 rw[e2,e]
 simp
theorem Aob_ {kv:Value}{ks:List Int}{wl:List RF}(hb:s.lim<=s.next)(hI:DkI s col D M k)(hlen:k.fs.length<=290)(h:Rl k.fs wl)(hnm: ∀f∈wl,f.name.size<=1000000)(hz:k.used<=1000000)(hk:KsR s kv ks)(hck: ∀x,KsF kv x->1000<=col x/\x<s.next)(hn:40*k.fs.length+1000<=n)
  (q: ∀s1 col' e k',Aft s s1 col col' D M k'->CraD k wl ks e k'->Q (.int .i64 e) s1):
  W (Ac envS (runF envS n) 26 [.pointer (some ⟨D,0,none⟩),kv]) s Q:=by
 have hl:=h.len
 refine AaE_ hb hI (l':=wl.map RF.name) (p:=pW k.fs wl) (h.nms hnm J) (λa _=>AdJ_ a) (λi hi=> ?_) (λi j hi hj e=>h.pw_inj J J e) (λi hi=> ?_) hz hk hck J λs1 col' fs' h1 h2=>q _ _ _ _ h1.aft ⟨rfl,fs',_,λt ht=> ?_,h2,rfl⟩
 ·obtain⟨hj,_⟩:=h.pw (i:=i) J
  exact hj
 ·have hi':i<wl.length:=by simpa using hi
  obtain⟨_,hj,_⟩:=h.pw hi'
  rw[List.getElem_map]
  exact hj
 ·obtain⟨i,hi,e⟩:=h.pw_sur ht
  exact⟨i,J,e⟩
