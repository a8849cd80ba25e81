import Derived.Test.YtheboekhpelhlaaDSb28
namespace Go.Proofs.Ytheboekhpelhlaa.Am
open Go.RowKit
theorem CX_:JI envS 69=some [.string ⟨#[]⟩, .slice none 0 0, .int .i64 0]:=X
theorem Adc_ (a b:Int){E:Env}{s:St}{xo yo:Operand}{t:Nat}(Q:Value->St->Prop):W (Cl.get (aBin E .lss t xo yo) (.int .i64 a) (.int .i64 b)) s Q=Q (.bool (decide (a<b))) s:=As (Tz _ a b)
def outW (wl:List RF)(a:ByteArray):List RF:=match atW wl a with|some t=>wl.eraseIdx t|none=>wl
def renW (wl:List RF)(i:Nat)(a:ByteArray):List RF:=match wl[i]? with|some f=>insW (outW (wl.eraseIdx i) a) {f with name:=a}|none=>wl
theorem PY (ws:List RW)(i:Nat):(ws.eraseIdx i).map RW.rf=(ws.map RW.rf).eraseIdx i:=Eu _ _ _
theorem row3 {s:St}{b o:Nat}{x y z:Value}(h0:Own s b (o+0) x)(h1:Own s b (o+1) y)(h2:Own s b (o+2) z):Ai s b o [x,y,z]:=λt u e=>by
 match t,e with
 |0,e=>cases e;exact h0
 |1,e=>cases e;exact h1
 |2,e=>cases e;exact h2
 |t+3,e=>simp at e
section
variable {n R:Nat}{s:St}{k:RkS}{a b:ByteArray}{Q:Value->St->Prop}
theorem AmN_ (hb : s.lim <= s.next) (hI : RkI s R k) (hl : k.ws.length <= 800) (hz : ∀ f ∈ k.ws, f.rf.b.length <= 1000000) (hzb : b.size <= 1000000) (hn : 10 * k.ws.length + 10 * b.size + 400 <= n)
    (q0 : k.out = true -> ∀ s1, Ext Any Non s s1 -> Q (.int .i64 10) s1)
    (q1 : k.out = false -> AC b = false -> ∀ s1, Ext Any Non s s1 -> Q (.int .i64 2) s1)
    (q2 : k.out = false -> AC b = true -> atW k.wl a = none -> ∀ s1, Ext Any Non s s1 -> Q (.int .i64 6) s1)
    (q3 : k.out = false -> AC b = true -> ∀ i (hi : i < k.ws.length), atW k.wl a = some i -> k.ws[i].rf.safe < k.ws[i].rf.b.length -> ∀ s1, Ext Any Non s s1 -> Q (.int .i64 9) s1)
    (q4 : k.out = false -> AC b = true -> ∀ i (hi : i < k.ws.length), atW k.wl a = some i -> k.ws[i].rf.b.length <= k.ws[i].rf.safe -> (k.fused = true /\ k.left = 0) -> ∀ s1, Ext Any (In R 0 6) s s1 -> RkI s1 R { k with out := true } -> Q (.int .i64 10) s1)
    (q5 : k.out = false -> AC b = true -> ∀ i (hi : i < k.ws.length), atW k.wl a = some i -> k.ws[i].rf.b.length <= k.ws[i].rf.safe -> ¬ (k.fused = true /\ k.left = 0) -> ∀ s1 k', Rft s s1 R k k' -> k'.wl = (if a == b then k.wl else renW k.wl i b) -> k'.room = k.room -> k'.N = wrap64 (k.N + 1) -> k'.fused = k.fused -> k'.left = (if k.fused then wrap64 (k.left - 1) else k.left) -> k'.out = k.out -> Q (.int .i64 0) s1) :
    W (Ac envS (runF envS n) 29 [.pointer (some ⟨R, 0, none⟩), .string a, .string b]) s Q := by
  have hb0 : (s.cxN cxN).lim <= (s.cxN cxN).next := hb
  have hI0 : RkI (s.cxN cxN) R k := hI.same rfl rfl
  refine ApM_ λtm h0 h1 h2 => ?_
  refine AaT_.u ?_
  simp only [WU, RR, SS]
  refine Aen_.u ?_
  simp only [Bf_, RR, SS, Nat.reduceEqDiff, reduceCtorEq, ↓reduceIte, h0, h1]
 
  have out : ∀ (i : Int) (n' : Nat) (tm' : T Value) (td : List Item) (s1 : St), 10 * k.ws.length + 10 * b.size + 300 <= n' -> skim 64 td = Nj -> Ext Any Non (s.cxN cxN) s1 -> T.get tm' 0 = some (.pointer (some ⟨R, 0, none⟩)) -> T.get tm' 1 = some (.string a) -> T.get tm' 2 = some (.string b) -> T.get tm' 7 = some (.int .i64 i) -> (i < 0 /\ atW k.wl a = none) \/ (∃ j : Nat, i = (j : Nat) /\ atW k.wl a = some j) -> W (runF envS n' ⟨29, Bz_, Bl, tm', td, .run, .normal, none⟩) s1 λp s1 => Q p.1 (s1.cxN s.cx) := by
    intro i n' tm' td s1 hn' hT x1 g0 g1 g2 g7 hi
    have hI1 := hI0.ext0 x1
    refine AoO_.u ?_ hT
    simp only [Cv_, RR, SS, g0, Ab E9 al]
    refine aA BB hI1.r5.at' ?_
    have y2 := x1.thenRd hb0 (R + (0 + 5))
    have hI2 : RkI (s1.rdN (R + (0 + 5))) R k := hI1.same rfl rfl
    generalize s1.rdN (R + (0 + 5)) = s2 at *
    cases ho : k.out with
    | true =>
      refine aJ XU ?_
      refine AmT_.u ?_
      simp only [Fz_, RR, SS]
      refine aB (rs := [6]) (vs := [.int .i64 10]) rfl (.inl Gv) J E5 Gg y2.cx (by simp [T.get_set]) ?_
      exact q0 ho _ y2.cx'
    | false =>
      refine aG XU ?_
      refine AeR_.u ?_
      simp only [FS_, RR, SS, Nat.reduceEqDiff, ↓reduceIte, g2]
      refine PA_ (s := s2) hzb J λs3 m3 n3 x3 => ?_
      have y3 := y2.on x3 hb0 λ_ _ h => h
      have hI3 := hI2.same m3 n3
      simp only [A5]
      cases hnb : AC b with
      | false =>
        refine aJ YG ?_
        refine Aca_.u ?_
        simp only [QZ_, RR, SS]
        refine aB (rs := [6]) (vs := [.int .i64 2]) WA_ (.inl Gv) J E5 Gg y3.cx (by simp [T.get_set]) ?_
        exact q1 ho hnb _ y3.cx'
      | true =>
        refine aG YG ?_
        refine AcH_.u ?_
        simp only [He_, RR, SS, Nat.reduceEqDiff, ↓reduceIte, Ap, g7]
        rcases hi with ⟨hneg, hat⟩ | ⟨j, rfl, hat⟩
        · refine aJ MY_ ?_ rfl (by simp [T.get_set, hneg])
          refine SV_.u ?_
          simp only [PN_, RR, SS]
          refine aB (rs := [6]) (vs := [.int .i64 6]) Aej_ (.inl Gv) J E5 Gg y3.cx (by simp [T.get_set]) ?_
          exact q2 ho hnb hat _ y3.cx'
        · have hj : j < k.ws.length := by
            obtain ⟨h, _⟩ := CO hat
            rwa [aH] at h
          refine aG MY_ ?_
          refine SW_.u ?_
          obtain ⟨c, ev, o0, o1, o2⟩ := hI3.l.at hj
          have hB := hI3.bs _ (List.getElem_mem hj)
          have r0 := hI3.r0
          rw [ev] at r0
          have z1 := hz _ (List.getElem_mem hj)
          simp only [BS_, RR, T.get_set, Nat.reduceEqDiff, reduceIte, g0, g7, Aa, Aj]
          rw [W_dq λs Q => AD (s := s) _ Q]
          dsimp only
          try simp only [Aa]
          rw [W_dq λs Q => Ab (s := s) AM al Q]
          dsimp only
          try simp only [Aa]
          refine aD AN ((r0.same (s' := dSt s3.mem s3.next) rfl rfl).at') λrd3 hr3 => ?_
          try simp only [Aa]
          refine Eq.mpr (Aj _ _ _ _ _) ?_
          dsimp only
          try simp only [Aa]
          rw [W_dq λs Q => AA (s := s) AL hj Q]
          dsimp only
          try simp only [Aa]
          rw [W_dq λs Q => Ab (s := s) Ge al Q]
          dsimp only
          try simp only [Aa]
          refine aD Bv ((o2.same (s' := dSt s3.mem s3.next) rfl rfl).at') λrd7 hr7 => ?_
          try simp only [Aa]
          refine Eq.mpr (Aj _ _ _ _ _) ?_
          dsimp only
          try simp only [Aa]
          rw [W_dq λs Q => AD (s := s) _ Q]
          dsimp only
          try simp only [Aa]
          rw [W_dq λs Q => Ab (s := s) AM al Q]
          dsimp only
          try simp only [Aa]
          refine aD AN ((r0.same (s' := dSt s3.mem s3.next) rfl rfl).at') λrd11 hr11 => ?_
          try simp only [Aa]
          refine Eq.mpr (Aj _ _ _ _ _) ?_
          dsimp only
          try simp only [Aa]
          rw [W_dq λs Q => AA (s := s) AL hj Q]
          dsimp only
          try simp only [Aa]
          rw [W_dq λs Q => Ab (s := s) CB al Q]
          dsimp only
          try simp only [Aa]
          refine aD A2 ((o1.same (s' := dSt s3.mem s3.next) rfl rfl).at') λrd15 hr15 => ?_
          try simp only [Aa, A0, A3, AW]
          rw [W_dq λs Q => Bs.lenq (s' := s) hB BH Q]
          dsimp only
          try simp only [Aa]
          rw [W_dq λs Q => Adc_ (s := s) _ _ Q, AI]
          refine ⟨BZ am am, ?_⟩
          refine aK (Vg_ _ _ _ _ _ _ _ _ _ _ _ _ _ _ _ _ _ _ _ _ _ _ _) ?_
          simp only [SS]
          generalize hs' : (⟨(dSt s3.mem s3.next).mem, (dSt s3.mem s3.next).next, s3.lim, _, _, s3.cx⟩ : St) = s4
          have m4 : s4.mem = s3.mem := by rw [<- hs']; rfl
          have n4 : s4.next = s3.next := by rw [<- hs']; rfl
          have x4 : Ext Any Non s3 s4 := by
            rw [<- hs']
            exact Ext.draw (F := Any) (Nat.le_refl _) (λ_ _ => rfl) am λ_ _ _ _ _ => trivial
          have y4 := y3.on x4 hb0 λ_ _ h => h
          have hI4 := hI3.same m4 n4
          by_cases hsf : k.ws[j].rf.safe < k.ws[j].rf.b.length
          · refine aJ RV_ ?_
            refine Vy_.u ?_
            simp only [RT_, RR, SS]
            refine aB (rs := [6]) (vs := [.int .i64 9]) Apw_ (.inl Gv) J E5 Gg y4.cx (by simp [T.get_set]) ?_
            exact q3 ho hnb j hj hat hsf _ y4.cx'
          · have hsf' : k.ws[j].rf.b.length <= k.ws[j].rf.safe := J
            refine aG RV_ ?_
            refine Anm_.u ?_
            simp only [Al_, RR, SS, reduceCtorEq, ↓reduceIte, g0]
            refine JV (y4.bnd hb0) hI4 J (λhf s5 n5 x5 hI5 => ?_) λhf s5 n5 x5 hI5 => ?_
            · have y5 : Ext Any (In R 0 6) (s.cxN cxN) s5 := (y4.gw hb0 λ_ _ h => h.elim).on x5 hb0 λ_ _ h => h
              simp only [A5, Bool.not_false]
              refine aJ YU ?_
              refine TU_.u ?_
              simp only [TK, RR, SS]
              refine aB (rs := [6]) (vs := [.int .i64 10]) UB_ (.inl Gv) J E5 Gg y5.cx (by simp [T.get_set]) ?_
              exact q4 ho hnb j hj hat hsf' hf _ y5.cx' (hI5.same rfl rfl)
            · have y5 : Ext Any (In R 0 6) (s.cxN cxN) s5 := (y4.gw hb0 λ_ _ h => h.elim).on x5 hb0 λ_ _ h => h
              have hnx5 : s.next <= s5.next := y5.nxt
              simp only [A5, Bool.not_true]
              refine aG YU ?_
              refine ZY_.u ?_
              simp only [Lh_, RR, SS, Nat.reduceEqDiff, ↓reduceIte, g1, g2, IV, baL]
              cases hab : a == b with
              | true =>
                refine aJ OM_ ?_
                refine AjD_.u ?_
                simp only [EX_, RR, SS]
                refine aB (rs := [6]) (vs := [.int .i64 0]) AhD_ (.inl Gv) J E5 Gg y5.cx (by simp [T.get_set]) ?_
                refine q5 ho hnb j hj hat hsf' hf _ _ ⟨hI5.same rfl rfl, (y5.gw hb0 λ_ _ h => .inl h).cx', LE_ rfl rfl⟩ ?_ rfl rfl rfl rfl rfl
                rw [if_pos hab]
                rfl
              | false =>
                refine aG OM_ ?_
                refine AfP_.u ?_
                obtain ⟨c, ev, o0, o1, o2⟩ := hI5.l.at hj
                have ev' : k.L = .slice (some ⟨k.b, 0, none⟩) k.ws.length c := ev
                simp only [Wp, RR, SS, Nat.reduceEqDiff, reduceCtorEq, ↓reduceIte, g0, g7, Ab AM al]
                refine aA AN hI5.r0.at' ?_
                have y6 : Ext Any (In R 0 6) (s.cxN cxN) (s5.rdN (R + (0 + 0))) := y5.on ((Ext.refl (F := Any) (G := Non) s5).thenRd (y5.bnd hb0) (R + (0 + 0))) hb0 λ_ _ h => h.elim
                have w6 := row3 (s := s5.rdN (R + (0 + 0))) (o0.same rfl rfl) (o1.same rfl rfl) (o2.same rfl rfl)
                have hI6 := hI5.same (s' := s5.rdN (R + (0 + 0))) rfl rfl
                have n6 : (s5.rdN (R + (0 + 0))).next = s5.next := rfl
                generalize s5.rdN (R + (0 + 0)) = s6 at *
                simp only [ev', AA AL hj]
                refine W.loadA Hp w6.row rfl λs7 m7 n7 x7 => ?_
                have y7 : Ext Any (In R 0 6) (s.cxN cxN) s7 := y6.on (x7.monoF (F := Any) λ_ _ => trivial) hb0 λ_ _ h => h.elim
                have hI7 := hI6.same m7 n7
                try simp only [SS]
                refine W.alloc CX_ λs8 n8 x8 o8 => ?_
                have y8 := y7.on x8 hb0 λ_ _ h => h.elim
                have hI8 := hI7.ext0 x8
                refine W.store Hp rfl (by show (true && (oneCell k.ws[j].v && (true && true))) = true; rw [(hI5.one _ (List.getElem_mem hj) : oneCell k.ws[j].v = true)]; rfl) (λt ht => ⟨_, o8 t _ (List.getElem?_eq_getElem ht)⟩) λs9 n9 x9 o9 => ?_
                rw [FP] at o9
                have hnx7 : s.next <= s7.next := y7.nxt
                have y9 : Ext Any (In R 0 6) (s.cxN cxN) s9 := y8.on x9 hb0 λx hx h => by have h1 := h.1; have h2 : x < s.next := hx; omega
                have hR7 : R + 6 <= s7.next := by have := hI7.r5.1; omega
                have hI9 := hI8.ext x9 λx hx hF h => by have h1 := hI7.lt x hF; have h2 := h.1; omega
                generalize hC : s7.next = C at *
                refine Aad_.u ?_
                simp only [Tx, RR, SS, Nat.reduceEqDiff, reduceCtorEq, ↓reduceIte, g0, g7]
                refine Ss (i := j) (y9.bnd hb0) hI9 (show k.ws.length <= 1000 by omega) hj J λs10 L1 b1 x10 hI10 hb1 => ?_
                have y10 := y9.on x10 hb0 λ_ _ h => h
                have o10 := Ai.ext o9 x10 λt ht h => by have h1 : C + (0 + t) < R + 0 + 6 := h.2; omega
                replace hI10 : RkI s10 R { k with ws := k.ws.eraseIdx j, L := L1, b := b1, N := wrap64 (k.N + 1), left := if k.fused then wrap64 (k.left - 1) else k.left } := hI10
                have hnx9 : C + 4 ≤ s9.next := by have h1 := n9; have h2 := n8; have h3 : s8.next = C + 3 + 1 := by rw [h2]; rfl
                                                  omega
                generalize hws1 : k.ws.eraseIdx j = ws1 at *
                have hl1 : ws1.length <= k.ws.length := by rw [<- hws1, List.length_eraseIdx_of_lt hj]; omega
                have sub1 : ∀ g ∈ ws1, g ∈ k.ws := λg hg => List.mem_of_mem_eraseIdx (hws1 ▸ hg)
                have hrf1 : ws1.map RW.rf = k.wl.eraseIdx j := by rw [<- hws1, PY]; rfl
               
                have fin : ∀ (n'' : Nat) (tm'' : T Value) (td : List Item) (s' : St) (ws2 : List RW) (L2 : Value) (b2 : Nat), 10 * k.ws.length + 150 <= n'' -> skim 64 td = JY -> Ext Any (In R 0 6) (s.cxN cxN) s' -> RkI s' R { k with ws := ws2, L := L2, b := b2, N := wrap64 (k.N + 1), left := if k.fused then wrap64 (k.left - 1) else k.left } -> (∀ x, MkF 3 ws2.length b2 x -> C < x) -> Ai s' C 0 [.string k.ws[j].rf.name, k.ws[j].v, .int .i64 (k.ws[j].rf.safe : Nat)] -> ws2.length <= k.ws.length -> (∀ g ∈ ws2, g ∈ k.ws) -> ws2.map RW.rf = outW (k.wl.eraseIdx j) b -> T.get tm'' 0 = some (.pointer (some ⟨R, 0, none⟩)) -> T.get tm'' 2 = some (.string b) -> T.get tm'' 8 = some (.pointer (some ⟨C, 0, none⟩)) -> W (runF envS n'' ⟨29, Bz_, Bl, tm'', td, .run, .normal, none⟩) s' λp s1 => Q p.1 (s1.cxN s.cx) := by
                  intro n'' tm'' td s' ws2 L2 b2 hn'' hT'' y' hI' nCm o' hl2 sub2 hrf2 g0 g2 g8
                  have hbk := hI'.lt
                  refine AcX_.u ?_ hT''
                  simp only [Zt, RR, SS, g2, g8, Ab Gy al]
                  refine aI AQ rfl (o' 0 _ rfl) λs1 n1 x1 p1 => ?_
                  have z1 : Ext Any (λy => y = C) s' s1 := x1.weak (y'.bnd hb0) (λ_ _ _ => trivial) λy _ hq => by have h1 := hq.1; have h2 := hq.2; omega
                  have y1 : Ext Any (In R 0 6) (s.cxN cxN) s1 := y'.on z1 hb0 λx hx h => by have h1 : x < s.next := hx; have h2 : x = C := h; omega
                  have hvC : ∀ x, BsF k.ws[j].v x -> x < C := λx hx => by rw [<- hC]; exact hI7.bl _ (List.getElem_mem hj) x hx
                  have nC : ∀ x, RkF R { k with ws := ws2, L := L2, b := b2, N := wrap64 (k.N + 1), left := if k.fused then wrap64 (k.left - 1) else k.left } x -> x ≠ C := λx hF e => by
                    subst e
                    rcases hF with h | h | ⟨g, hg, h⟩
                    · have h1 : x < R + 0 + 6 := h.2; omega
                    · exact absurd (nCm _ h) (Nat.lt_irrefl _)
                    · have h1 := hI7.bl g (sub2 g hg) x h; omega
                  have hI1 := hI'.ext z1 λx _ hF h => nC x hF h
                  have r1 : Ai s1 C 0 [.string b, k.ws[j].v, .int .i64 (k.ws[j].rf.safe : Nat)] := row3 (p1.same rfl rfl) ((o' 1 _ rfl).ext z1 J) ((o' 2 _ rfl).ext z1 J)
                  refine AmR_.u ?_
                  simp only [FM_, RR, SS, g0, g8]
                  refine W.loadA Hp r1.row rfl λs2 m2 n2 x2 => ?_
                  have y2 : Ext Any (In R 0 6) (s.cxN cxN) s2 := y1.on (x2.monoF (F := Any) λ_ _ => trivial) hb0 λ_ _ h => h.elim
                  have hI2 := hI1.same m2 n2
                  have hBj : Bs s2 k.ws[j].v k.ws[j].rf.b := (hI0.bs _ (List.getElem_mem hj)).ext y2 λx hx h => by have h1 := (hI0.br _ (List.getElem_mem hj) x hx).1; have h2 : x < R + 0 + 6 := h.2; omega
                  have hs2 : s.next <= s2.next := y2.nxt
                  refine HE_ (f := ⟨{ k.ws[j].rf with name := b }, k.ws[j].v⟩) (y2.bnd hb0) hI2 (show ws2.length <= 900 by omega) hBj (λx hx => ⟨by have h1 := hI0.bl _ (List.getElem_mem hj) x hx; have h2 : x < s.next := h1; omega, (hI0.br _ (List.getElem_mem hj) x hx).1⟩) (show 10 * ws2.length + 100 <= _ by omega) λs3 L3 b3 x3 hI3 hb3 => ?_
                  have y3 := y2.on x3 hb0 λ_ _ h => h
                  refine Aqb_.u ?_
                  simp only [NC_, RR, SS]
                  refine aB (rs := [6]) (vs := [.int .i64 0]) rfl (.inl ArB_) J E5 Gg y3.cx (by simp [T.get_set]) ?_
                  refine q5 ho hnb j hj hat hsf' hf _ _ ⟨hI3.same rfl rfl, (y3.gw hb0 λ_ _ h => .inl h).cx', λx hx => ?_⟩ ?_ rfl rfl rfl rfl rfl
                  · rcases hx with h | h | ⟨g, hg, h⟩
                    · exact .inl (.inl h)
                    · have h' : b3 + 0 <= x := h.2.1
                      exact .inr J
                    · have hg' : g ∈ insR ws2 (A9 (ws2.map RW.rf) b) ⟨{ k.ws[j].rf with name := b }, k.ws[j].v⟩ := hg
                      unfold insR at hg'
                      rcases List.mem_append.1 hg' with h2 | h2
                      · exact .inl (.inr (.inr ⟨g, sub2 g (List.mem_of_mem_take h2), h⟩))
                      · rcases List.mem_cons.1 h2 with h2 | h2
                        · subst h2
                          exact .inl (.inr (.inr ⟨_, List.getElem_mem hj, h⟩))
                        · exact .inl (.inr (.inr ⟨g, sub2 g (List.mem_of_mem_drop h2), h⟩))
                  · rw [show (if (a == b) = true then k.wl else renW k.wl j b) = renW k.wl j b by rw [hab]; rfl]
                    have e := OE_ ws2 ⟨{ k.ws[j].rf with name := b }, k.ws[j].v⟩
                    show (insR ws2 (A9 (ws2.map RW.rf) b) ⟨{ k.ws[j].rf with name := b }, k.ws[j].v⟩).map RW.rf = _
                    have e' : (insR ws2 (A9 (ws2.map RW.rf) b) ⟨{ k.ws[j].rf with name := b }, k.ws[j].v⟩).map RW.rf = insW (ws2.map RW.rf) { k.ws[j].rf with name := b } := e
                    rw [e', hrf2]
                    unfold renW
                    have hjw : j < k.wl.length := by rw [aH]; exact hj
                    rw [List.getElem?_eq_getElem hjw, aM hj]
                refine YD_.u ?_
                simp only [Td, RR, SS, Nat.reduceEqDiff, reduceCtorEq, ↓reduceIte, g0, g2]
                refine EA (y10.bnd hb0) hI10 (show ws1.length <= 1000 by omega) (show 10 * ws1.length + 60 <= _ by omega) (λh s11 x11 => ?_) λt h s11 x11 => ?_
                · have h' : atW (k.wl.eraseIdx j) b = none := hrf1 ▸ h
                  have y11 := y10.on x11 hb0 λ_ _ h => h.elim
                  refine Xp.u ?_
                  have e1 : decide ((0 : Int) <= -1) = false := rfl
                  simp only [Nz, RR, SS, ↓reduceIte, B9, e1]
                  refine aG GA_ ?_
                  exact fin _ _ _ _ ws1 L1 b1 J rfl y11 (hI10.ext0 x11) (λx hx => by have h1 : b1 + 0 <= x := hx.2.1; omega) (Ai.ext0 o10 x11) hl1 sub1 (by rw [hrf1]; unfold outW; rw [h']) (by simp [T.get_set, g0]) (by simp [T.get_set, g2]) (by simp [T.get_set])
                · have h' : atW (k.wl.eraseIdx j) b = some t := hrf1 ▸ h
                  have ht : t < ws1.length := by
                    obtain ⟨h3, _⟩ := CO h
                    simpa [RkS.wl] using h3
                  have y11 := y10.on x11 hb0 λ_ _ h => h.elim
                  have hI11 := hI10.ext0 x11
                  refine Xp.u ?_
                  have e1 : decide ((0 : Int) <= ((t : Nat) : Int)) = true := decide_eq_true J
                  simp only [Nz, RR, SS, ↓reduceIte, B9, e1]
                  refine aJ GA_ ?_
                  refine Amp_.u ?_
                  simp only [FR_, RR, SS, Nat.reduceEqDiff, reduceCtorEq, ↓reduceIte, g0]
                  refine Ss (i := t) (y11.bnd hb0) hI11 (show ws1.length <= 1000 by omega) ht J λs12 L2 b2 x12 hI12 hb2 => ?_
                  have y12 := y11.on x12 hb0 λ_ _ h => h
                  have hnx11 : s.next <= s11.next := y11.nxt
                  have hx11 := x11.nxt
                  have hx10 := x10.nxt
                  exact fin _ _ _ _ (ws1.eraseIdx t) L2 b2 J AaU_ y12 hI12 (λx hx => by have h1 : b2 + 0 <= x := hx.2.1; omega) (Ai.ext (Ai.ext0 o10 x11) x12 λt ht h => by have h1 : C + (0 + t) < R + 0 + 6 := h.2; omega) (by rw [List.length_eraseIdx_of_lt ht]; omega) (λg hg => sub1 g (List.mem_of_mem_eraseIdx hg)) (by rw [PY, hrf1]; unfold outW; rw [h']) (by simp [T.get_set, g0]) (by simp [T.get_set, g2]) (by simp [T.get_set])
  refine EA hb0 hI0 J J (λhat s1 x1 => ?_) λj hat s1 x1 => ?_
  · try simp only [SS, Nat.reduceEqDiff, reduceCtorEq, ↓reduceIte]
    exact out (-1) _ _ _ _ J rfl x1 (by simp [T.get_set, h0]) (by simp [T.get_set, h1]) (by simp [T.get_set, h2]) (by simp [T.get_set]) (.inl ⟨al, hat⟩)
  · try simp only [SS, Nat.reduceEqDiff, reduceCtorEq, ↓reduceIte]
    exact out (j : Nat) _ _ _ _ J rfl x1 (by simp [T.get_set, h0]) (by simp [T.get_set, h1]) (by simp [T.get_set, h2]) (by simp [T.get_set]) (.inr ⟨j, rfl, hat⟩)
end
def StR (s:St)(v:Value)(l:List ByteArray):Prop:= ∃p c,v= .slice p l.length c/\((l=[]/\p=none/\c=0)\/ ∃b,p=some ⟨b,0,none⟩/\Ai s b 0 (l.map Value.string)/\l.length<=c%capU/\Bu c 1=true)
def StF (v:Value):Nat->Prop:=match v with
 | .slice (some a) n _=>In a.block a.off n
 |_=>Non
theorem StR.len {E:Env}{s s':St}{t z:Nat}{l:List ByteArray}{v:Value}(h:StR s v l)(ht:slN E t=some z)(Q:Value->St->Prop):W (AH E .len [t] [v]) s' Q=Q (.int .i64 (l.length:Nat)) s':=by
 obtain⟨p,c,rfl,_⟩:=h
 exact Bt ht Q
theorem StR.at {s:St}{v:Value}{l:List ByteArray}{i:Nat}(h:StR s v l)(hi:i<l.length): ∃b c,v= .slice (some ⟨b,0,none⟩) l.length c/\Own s b (0+i*1) (.string l[i])/\StF v (b+(0+i*1)):=by
 obtain⟨p,c,rfl,h|⟨b,rfl,h,_⟩⟩:=h
 ·rw[h.1]at hi
  cases hi
 ·refine⟨b,c,rfl, ?_,⟨by show b+0<=_;omega,by show _<b+0+l.length;omega⟩⟩
  have:=h i (.string l[i]) (by simp[hi])
  rwa [Nat.mul_one]
theorem StR.ext {F G:Nat->Prop}{s s':St}{v:Value}{l:List ByteArray}(h:StR s v l)(e:Ext F G s s')(hG: ∀x,StF v x-> ¬G x):StR s' v l:=by
 obtain⟨p,c,rfl,h|⟨b,rfl,h,h2⟩⟩:=h
 ·exact⟨p,c,rfl, .inl h⟩
 ·refine⟨_,c,rfl, .inr ⟨b,rfl,h.ext e λi hi=>hG _ ⟨by show b+0<=_;omega, ?_⟩,h2⟩⟩
  rw[List.length_map]at hi
  show b+(0+i)<b+0+l.length
  omega
theorem StR.ext0 {F:Nat->Prop}{s s':St}{v:Value}{l:List ByteArray}(h:StR s v l)(e:Ext F Non s s'):StR s' v l:=h.ext e λ_ _=>id
theorem StR.same {s s':St}{v:Value}{l:List ByteArray}(h:StR s v l)(hm:s'.mem=s.mem)(hn:s'.next=s.next):StR s' v l:=by
 obtain⟨p,c,rfl,h|⟨b,rfl,h,h2⟩⟩:=h
 ·exact⟨p,c,rfl, .inl h⟩
 ·exact⟨_,c,rfl, .inr ⟨b,rfl,λi u e=>(h i u e).same hm hn,h2⟩⟩
theorem NmR.st {s:St}{v:Value}{l:List ByteArray}{b:Nat}(h:NmR s v l b)(hz:l.length<capU):StR s v l/\ ∀x,StF v x->b<=x:=by
 rcases h with⟨rfl,h0,_⟩|⟨h,h0⟩
 ·have:l=[]:=List.eq_nil_of_length_eq_zero h0
  subst this
  exact⟨⟨none,0,rfl, .inl ⟨rfl,rfl,rfl⟩⟩,λx hx=>hx.elim⟩
 ·have e:=h.val
  refine⟨⟨_,_,e, .inr ⟨b,rfl,λi u hi=>h.own i u hi, ?_,D9 hz al⟩⟩,λx hx=> ?_⟩
  ·rw[EZ hz]
   exact Nat.le_refl _
  ·rw[e]at hx
   have:=hx.1
   have h1:b+0<=x:=this
   omega
theorem WE_ {l:List ByteArray}{p:ByteArray}(h: ∀a∈l,hasB a p=true):l.filter (λa=>hasB a p)=l:=List.filter_eq_self.2 h
theorem Zn {α:Type}: ∀(l:List α) (i:Nat) (x:α),i<l.length->(l.set i x).take (i+1)=l.take i++[x]
 |[],_,_,h=>by cases h
 |y::l,0,x,_=>rfl
 |y::l,i+1,x,h=>by
  show y::(l.set i x).take (i+1)=y::(l.take i++[x])
  rw[Zn l i x (by simpa using h)]
theorem VP {α:Type}: ∀(l:List α) (i j:Nat) (x:α),i<j->(l.set i x).drop j=l.drop j
 |[],_,_,_,_=>rfl
 |y::l,_,0,_,h=>by cases h
 |y::l,0,j+1,x,_=>rfl
 |y::l,i+1,j+1,x,h=>by
  show(l.set i x).drop j=l.drop j
  exact VP l i j x J
section
variable {n P:Nat}{s:St}{a p:ByteArray}{Q:Value->St->Prop}
theorem AdA_ {l:List ByteArray}{v:Value}{Q:Value×FrameMode->St->Prop}{s0:St}(hb0:s0.lim<=s0.next)(hl:l.length<=300)(hr:StR s0 v l)(hP:Own s0 P 0 (.string p))(hcx:s0.cx=cxN)
  (q1:(∀a∈l,hasB a p=true)-> ∀s1,s1.mem=s0.mem->s1.next=s0.next->Ext Any Non s0 s1->Q (.int .i64 (-1), .run) s1)
  (q2: ∀i (hi:i<l.length),(∀j (h:j<l.length),j<i->hasB l[j] p=true)->hasB l[i] p=false-> ∀s1,s1.mem=s0.mem->s1.next=s0.next->Ext Any Non s0 s1->Q (.int .i64 (i:Nat), .run) s1):
  ∀(k i n:Nat) (tm:T Value) (s:St) (td:List Item),i+k=l.length->10*k+200<=n->skim 64 td=Ix->(∀j (h:j<l.length),j<i->hasB l[j] p=true)->Ext Any Non s0 s->s.mem=s0.mem->s.next=s0.next->
  T.get tm 0=some v->T.get tm 1=some (.func (.func 64) #[] #[.pointer (some ⟨P,0,none⟩)])->T.get tm 7=some (.int .i64 (l.length:Nat))->T.get tm 8=some (.int .i64 (i:Nat))->
  W (runF envS n ⟨75,Ui,Dk,tm,td, .run, .normal,none⟩) s Q:=by
 intro k
 induction k with
 |zero=>
  intro i n tm s td hi hn hT hok hx hm hnx h0 h1 h7 h8
  refine Lq.u ?_ hT
  simp only[HI,RR,SS,Ap,h7,h8]
  refine aG J0 ?_
  refine EC_.u ?_
  simp only[NN,RR,SS]
  refine aB (rs:=[4]) (vs:=[.int .i64 (-1)]) rfl (.inl Aq_) J Jh PX (hx.cx.trans hcx) Y ?_
  refine q1 (λa ha=> ?_) s hm hnx hx
  obtain⟨j,hj,rfl⟩:=List.getElem_of_mem ha
  exact hok j hj J
 |succ k ih=>
  intro i n tm s td hi hn hT hok hx hm hnx h0 h1 h7 h8
  have hil:i<l.length:=J
  obtain⟨b,c,rfl,ho,_⟩:=hr.at hil
  refine Lq.u ?_ hT
  simp only[HI,RR,SS,Ap,h7,h8]
  refine aJ J0 ?_
  refine JA_.u ?_
  simp only[QZ,RR,SS,Nat.reduceEqDiff, ↓reduceIte,h8]
  refine Y8.u ?_
  simp only[PP,RR,SS,Nat.reduceEqDiff,reduceCtorEq, ↓reduceIte,h0,h1,AA BP hil]
  refine aA AQ (ho.same hm hnx).at' ?_
  have y1:=hx.thenRd hb0 (b+(0+i*1))
  try simp only[Kp]
  refine NH (P:=P) (y1.bnd hb0) ((hP.same hm hnx).same rfl rfl) J λs2 m2 n2 x2=> ?_
  have y2:=y1.on x2 hb0 λ_ _ h=>h
  cases hk:hasB l[i] p with
  |false=>
   refine aJ Q6 ?_
   refine Amh_.u ?_
   simp only[Lj_,RR,SS,Nat.reduceEqDiff, ↓reduceIte]
   refine aB (rs:=[4]) (vs:=[.int .i64 (i:Nat)]) rfl (.inl AbM_) J Jh PX (y2.cx.trans hcx) Y ?_
   exact q2 i hil hok hk _ (m2.trans hm) (n2.trans hnx) y2
  |true=>
   refine aG Q6 ?_
   refine OQ_.u ?_
   have ei:=eiW (i:=i) J
   simp only[QY,RR,SS,Nat.reduceEqDiff, ↓reduceIte,AY,h8,ei]
   exact ih (i+1) _ _ _ _ J J Yh (λj h hj=>by
    by_cases e:j=i
    ·subst e;exact hk
    ·exact hok j h J) y2 (m2.trans hm) (n2.trans hnx) (an h0) (an h1) (an h7) Y
theorem AnJ_ {E:Env}{t:Nat}{v:Value}{s:St}(Q:Value->St->Prop):W (AH E .clear [t] [v]) s Q=W (EV E t v) s Q:=rfl
theorem YL_:elT envS 66=some (1,16,[.string ⟨#[]⟩]):=X
theorem W.clearS {b o m c:Nat}{s:St}{Q:Value->St->Prop}(hm:m<=1000)(own: ∀i,i<m-> ∃u,Own s b (o+i) u)(q: ∀s1,s1.next=s.next->Ext (In b o m) (In b o m) s s1->Q undef s1):W (AH envS .clear [66] [.slice (some ⟨b,o,none⟩) m c]) s Q:=by
 obtain⟨i,e,ie,h1,h2,h3,h4,_,h5⟩:=LJ YL_
 have e1:(rep m ie.zero).length=m:=by
  rw[Gt,h5]
  show m*1=m
  omega
 rw[AnJ_]
 unfold EV
 refine W.bind (W.ti h1 ?_)
 rw[h2]
 refine W.bind (W.ti h3 (W.chk ?_ (W.bind (W.wrL (by rw[e1];exact own) ?_ λs1 n1 x1 r1=>W.pure (q s1 n1 (by rw[e1]at x1;exact x1))))))
 ·rw[h4,Nat.mul_one,Nat.ble_eq_true_of_le (show m<=16777216 by omega)]
  rfl
 ·rw[List.all_eq_true]
  intro x hx
  obtain⟨j,hj,rfl⟩:=List.getElem_of_mem hx
  have g:=Sb ie.zero m j (by rw[Gt]at hj;exact hj)
  rw[List.getElem?_eq_getElem hj]at g
  have hz: ∀z∈ie.zero,oneCell z=true:=by rw[h5];simp;rfl
  exact hz _ (List.mem_of_getElem? g.symm)
theorem AcK_ {l:List ByteArray}{b c:Nat}{Q:Value×FrameMode->St->Prop}{s0:St}(hb0:s0.lim<=s0.next)(hl:l.length<=300)(hc:l.length<=c%capU)(hok:Bu c 1=true)(hP:Own s0 P 0 (.string p))(hPb: ¬In b 0 l.length P)(hcx:s0.cx=cxN)
  (q: ∀s1 v',Ext Any (In b 0 l.length) s0 s1->StR s1 v' (l.filter λa=>hasB a p)->(∀x,StF v' x->In b 0 l.length x)->Q (v', .run) s1):
  ∀(k j n:Nat) (tm:T Value) (s:St) (td:List Item) (cur:List ByteArray),j+k=l.length->10*k+200<=n->skim 64 td=LH->Ext Any (In b 0 l.length) s0 s->cur.length=l.length->Ai s b 0 (cur.map Value.string)->cur.drop j=l.drop j->cur.take ((l.take j).filter λa=>hasB a p).length=(l.take j).filter (λa=>hasB a p)->((l.take j).filter λa=>hasB a p).length<j->
  T.get tm 0=some (.slice (some ⟨b,0,none⟩) l.length c)->T.get tm 1=some (.func (.func 64) #[] #[.pointer (some ⟨P,0,none⟩)])->T.get tm 5=some (.int .i64 (((l.take j).filter λa=>hasB a p).length:Nat))->T.get tm 6=some (.int .i64 (j:Nat))->
  W (runF envS n ⟨63,Wp_,Cs,tm,td, .run, .normal,none⟩) s Q:=by
 intro k
 induction k with
 |zero=>
  intro j n tm s td cur hj hn hT hx hcl hr hd ht hlt h0 h1 h5 h6
  have hj':j=l.length:=J
  subst hj'
  rw[List.take_length]at ht hlt h5
  generalize hi:(l.filter λa=>hasB a p).length=i at *
  refine Nb_.u ?_ hT
  simp only[Om,RR,SS,Ap,h0,h6,Bt BP]
  refine aG Ff_ ?_
  refine Aer_.u ?_
  simp only[Rf_,RR,SS,Nat.reduceEqDiff,reduceCtorEq, ↓reduceIte,h0,h5]
  rw[CW (l:=i) (h:=l.length) BP rfl rfl J hc hok]
  rw[if_pos (show i<c%capU by omega)]
  refine W.clearS J (λq hq=>⟨.string (cur[i+q]'J), ?_⟩) λs1 n1 x1=> ?_
  ·have:=hr (i+q) (.string (cur[i+q]'J)) (by rw[List.getElem?_map,List.getElem?_eq_getElem J];rfl)
   rw[show 0+i*1+q=0+(i+q) by omega]
   exact this
  have y1:Ext Any (In b 0 l.length) s0 s1:=hx.on x1 hb0 λx _ h=>⟨by have:=h.1;omega,by have:=h.2;omega⟩
  have r1:Ai s1 b 0 ((l.filter λa=>hasB a p).map Value.string):=by
   rw[<-ht]
   intro t u hu
   rw[List.getElem?_map]at hu
   obtain⟨z,hz,rfl⟩:=Option.map_eq_some_iff.1 hu
   have htl:t<i:=by
    have:=(List.getElem?_eq_some_iff.1 hz).1
    rw[List.length_take]at this
    omega
   rw[List.getElem?_take_of_lt htl]at hz
   refine(hr t (.string z) (by rw[List.getElem?_map,hz];rfl)).ext x1 λh=> ?_
   have:=h.1
   omega
  refine Abf_.u ?_
  simp only[Iu_,RR,SS,Nat.reduceEqDiff,reduceCtorEq, ↓reduceIte,h0,h5]
  rw[CW (l:=0) (h:=i) BP rfl rfl (Nat.zero_le _) J hok]
  rw[if_pos (show 0<c%capU by omega)]
  refine aB (rs:=[4]) (vs:=[.slice (some ⟨b,0+0*1,none⟩) (i-0) (c-0)]) rfl (.inl AdY_) J KV PZ (y1.cx.trans hcx) Y ?_
  refine q s1 _ y1 ⟨some ⟨b,0,none⟩,c,by rw[hi];rfl, .inr ⟨b,rfl,r1,J,hok⟩⟩ λx hx=>⟨by have:=hx.1;omega, ?_⟩
  have h2:x<b+(0+0*1)+(i-0):=hx.2
  omega
 |succ k ih=>
  intro j n tm s td cur hj hn hT hx hcl hr hd ht hlt h0 h1 h5 h6
  have hjl:j<l.length:=J
  have hjc:j<cur.length:=J
  have ej:cur[j]=l[j]:=by
   have e1:(cur.drop j)[0]?=(l.drop j)[0]?:=by rw[hd]
   rw[List.getElem?_drop,List.getElem?_drop,Nat.add_zero,List.getElem?_eq_getElem hjc,List.getElem?_eq_getElem hjl]at e1
   simpa using e1
  have etk:l.take (j+1)=l.take j++[l[j]]:=by rw[List.take_add_one,List.getElem?_eq_getElem hjl];rfl
  generalize hi:((l.take j).filter λa=>hasB a p).length=i at *
  have ho:Own s b (0+j*1) (.string l[j]):=by
   have:=hr j (.string cur[j]) (by simp[hjc])
   rw[ej]at this
   rwa [Nat.mul_one]
  refine Nb_.u ?_ hT
  simp only[Om,RR,SS,Ap,h0,h6,Bt BP]
  refine aJ Ff_ ?_
  refine AfH_.u ?_
  simp only[Pc_,RR,SS,Nat.reduceEqDiff,reduceCtorEq, ↓reduceIte,h0,h6,AA BP hjl]
  refine aA AQ ho.at' ?_
  have y1:=hx.on ((Ext.refl (F:=Any) (G:=Non) s).thenRd (hx.bnd hb0) (b+(0+j*1))) hb0 λ_ _ h=>h.elim
  have r1:Ai (s.rdN (b+(0+j*1))) b 0 (cur.map Value.string):=λi u e=>(hr i u e).same rfl rfl
  generalize s.rdN (b+(0+j*1))=s1 at *
  refine TO_.u ?_
  simp only[Gk_,RR,SS,Nat.reduceEqDiff, ↓reduceIte,h1,Kp]
  refine NH (P:=P) (y1.bnd hb0) (hP.ext y1 hPb) J λs2 m2 n2 x2=> ?_
  have y2:=y1.on x2 hb0 λ_ _ h=>h.elim
  have r2:Ai s2 b 0 (cur.map Value.string):=λi u e=>(r1 i u e).same m2 n2
  simp only[A5,Bool.not_not]
  have ei:=eiW (i:=j) J
  have dn:cur.drop (j+1)=l.drop (j+1):=by
   have:=congrArg (List.drop 1) hd
   rwa [List.drop_drop,List.drop_drop]at this
  cases hk:hasB l[j] p with
  |false=>
   have ef:(l.take (j+1)).filter (λa=>hasB a p)=(l.take j).filter λa=>hasB a p:=by
    rw[etk,List.filter_append]
    simp[hk]
   refine aG LH_ ?_
   refine AQ_.u ?_
   simp only[Sx,RR,SS,Nat.reduceEqDiff, ↓reduceIte,AY,h6,ei]
   exact ih (j+1) _ _ _ _ cur J J BK_ y2 hcl r2 dn (by rw[ef,hi];exact ht) (by rw[ef,hi];omega) (an h0) (an h1) (by rw[ef,hi];simp[T.get_set,h5]) Y
  |true=>
   have ef:(l.take (j+1)).filter (λa=>hasB a p)=((l.take j).filter λa=>hasB a p)++[l[j]]:=by
    rw[etk,List.filter_append]
    simp[hk]
   have el:((l.take (j+1)).filter λa=>hasB a p).length=i+1:=by rw[ef,List.length_append,hi];rfl
   refine aJ LH_ ?_
   refine Ahz_.u ?_
   simp only[Fc_,RR,SS,Nat.reduceEqDiff,reduceCtorEq, ↓reduceIte,h0,h5,AA BP (show i<l.length by omega)]
   refine aI AQ rfl (u:= .string (cur[i]'J)) (by
    have:=r2 i (.string (cur[i]'J)) (by rw[List.getElem?_map,List.getElem?_eq_getElem J];rfl)
    rwa [Nat.mul_one]) λs3 n3 x3 o3=> ?_
   have y3:Ext Any (In b 0 l.length) s0 s3:=y2.on x3 hb0 λx _ h=>⟨by have:=h.1;omega,by have:=h.2;omega⟩
   have r3:Ai s3 b 0 ((cur.set i l[j]).map Value.string):=by
    intro t u hu
    by_cases e:t=i
    ·subst e
     rw[List.getElem?_map,List.getElem?_set_self J]at hu
     have:u= .string l[j]:=by injection hu with hu;exact hu.symm
     rw[this]
     rwa [Nat.mul_one]at o3
    ·rw[List.getElem?_map,List.getElem?_set_ne J]at hu
     refine(r2 t u (by rw[List.getElem?_map];exact hu)).ext x3 λh=> ?_
     have:=h.1
     have:=h.2
     omega
   have ei2:wrap64 ((i:Nat)+1:Int)=((i+1:Nat):Int):=by
    rw[Bh J J];simp
   refine Yi_.u ?_
   simp only[KP_,RR,SS,Nat.reduceEqDiff, ↓reduceIte,AY,h5,ei2]
   refine AQ_.u ?_ AiP_
   simp only[Sx,RR,SS,Nat.reduceEqDiff, ↓reduceIte,AY,h6,ei]
   exact ih (j+1) _ _ _ _ (cur.set i l[j]) J J BK_ y3 (by rw[List.length_set];exact hcl) r3 (by rw[VP _ _ _ _ J];exact dn) (by rw[el,ef,Zn _ _ _ J,ht]) (by rw[el];omega) (an h0) (an h1) (by rw[el];simp[T.get_set]) Y
theorem Aqa_ {l:List ByteArray}{v:Value}(hb:s.lim<=s.next)(hl:l.length<=300)(hr:StR s v l)(hP:Own s P 0 (.string p))(hPv: ¬StF v P)(hn:20*l.length+600<=n)(q: ∀s1 v',Ext Any (StF v) s s1->StR s1 v' (l.filter λa=>hasB a p)->(∀x,StF v' x->StF v x)->Q v' s1):W (Ac envS (runF envS n) 63 [v, .func (.func 64) #[] #[.pointer (some ⟨P,0,none⟩)]]) s Q:=by
 have hb0:(s.cxN cxN).lim<=(s.cxN cxN).next:=hb
 refine Vy λtm h0 h1=> ?_
 refine EG_.u ?_
 simp only[NT,RR,SS]
 refine HK_.u ?_
 simp only[PS,RR,SS,Nat.reduceEqDiff,reduceCtorEq, ↓reduceIte,h0,h1]
 refine Ok_ λtm2 g0 g1=> ?_
 refine Sp_.u ?_
 simp only[Oo,RR,SS]
 refine ZG.u ?_
 simp only[RU,RR,SS,reduceCtorEq, ↓reduceIte,g0,StR.len hr BP]
 refine AdA_ (P:=P) (s0:=(s.cxN cxN).cxN cxN) (l:=l) (v:=v) hb hl (StR.same hr rfl rfl) (hP.same rfl rfl) rfl (λhall s1 m1 n1 x1=> ?_) (λi hi hlo hhi s1 m1 n1 x1=> ?_) l.length 0 _ _ _ _ J J rfl (λj h hj=>J) (Ext.refl _) rfl rfl (an g0) (an g1) Y Y
 ·show W _ (s1.cxN cxN) _
  try simp only[SS]
  refine Pr.u ?_
  simp only[Kb,RR,SS, ↓reduceIte,BJ,decide_true]
  refine aJ Qe ?_
  refine Bn_.u ?_
  simp only[N8,RR,SS,reduceCtorEq, ↓reduceIte,h0]
  refine aB (rs:=[4]) (vs:=[v]) rfl (.inl ZI) J KV PZ rfl Y ?_
  refine q _ v ?_ (by rw[WE_ hall];exact StR.same (StR.same hr m1 n1) rfl rfl) λ_ h=>h
  exact(show Ext Any Non s (s1.cxN s.cx)from⟨x1.nxt,x1.lim,rfl,x1.mem,x1.rd,x1.wr⟩).gw hb λ_ _ h=>h.elim
 ·show W _ (s1.cxN cxN) _
  try simp only[SS]
  refine Pr.u ?_
  have en:decide (((i:Nat):Int)= -1)=false:=decide_eq_false J
  simp only[Kb,RR,SS,reduceCtorEq, ↓reduceIte,BJ]
  refine aG Qe ?_
  refine Apk_.u ?_
  have ei:=eiW (i:=i) J
  simp only[QB_,RR,SS,Nat.reduceEqDiff, ↓reduceIte,AY,ei]
  obtain⟨pp,c,rfl,hh|⟨b,rfl,hrow,hcc,hok⟩⟩:=hr
  ·rw[hh.1]at hi
   cases hi
  have e1:(l.take i).filter (λa=>hasB a p)=l.take i:=List.filter_eq_self.2 λa ha=>by
   obtain⟨j,hj,rfl⟩:=List.getElem_of_mem ha
   rw[List.length_take]at hj
   rw[List.getElem_take]
   exact hlo j J J
  have e2:(l.take (i+1)).filter (λa=>hasB a p)=l.take i:=by
   rw[List.take_add_one,List.getElem?_eq_getElem hi,List.filter_append,e1]
   simp[hhi]
  have e3:((l.take (i+1)).filter λa=>hasB a p).length=i:=by rw[e2,List.length_take];omega
  have sf: ∀x,In b 0 l.length x->StF (.slice (some ⟨b,0,none⟩) l.length c) x:=λx h=>h
  refine AcK_ (P:=P) (p:=p) (l:=l) (b:=b) (c:=c) (s0:=s1.cxN cxN) (x1.bnd hb0) hl hcc hok ((hP.same m1 n1).same rfl rfl) (λh=>hPv (sf _ h)) rfl (λs2 v' x2 st2 f2=> ?_) (l.length-(i+1)) (i+1) _ _ _ _ l J J rfl (Ext.refl _) rfl (λt u e=>((hrow t u e).same m1 n1).same rfl rfl) rfl (by rw[e3,e2]) (by rw[e3];omega) (an h0) (an h1) (by rw[e3];simp[T.get_set]) Y
  refine q _ v' ?_ (StR.same st2 rfl rfl) f2
  have z1:Ext Any Non (s.cxN cxN) (s1.cxN cxN):=⟨x1.nxt,x1.lim,rfl,x1.mem,x1.rd,x1.wr⟩
  exact((z1.gw hb0 λ_ _ h=>h.elim).on x2 hb0 λ_ _ h=>sf _ h).cx'
theorem UK {D M:Nat}{k:DkS}{col:Nat->Nat}(hb:s.lim<=s.next)(hI:DkI s col D M k){l':List ByteArray}(hN:NmsTo (k.fs.map FileS.name) l')(hn:20*k.fs.length+800<=n)(q: ∀s1 v,StR s1 v (l'.filter λa=>hasB a p)->(∀x,StF v x->s.next<=x)->Ext Any Non s s1->Q v s1):W (Ac envS (runF envS n) 41 [.pointer (some ⟨D,0,none⟩), .string p]) s Q:=by
 have hb0:(s.cxN cxN).lim<=(s.cxN cxN).next:=hb
 have hI0:DkI (s.cxN cxN) col D M k:=hI.same rfl rfl
 have hlen:k.fs.length<=300:=by have:=hN.len;simpa using this
 refine WV λtm t0 t1=> ?_
 refine Kn_.u ?_
 simp only[NA,RR,SS,t1]
 refine W.box λs1 n1 x1 o1=> ?_
 have ea:(s.cxN cxN).next=s.next:=rfl
 rw[CK (show oneCell (.string p)=true from rfl)]at n1 o1
 rw[ea]at o1 n1 ⊢
 have n1':s1.next=s.next+2:=n1
 have y1:Ext Any Non (s.cxN cxN) s1:=x1.weak hb0 (λ_ _ _=>trivial) λ_ _ h=>h
 have hI1:=hI0.ext0 x1 hlen
 have oP:Own s1 s.next 0 (.string p):=o1 0 _ rfl
 refine Ck_.u ?_
 simp only[Q3,RR,SS,reduceCtorEq, ↓reduceIte,t0]
 refine CR (y1.bnd hb0) hI1.d0 J λs2 m2 n2 x2=> ?_
 have y2:=y1.on x2 hb0 λ_ _ h=>h
 have hI2:=hI1.same m2 n2
 have oP2:=oP.same m2 n2
 refine aG Pf_ ?_
 refine TV.u ?_
 simp only[Oq,RR,SS,reduceCtorEq, ↓reduceIte,t0,Ab B4 al]
 refine aA B7 hI2.d1.at' ?_
 have y3:=y2.thenRd hb0 (D+(0+1))
 have hI3:DkI (s2.rdN (D+(0+1))) col D M k:=hI2.same rfl rfl
 have oP3:Own (s2.rdN (D+(0+1))) s.next 0 (.string p):=oP2.same rfl rfl
 have n3:(s2.rdN (D+(0+1))).next=s.next+2:=n2.trans n1'
 generalize s2.rdN (D+(0+1))=s3 at *
 refine W.orc DE_ (W.keysQ λs4 n4 x4 o4=> ?_)
 have y4:=y3.on x4 hb0 λ_ _ h=>h
 have hI4:=hI3.ext0 x4 hlen
 have oP4:=oP3.ext0 x4
 rw[n3]at o4 n4 ⊢
 refine W.orc Pj_ (W.sortedP (y4.bnd hb0) o4 hI4.om hI4.bo hN λs5 v mk x5=> ?_)
 have y5:=y4.on x5 hb0 λ_ _ h=>h
 have oP5:=oP4.ext0 x5
 refine FA_.u ?_
 simp only[Mu,RR,SS,Nat.reduceEqDiff, ↓reduceIte]
 have hll:l'.length=k.fs.length:=by have:=hN.len';simpa using this
 have hr:NmR s5 v l' s4.next:=by
  unfold NmR
  rw[hll]
  exact mk
 obtain⟨hst,hsf⟩:=hr.st (Nat.lt_of_le_of_lt (show l'.length<=300 by omega) al)
 have oP6:s.next+2<=s4.next:=J
 refine Aqa_ (P:=s.next) (y5.bnd hb0) J hst oP5 (λh=>by have:=hsf _ h;omega) J λs6 v' x6 st6 f6=> ?_
 have y6:Ext Any Non (s.cxN cxN) s6:=y5.on x6 hb0 λx hx h=>by
  have:=hsf _ h
  have h0:x<s.next:=hx
  omega
 refine aB (rs:=[4]) (vs:=[v']) rfl (.inl Aj_) J RB HU_ y6.cx Y ?_
 exact q _ v' (StR.same st6 rfl rfl) (λx hx=>by have:=hsf _ (f6 x hx);omega) y6.cx'
end
theorem AmQ_:elT envS 66=some (1,16,[.string ⟨#[]⟩]):=X
theorem Abm_:appT envS 66 66=some (1,16,false,[.string ⟨#[]⟩]):=X
theorem MkS.stR {s:St}{v:Value}{l:List ByteArray}{b:Nat}(h:MkS s 1 l.length (l.map Value.string) v b)(hz:l.length<capU):StR s v l/\ ∀x,StF v x->b<=x:=NmR.st (show NmR s v l b from h) hz
section
variable {n R:Nat}{s:St}{k:RkS}{p:ByteArray}{Q:Value->St->Prop}
theorem Aqd_ {Q:Value×FrameMode->St->Prop}{s0:St}(hb0:s0.lim<=s0.next)(hI0:RkI s0 R k)(hl:k.ws.length<=1000)(hcx:s0.cx=cxN)
  (q: ∀s1 v,Ext Any Non s0 s1->StR s1 v ((k.wl.map RF.name).filter λa=>hasB a p)->(∀x,StF v x->s0.next<=x)->Q (v, .run) s1):
  ∀(m i n:Nat) (tm:T Value) (s:St) (td:List Item) (v:Value) (b:Nat),i+m=k.ws.length->20*m+30<=n->skim 64 td=Jl->Ext Any Non s0 s->(b=0/\v= .slice none 0 0\/s0.next<=b)->MkS s 1 (((k.wl.map RF.name).take i).filter λa=>hasB a p).length ((((k.wl.map RF.name).take i).filter λa=>hasB a p).map Value.string) v b->T.get tm 0=some (.pointer (some ⟨R,0,none⟩))->T.get tm 1=some (.string p)->T.get tm 5=some v->T.get tm 6=some (.int .i64 (i:Nat))->
  W (runF envS n ⟨42,PN,CE,tm,td, .run, .normal,none⟩) s Q:=by
 intro m
 have hlen:(k.wl.map RF.name).length=k.ws.length:=by rw[List.length_map,aH]
 induction m with
 |zero=>
  intro i n tm s td v b hi hn hT hx hbb hm h0 h1 h5 h6
  have hI:=hI0.ext0 hx
  refine Sq_.u ?_ hT
  simp only[Rv,RR,SS,h0,h6,Ab AM al]
  refine aA AN hI.r0.at' ?_
  have y:=hx.thenRd hb0 (R+(0+0))
  simp only[Ap,hI.l.len AL]
  refine aG Wg ?_
  refine Ahc_.u ?_
  simp only[Yt,RR,SS,Nat.reduceEqDiff, ↓reduceIte,h5]
  refine aB (rs:=[4]) (vs:=[v]) rfl (.inl AgW_) J Lz_ Th_ (y.cx.trans hcx) Y ?_
  rw[List.take_of_length_le J]at hm
  have hz:((k.wl.map RF.name).filter λa=>hasB a p).length<capU:=by
   have:=List.length_filter_le (λa=>hasB a p) (k.wl.map RF.name)
   exact Nat.lt_of_le_of_lt (show _<=1000 by omega) al
  obtain⟨hs,hf⟩:=MkS.stR hm hz
  refine q _ v y (hs.same rfl rfl) λx hx=> ?_
  rcases hbb with⟨_,rfl⟩|h
  ·exact hx.elim
  ·have:=hf x hx
   omega
 |succ m ih=>
  intro i n tm s td v b hi hn hT hx hbb hm h0 h1 h5 h6
  have hI:=hI0.ext0 hx
  have hil:i<k.ws.length:=J
  have hiw:i<(k.wl.map RF.name).length:=J
  have ei:=eiW (i:=i) J
  have en:(k.wl.map RF.name)[i]=k.ws[i].rf.name:=by rw[List.getElem_map,aM hil]
  have etk:(k.wl.map RF.name).take (i+1)=(k.wl.map RF.name).take i++[k.ws[i].rf.name]:=by rw[List.take_add_one,List.getElem?_eq_getElem hiw,en];rfl
  refine Sq_.u ?_ hT
  simp only[Rv,RR,SS,h0,h6,Ab AM al]
  refine aA AN hI.r0.at' ?_
  have y:=hx.thenRd hb0 (R+(0+0))
  have hI1:RkI (s.rdN (R+(0+0))) R k:=hI.same rfl rfl
  have hm1:=hm.same (s':=s.rdN (R+(0+0))) rfl rfl
  generalize s.rdN (R+(0+0))=s1 at *
  simp only[Ap,hI.l.len AL]
  refine aJ Wg ?_
  refine Afv_.u ?_
  obtain⟨c,ev,n0,_,_⟩:=hI1.l.at hil
  simp only[Qn_,RR,SS,Nat.reduceEqDiff,reduceCtorEq, ↓reduceIte,h0,h6,Ab AM al]
  refine aA AN hI1.r0.at' ?_
  have y2:=y.thenRd hb0 (R+(0+0))
  simp only[ev,AA AL hil,Ab Gy al]
  refine aA AQ (n0.same rfl rfl).at' ?_
  have y3:=y2.thenRd hb0 (k.b+(0+i*3+0))
  have hm3:=hm1.same (s':=(s1.rdN (R+(0+0))).rdN (k.b+(0+i*3+0))) rfl rfl
  generalize (s1.rdN (R+(0+0))).rdN (k.b+(0+i*3+0))=s3 at *
  refine ZN_.u ?_
  have nxt: ∀(n':Nat) (tm':T Value) (td:List Item) (s':St) (v':Value) (b':Nat),n<=n'+12->skim 64 td=Lv->Ext Any Non s0 s'->(b'=0/\v'= .slice none 0 0\/s0.next<=b')->MkS s' 1 (((k.wl.map RF.name).take (i+1)).filter λa=>hasB a p).length ((((k.wl.map RF.name).take (i+1)).filter λa=>hasB a p).map Value.string) v' b'->T.get tm' 0=some (.pointer (some ⟨R,0,none⟩))->T.get tm' 1=some (.string p)->T.get tm' 5=some v'->T.get tm' 6=some (.int .i64 (i:Nat))->W (runF envS n' ⟨42,PN,CE,tm',td, .run, .normal,none⟩) s' Q:=by
   intro n' tm' td s' v' b' hn' hT' y' hbb' hm' g0 g1 g5 g6
   refine AjR_.u ?_ hT'
   simp only[Vh,RR,SS,AY,g6,ei]
   exact ih (i+1) _ _ _ _ v' b' J J Aqs_ y' hbb' hm' (an g0) (an g1) (an g5) Y
  have chk: ∀(bb:Bool) (n':Nat) (tm':T Value) (td:List Item),n<=n'+8->skim 64 td=KS->bb=hasB k.ws[i].rf.name p->T.get tm' 37=some (.bool bb)->T.get tm' 0=some (.pointer (some ⟨R,0,none⟩))->T.get tm' 1=some (.string p)->T.get tm' 5=some v->T.get tm' 6=some (.int .i64 (i:Nat))->T.get tm' 7=some (.string k.ws[i].rf.name)->W (runF envS n' ⟨42,PN,CE,tm',td, .run, .normal,none⟩) s3 Q:=by
   intro bb n' tm' td hn' hT' hbq g37 g0 g1 g5 g6 g7
   cases bb with
   |false=>
    have ef:((k.wl.map RF.name).take (i+1)).filter (λa=>hasB a p)=((k.wl.map RF.name).take i).filter λa=>hasB a p:=by
     rw[etk,List.filter_append]
     simp[<-hbq]
    refine aG Ky_ ?_ hT' (by simp[g37])
    exact nxt _ _ _ _ v b J rfl y3 hbb (by rw[ef];exact hm3) g0 g1 g5 g6
   |true=>
    have ef:((k.wl.map RF.name).take (i+1)).filter (λa=>hasB a p)=(((k.wl.map RF.name).take i).filter λa=>hasB a p)++[k.ws[i].rf.name]:=by
     rw[etk,List.filter_append]
     simp[<-hbq]
    refine aJ Ky_ ?_ hT' (by simp[g37])
    refine Akc_.u ?_
    simp only[Mk_,RR,SS,g5,g7]
    refine aQ (y3.bnd hb0) (r:=[.string k.ws[i].rf.name]) AmQ_ al rfl (BD al) λs4 n4 x4 o4=> ?_
    have y4:=y3.on x4 hb0 λ_ _ h=>h
    have hm4:=hm3.ext0 x4
    rw[DL]
    have hfl:=List.length_filter_le (λa=>hasB a p) ((k.wl.map RF.name).take i)
    have htk:((k.wl.map RF.name).take i).length<=1000:=by rw[List.length_take];omega
    refine W.appV (y4.bnd hb0) Abm_ hm4 (FQ (n:=1) (c:=1) o4.row rfl).g al al J rfl rfl λs5 v5 b5 hb5 mk5 x5=> ?_
    have hn3:s0.next<=s3.next:=y3.nxt
    have hn4:s0.next<=s4.next:=y4.nxt
    have hb5':s0.next<=b5:=by
     rcases hb5 with⟨_,h⟩|h
     ·exact absurd h al
     ·have h':s4.next<=b5:=h
      omega
    have y5:Ext Any Non s0 s5:=y4.on x5 hb0 λx hx h=>by
     have hx':x<s0.next:=hx
     have h1:b+0<=x:=h.2.1
     rcases hbb with⟨h2,h3⟩|h2
     ·rcases hm4 with h4|⟨h4,_⟩
      ·rw[h4.2.1]at h
       exact Ct h
      ·have h5:=h4.val
       rw[h3]at h5
       cases h5
     ·omega
    refine nxt _ _ _ _ v5 b5 J VK_ y5 (.inr hb5') ?_ (an g0) (an g1) Y (an g6)
    rw[ef,List.length_append,List.map_append]
    exact mk5
  by_cases hle:p.size<=k.ws[i].rf.name.size
  ·have e0:decide (((p.size:Nat):Int)<=((k.ws[i].rf.name.size:Nat):Int))=true:=decide_eq_true J
   simp only[SL,RR,SS,Nat.reduceEqDiff, ↓reduceIte,B9,h1,CA A8,e0]
   rw[Z5 (l:=0) (h:=p.size) A8 rfl rfl (Nat.zero_le _) hle]
   simp only[IV]
   exact chk _ _ _ _ J rfl (by unfold hasB;rw[decide_eq_true hle,Bool.true_and]) (by rw[T.get_set,if_pos rfl]) (an h0) (an h1) (an h5) (an h6) Y
  ·have e0:decide (((p.size:Nat):Int)<=((k.ws[i].rf.name.size:Nat):Int))=false:=decide_eq_false J
   simp only[SL,RR,SS,Nat.reduceEqDiff, ↓reduceIte,B9,h1,CA A8,e0,Bool.false_eq_true]
   exact chk _ _ _ _ J rfl (by unfold hasB;rw[decide_eq_false hle,Bool.false_and]) (by rw[T.get_set,if_pos rfl]) (an h0) (an h1) (an h5) (an h6) Y
theorem Ja_ (hb:s.lim<=s.next)(hI:RkI s R k)(hl:k.ws.length<=1000)(hn:20*k.ws.length+100<=n)(q: ∀s1 v,Ext Any Non s s1->StR s1 v ((k.wl.map RF.name).filter λa=>hasB a p)->(∀x,StF v x->s.next<=x)->Q v s1):
  W (Ac envS (runF envS n) 42 [.pointer (some ⟨R,0,none⟩), .string p]) s Q:=by
 have hb0:(s.cxN cxN).lim<=(s.cxN cxN).next:=hb
 refine YA_ λtm h0 h1=> ?_
 refine ApD_.u ?_
 simp only[EY_,RR,SS]
 refine AiU_.u ?_
 simp only[JL_,RR,SS]
 refine Ve_.u ?_
 simp only[Wi,RR,SS]
 exact Aqd_ (s0:=s.cxN cxN) hb0 (hI.same rfl rfl) hl rfl (λs1 v x1 h1 h2=>q _ v x1.cx' (h1.same rfl rfl) h2) k.ws.length 0 _ _ _ _ (.slice none 0 0) 0 J J rfl (Ext.refl _) (.inl ⟨rfl,rfl⟩) (.inl ⟨rfl,rfl,rfl⟩) (an h0) (an h1) Y Y
end
section
variable {n R:Nat}{s:St}{k:RkS}{a:ByteArray}{bit:Int}{Q:Value->St->Prop}
def BC (l:List Nat)(m:Nat):List Nat:=l.set (m/8) (l.getD (m/8) 0^^^2^(m%8))
theorem Agg_ (hb:s.lim<=s.next)(hI:RkI s R k)(hl:k.ws.length<=900)(hz: ∀f∈k.ws,f.rf.b.length<=1000000)(hby: ∀f∈k.ws,Byt f.rf.b)(hbit:bit<=9223372036854775807)(hn:10*k.ws.length+200<=n)
  (q1:atW k.wl a=none-> ∀s1,Ext Any Non s s1->Q (.int .i64 6) s1)
  (q2: ∀i (hi:i<k.ws.length),atW k.wl a=some i->(bit<0\/ ∃m:Nat,bit=(m:Nat)/\8*k.ws[i].rf.b.length<=m)-> ∀s1,Ext Any Non s s1->Q (.int .i64 5) s1)
  (q3: ∀i (hi:i<k.ws.length) (m:Nat),atW k.wl a=some i->bit=(m:Nat)->m<8*k.ws[i].rf.b.length-> ∀s1 v,Rft s s1 R k {k with ws:=k.ws.set i ⟨{k.ws[i].rf with b:=BC k.ws[i].rf.b m},v⟩}->Q (.int .i64 0) s1):
  W (Ac envS (runF envS n) 33 [.pointer (some ⟨R,0,none⟩), .string a, .int .i64 bit]) s Q:=by
 have hb0:(s.cxN cxN).lim<=(s.cxN cxN).next:=hb
 have hI0:RkI (s.cxN cxN) R k:=hI.same rfl rfl
 refine AbV_ λtm h0 h1 h2=> ?_
 refine Amv_.u ?_
 simp only[IB_,RR,SS]
 refine AfQ_.u ?_
 simp only[Wy,RR,SS,Nat.reduceEqDiff,reduceCtorEq, ↓reduceIte,h0,h1]
 refine EA hb0 hI0 J J (λhat s1 x1=> ?_) λj hat s2 y2=> ?_
 ·try simp only[SS,Nat.reduceEqDiff,reduceCtorEq, ↓reduceIte]
  refine Es_.u ?_
  have e1:decide ((-1:Int)<0)=true:=rfl
  simp only[Rx,RR,SS, ↓reduceIte,Ap,e1]
  refine aJ JD_ ?_
  refine Wo_.u ?_
  simp only[X2,RR,SS]
  refine aB (rs:=[6]) (vs:=[.int .i64 6]) rfl (.inl Yq_) J KG SH x1.cx Y ?_
  exact q1 hat _ x1.cx'
 ·have hj:j<k.ws.length:=by
   obtain⟨h,_⟩:=CO hat
   rwa [aH]at h
  have hI2:=hI0.ext0 y2
  refine Es_.u ?_
  have e1:decide (((j:Nat):Int)<0)=false:=decide_eq_false J
  simp only[Rx,RR,SS, ↓reduceIte,Ap,e1]
  refine aG JD_ ?_
  refine ApN_.u ?_
  have z1:=hz _ (List.getElem_mem hj)
  have err: ∀(n':Nat) (tm':T Value) (td:List Item) (s':St),10<=n'->skim 64 td=JN->Ext Any Non (s.cxN cxN) s'->T.get tm' 29=some (.bool true)->(bit<0\/ ∃m:Nat,bit=(m:Nat)/\8*k.ws[j].rf.b.length<=m)->W (runF envS n' ⟨33,Vm_,CI,tm',td, .run, .normal,none⟩) s' λp s1=>Q p.1 (s1.cxN s.cx):=by
   intro n' tm' td s' hn' hT' y' g29 hc
   refine aJ Pb_ ?_ hT' (by simp[g29])
   refine AgD_.u ?_
   simp only[LD_,RR,SS]
   refine aB (rs:=[6]) (vs:=[.int .i64 5]) rfl (.inl Up_) J KG SH y'.cx Y ?_
   exact q2 j hj hat hc _ y'.cx'
  by_cases hneg:bit<0
  ·simp only[M0,RR,SS,Nat.reduceEqDiff,reduceCtorEq, ↓reduceIte,Ap,h2,decide_eq_true hneg]
   exact err _ _ _ _ J rfl y2 Y (.inl hneg)
  ·obtain⟨m,rfl⟩: ∃m:Nat,bit=(m:Nat):=⟨bit.toNat,J⟩
   simp only[M0,RR,SS,Nat.reduceEqDiff,reduceCtorEq, ↓reduceIte,Ap,h0,h2,decide_eq_false hneg,Ab AM al]
   refine aA AN hI2.r0.at' ?_
   have y3:=y2.thenRd hb0 (R+(0+0))
   have hI3:RkI (s2.rdN (R+(0+0))) R k:=hI2.same rfl rfl
   generalize s2.rdN (R+(0+0))=s3 at *
   obtain⟨c,ev,_,n1,_⟩:=hI3.l.at hj
   simp only[ev,AA AL hj,Ab CB al]
   refine aA A2 n1.at' ?_
   have y4:=y3.thenRd hb0 (k.b+(0+j*3+1))
   have hI4:RkI (s3.rdN (k.b+(0+j*3+1))) R k:=hI3.same rfl rfl
   generalize s3.rdN (k.b+(0+j*3+1))=s4 at *
   have hB4:=hI4.bs _ (List.getElem_mem hj)
   simp only[B9,Bs.lenq hB4 BH,AgF_ (n:=k.ws[j].rf.b.length) J]
   by_cases hge:8*k.ws[j].rf.b.length<=m
   ·have e5:decide (((8*k.ws[j].rf.b.length:Nat):Int)<=((m:Nat):Int))=true:=decide_eq_true J
    simp only[e5]
    exact err _ _ _ _ J rfl y4 Y (.inr ⟨m,rfl,hge⟩)
   ·have hm:m<8*k.ws[j].rf.b.length:=J
    have e5:decide (((8*k.ws[j].rf.b.length:Nat):Int)<=((m:Nat):Int))=false:=decide_eq_false J
    simp only[e5]
    refine aG Pb_ ?_
    refine AfW_.u ?_
    simp only[Ca_,RR,SS,Nat.reduceEqDiff,reduceCtorEq, ↓reduceIte,h0,Ab AM al]
    refine aQ (y4.bnd hb0) (r:=[]) Lm al rfl (BD al) λs5 n5 x5 r5=> ?_
    have y5:=y4.on x5 hb0 λ_ _ h=>h
    have hI5:=hI4.ext0 x5
    refine aA AN hI5.r0.at' ?_
    have y6:=y5.thenRd hb0 (R+(0+0))
    have hI6:RkI (s5.rdN (R+(0+0))) R k:=hI5.same rfl rfl
    have n6:(s5.rdN (R+(0+0))).next=s5.next:=rfl
    generalize s5.rdN (R+(0+0))=s6 at *
    obtain⟨c6,ev6,_,n16,_⟩:=hI6.l.at hj
    simp only[ev6,AA AL hj,Ab CB al]
    refine aA A2 n16.at' ?_
    have y7:=y6.thenRd hb0 (k.b+(0+j*3+1))
    have hI7:RkI (s6.rdN (k.b+(0+j*3+1))) R k:=hI6.same rfl rfl
    have n7:(s6.rdN (k.b+(0+j*3+1))).next=s5.next:=n6
    generalize s6.rdN (k.b+(0+j*3+1))=s7 at *
    have hB7:=hI7.bs _ (List.getElem_mem hj)
    refine W.appBy (y7.bnd hb0) (EmB.nil (b:=s4.next)) hB7 (by simpa using z1) λs8 v8 b8 hb8 m8 x8=> ?_
    have x8':Ext Any Non s7 s8:=(x8.monoF λ_ _=>trivial).gw (y7.bnd hb0) λ_ _ h=>(Ct h).elim
    have y8:=y7.on x8' hb0 λ_ _ h=>h
    have hI8:=hI7.ext0 x8'
    rw[List.nil_append]at m8
    have hs4:s.next<=s4.next:=y4.nxt
    have hs5:s4.next<=s5.next:=x5.nxt
    have hb8':s.next<=b8:=by rcases hb8 with h|h<;>omega
    have hin:m/8<k.ws[j].rf.b.length:=J
    have mk:MkS s8 1 k.ws[j].rf.b.length (u8l k.ws[j].rf.b) v8 b8:=by
     rcases m8 with⟨_,h,_⟩|h
     ·omega
     ·exact .inr h
    have hFl: ∀x,BsF v8 x->x<s8.next:=λx hx=>m8.lt hx
    refine Agu_.u ?_
    obtain⟨c8,ev8,ob⟩:=mk.get hin
    have hbv:k.ws[j].rf.b.getD (m/8) 0<256:=by
     rw[List.getD_eq_getElem?_getD,List.getElem?_eq_getElem hin]
     exact hby _ (List.getElem_mem hj) _ (List.getElem_mem hin)
    have hpw:2^(m%8)<2^8:=Nat.pow_lt_pow_right al (Nat.mod_lt _ al)
    have hx8:k.ws[j].rf.b.getD (m/8) 0^^^2^(m%8)<256:=Nat.xor_lt_two_pow (n:=8) hbv hpw
    simp only[Ii_,RR,T.get_set,Nat.reduceEqDiff,reduceIte,h2,Aa,Aj,ev8]
    rw[W_dq λs Q=>JP (s:=s) (m:=m) J Q]
    dsimp only
    try simp only[Aa]
    refine Eq.mpr (Aj _ _ _ _ _) ?_
    dsimp only
    refine Eq.mpr (Aj _ _ _ _ _) ?_
    dsimp only
    try simp only[Aa]
    rw[W_dq λs Q=>JP (s:=s) (m:=m) J Q]
    dsimp only
    try simp only[Aa]
    rw[W_dq λs Q=>AA (s:=s) BH hin Q]
    dsimp only
    try simp only[Aa]
    refine aD H1 (((show Own s8 b8 (0+m/8*1) _ by rw[Nat.mul_one,Nat.zero_add];exact ob).same (s':=dSt s8.mem s8.next) rfl rfl).at') λrd7 hr7=> ?_
    try simp only[Aa]
    refine Eq.mpr (Aj _ _ _ _ _) ?_
    dsimp only
    try simp only[Aa]
    rw[W_dq λs Q=>UD (s:=s) (m:=m) Q]
    dsimp only
    try simp only[Aa]
    rw[W_dq λs Q=>Fv_ (s:=s) (k:=m%8) (Nat.mod_lt _ al) Q]
    dsimp only
    try simp only[Aa]
    rw[W_dq λs Q=>NR_ (s:=s) hx8 Q]
    dsimp only
    try simp only[Aa]
    rw[W_dq λs Q=>AA (s:=s) BH hin Q,AI]
    refine⟨BZ am am, ?_⟩
    refine aK (AoQ_ _ _ _ _ _ _ _ _ _ _ _ _ _ _ _ _ _ _) ?_
    simp only[SS]
    generalize hs':(⟨(dSt s8.mem s8.next).mem,(dSt s8.mem s8.next).next,s8.lim,_,_,s8.cx⟩:St)=s9
    have m9:s9.mem=s8.mem:=by rw[<-hs'];rfl
    have n9:s9.next=s8.next:=by rw[<-hs'];rfl
    have x9:Ext Any Non s8 s9:=by
     rw[<-hs']
     exact Ext.draw (F:=Any) (Nat.le_refl _) (λ_ _=>rfl) am λ_ _ _ _ _=>trivial
    have y9:=y8.on x9 hb0 λ_ _ h=>h
    have hI9:=hI8.same m9 n9
    have ob9:Own s9 b8 (0+m/8*1) (.int .u8 (k.ws[j].rf.b.getD (m/8) 0:Nat)):=by rw[Nat.mul_one,Nat.zero_add];exact ob.same m9 n9
    refine aI H1 rfl ob9 λs10 n10 x10 o10=> ?_
    rw[Nat.mul_one,Nat.zero_add]at x10 o10
    have mk9:=mk.same m9 n9
    have mk10:=mk9.put hin n10 x10 o10
    have hlen:(BC k.ws[j].rf.b m).length<capU:=Nat.lt_of_le_of_lt (show _<=1000000 by unfold BC;rw[List.length_set];exact z1) al
    have y10:Ext Any Non (s.cxN cxN) s10:=y9.on x10 hb0 λx hx h=>by
     have hx':x<s.next:=hx
     have h1:b8+m/8<=x:=h.1
     omega
    have hI10:RkI s10 R k:=hI9.ext (x10.monoF (F:=Any) λ_ _=>trivial) λx _ hF h=>by
     have h1:=hI0.lt x hF
     have h1':x<s.next:=h1
     have h2:b8+m/8<=x:=h.1
     omega
    have hB10:Bs s10 v8 (BC k.ws[j].rf.b m):=mk10.bs hlen
    have hone:oneCell v8=true:=by rw[ev8];rfl
    rw[<-ev8]at *
    refine VR_.u ?_
    simp only[TF,RR,SS,Nat.reduceEqDiff,reduceCtorEq, ↓reduceIte,h0,Ab AM al]
    refine aA AN hI10.r0.at' ?_
    have y11:=y10.thenRd hb0 (R+(0+0))
    have hI11:RkI (s10.rdN (R+(0+0))) R k:=hI10.same rfl rfl
    have hB11:=hB10.same (s':=s10.rdN (R+(0+0))) rfl rfl
    have n11:(s10.rdN (R+(0+0))).next=s8.next:=n10.trans n9
    generalize s10.rdN (R+(0+0))=s11 at *
    obtain⟨c11,ev11,_,n111,_⟩:=hI11.l.at hj
    simp only[ev11,AA AL hj,Ab CB al]
    refine aI A2 hone n111 λs12 n12 x12 o12=> ?_
    have hp:0<k.ws.length:=J
    have inL:MkF 3 k.ws.length k.b (k.b+(j*3+1)):=⟨hp,J,by show _<k.b+0+(k.ws.length*3+1);omega⟩
    have z12:Ext Any (λy=>y=k.b+(j*3+1)) s11 s12:=x12.weak (y11.bnd hb0) (λ_ _ _=>trivial) λy _ hq=>by have h1:=hq.1;have h2:=hq.2;omega
    have o12':Own s12 k.b (j*3+1) v8:=by rw[show 0+j*3+1=j*3+1 by omega]at o12;exact o12
    have hF: ∀x,BsF v8 x->s.next<=x/\x<s8.next:=λx hx=>⟨by have:=m8.f hx;omega,hFl x hx⟩
    have hR:R+6<=s.next:=by have:=hI.r5.1;omega
    have hI12:=hI11.put (i:=j) (r:=1) (f:=⟨{k.ws[j].rf with b:=BC k.ws[j].rf.b m},v8⟩) hj al n12 z12 o12' (Ll hj rfl rfl) (hB11.ext z12 λx hx h=>by have h1:=hF x hx;have h2:x=_:=h;have h3:=hI0.l.lt _ inL;have h4:k.b+(j*3+1)<s.next:=h3;omega) λx hx=>⟨by have:=hF x hx;omega,by have:=hF x hx;omega,λh=>by have h1:=hF x hx;have h2:=hI0.l.lt x h;have h3:x<s.next:=h2;omega⟩
    have y12:Ext Any (RkG R k) (s.cxN cxN) s12:=(y11.gw hb0 λ_ _ h=>h.elim).on z12 hb0 λy _ h=>by
     have h':y=_:=h
     subst h'
     exact .inr inL
    refine AgE_.u ?_
    simp only[ZL,RR,SS]
    refine aB (rs:=[6]) (vs:=[.int .i64 0]) rfl (.inl Yr_) J KG SH y12.cx Y ?_
    exact q3 j hj m hat rfl hm _ v8 ⟨hI12.same rfl rfl,y12.cx',Sy (s:=s) (R:=R) (i:=j) (k:=k) (f:=⟨{k.ws[j].rf with b:=BC k.ws[j].rf.b m},v8⟩) λx hx=> .inr (hF x hx).1⟩
end
theorem MkS.pre {s:St}{m:List Nat}{v:Value}{b kk:Nat}(h:MkS s 1 m.length (u8l m) v b)(hk:kk<=m.length)(hz:m.length<capU): ∃v',(∀(s':St) (Q:Value->St->Prop),W (AZ envS 32 v none (some (.int .i64 (kk:Nat)))) s' Q=Q v' s')/\Bs s v' (m.take kk)/\ ∀x,BsF v' x->MkF 1 m.length b x:=by
 rcases h with⟨rfl,h0,_⟩|⟨h,h0⟩
 ·have hm:m=[]:=List.eq_nil_of_length_eq_zero h0
  subst hm
  have:kk=0:=by simpa using hk
  subst this
  exact⟨.slice none 0 0,λs' Q=>HT (lo:=none) (hi:=some (.int .i64 ((0:Nat):Int))) Bp rfl rfl Q, .inl ⟨rfl,rfl⟩,λx hx=>hx.elim⟩
 ·have e:=h.val
  have hc:(capU*((b+m.length*1)*1024+1)+m.length)%capU=m.length:=EZ hz
  have hok:Bu (capU*((b+m.length*1)*1024+1)+m.length) 1=true:=D9 hz al
  generalize capU*((b+m.length*1)*1024+1)+m.length=C at *
  obtain⟨o',e1,e2,e3,e4,e5⟩:=Bs.sub' (b:=b) (o:=0) (c:=C) (i:=0) (j:=kk) (l:=m) (Nat.zero_le _) hk J hok (λi u hu=>(h.own i u hu).at')
  rw[List.drop_zero]at e1 e2 e4 e5
  refine⟨_,λs' Q=> ?_, .inr ⟨b,o',C-0,e1,e2,e3,e4⟩,λx hx=> ?_⟩
  ·rw[e]
   exact CW (l:=0) (h:=kk) (lo:=none) (hi:=some (.int .i64 (kk:Nat))) Bp rfl rfl (Nat.zero_le _) J hok Q
  ·rw[e1]at hx
   have h1:b+o'<=x:=hx.1
   have h2:x<b+o'+(m.take kk).length:=hx.2
   rw[List.length_take]at h2
   refine⟨h0,J, ?_⟩
   rcases e5 with e5|e5
   ·omega
   ·rw[List.length_take]at e5
    omega
section
variable {n D M j kk:Nat}{s:St}{k:DkS}{col:Nat->Nat}{tm:T Value}{td:List Item}{Q:Value×FrameMode->St->Prop}
theorem AnQ_ (hb0:s.lim<=s.next)(hI0:DkI s col D M k)(hj:j<k.fs.length)(t7:T.get tm 7=some (.pointer (some ⟨k.fs[j].blk,0,none⟩)))(t8:T.get tm 8=some (.int .i64 (kk:Nat)))(hkk:kk<=k.fs[j].lb.length)(hused:k.fs[j].sb.length+k.fs[j].lb.length<=1000000)(hlen:k.fs.length<=300)(hT:skim 64 td=Hy)(hn:20<=n)
  (q: ∀td' s1 v b,skim 64 td'=Pc->DkI s1 (paint col s.next (2+3*j+1)) D M {k with fs:=k.fs.set j (k.fs[j].kept v b (k.fs[j].sb++k.fs[j].lb.take kk))}->Ext Any (λx=>col x<1000) s s1->W (runF envS (n-1) ⟨26,HF,BK,tm,td', .run, .normal,none⟩) s1 Q):
  W (runF envS n ⟨26,HF,BK,tm,td, .run, .normal,none⟩) s Q:=by
 have g:=hI0.fl j hj
 have k0:=g.k k.fs[j].blk (Nat.le_refl _) J
 have k1:=g.k (k.fs[j].blk+1) J J
 obtain⟨lv',hsl,hbl,hbf⟩:=g.ml.pre hkk (Nat.lt_of_le_of_lt (show _<=1000000 by omega) al)
 have hkl:(k.fs[j].lb.take kk).length<=k.fs[j].lb.length:=by rw[List.length_take];omega
 refine AnZ_.u ?_ hT
 simp only[Vu,RR,t7,t8,Aa,Aj]
 rw[W_dq λs Q=>AD (s:=s) _ Q]
 dsimp only
 try simp only[Aa]
 rw[W_dq λs Q=>Ab (s:=s) F9 al Q]
 dsimp only
 try simp only[Aa]
 refine aD A2 ((g.o0.same (s':=dSt s.mem s.next) rfl rfl).at') λrd5 hr5=> ?_
 try simp only[Aj]
 rw[W_dq λs Q=>AD (s:=s) _ Q]
 dsimp only
 try simp only[Aa]
 rw[W_dq λs Q=>Ab (s:=s) CS al Q]
 dsimp only
 try simp only[Aa]
 refine aD A2 ((g.o1.same (s':=dSt s.mem s.next) rfl rfl).at') λrd9 hr9=> ?_
 try simp only[Aj,Cb,AW]
 rw[W_dq λs Q=>hsl s Q]
 dsimp only
 try simp only[Aa,A0,A3,AW]
 refine aS ?_
 rw[DL]
 refine W.appV (s:=oSt s.mem s.next) (Nat.le_refl _) LE (g.ms.same rfl rfl) (hbl.same (s':=oSt s.mem s.next) rfl rfl).src.g al al J (by rw[Br,Nat.mul_one]) (FF _) λs2 v2 b2 hb2 mk2 x2=>⟨_,_,x2,λrd10 wr10 hr10 hw10=> ?_⟩
 have n2:s.next<=s2.next:=x2.nxt
 try simp only[Aa]
 rw[W_dq λs Q=>AD (s:=s) _ Q]
 dsimp only
 try simp only[Aa]
 rw[W_dq λs Q=>Ab (s:=s) F9 al Q]
 dsimp only
 try simp only[Aa]
 refine aS ?_
 have o0:Own (oSt s2.mem s2.next) k.fs[j].blk 0 k.fs[j].sv:=((g.o0.same (s':=oSt s.mem s.next) rfl rfl).ext x2 λh=>by have h1:=g.ks _ h;rw[Nat.add_zero,k0]at h1;omega).same rfl rfl
 have o1:Own (oSt s2.mem s2.next) k.fs[j].blk 1 k.fs[j].lv:=((g.o1.same (s':=oSt s.mem s.next) rfl rfl).ext x2 λh=>by have h1:=g.ks _ h;rw[k1]at h1;omega).same rfl rfl
 refine aI A2 mk2.one o0 λs3 n3 x3 o3=>⟨_,_,x3,λrd13 wr13 hr13 hw13=> ?_⟩
 have n3':s3.next=s2.next:=n3
 try simp only[Aa]
 rw[W_dq λs Q=>AD (s:=s) _ Q]
 dsimp only
 try simp only[Aa]
 rw[W_dq λs Q=>Ab (s:=s) CS al Q,AI]
 refine⟨CP ?_, ?_⟩
 ·simp only[List.reverse_cons,List.reverse_nil,List.nil_append,List.cons_append,allP,BS,List.take,Cu]
  have lts: ∀x,s.next<=x-> ¬x<s.next:=λx h=>J
  simp+contextual [lts]
  repeat' first
   |exact .inl rfl
   |apply And.intro
 ·refine aK (AnW_ _ _ _ _ _ _ _ _ _ _ _ _ _ _ _ _ _ _ _ _ _ _) ?_
  simp only[SS]
  generalize hs':(⟨(dSt s3.mem s3.next).mem,(dSt s3.mem s3.next).next,s.lim,_,_,s.cx⟩:St)=s7
  have m7:s7.mem=s3.mem:=by rw[<-hs'];rfl
  have n7:s7.next=s3.next:=by rw[<-hs'];rfl
  have x7:Ext Any (λx=>x=k.fs[j].blk\/x=k.fs[j].blk+1\/MkF 1 k.fs[j].sb.length k.fs[j].sbk x) s s7:=by
   rw[<-hs']
   refine aU (by show s.next<=s3.next;omega) (λx hx hg=> ?_) ?_ λ_ _ _ _ _=>trivial
   ·have e1:T.get s3.mem x=T.get s2.mem x:=x3.mem x (by show x<s2.next;omega) λh=>hg (.inl (by have h1:=h.1;have h2:=h.2;omega))
    exact e1.trans (x2.mem x hx λh=>hg (.inr (.inr h)))
   ·simp only[List.mem_cons,List.not_mem_nil,or_false]
    rintro m (rfl|rfl|rfl|rfl|rfl|rfl|rfl|rfl|rfl|rfl|rfl|rfl|rfl|rfl|rfl|rfl|rfl|rfl) x hx hxl<;>first|(cases hx;done)|exact .inr (.inr (hw10 x hx).2)|exact .inl (by have h4:=(hw13 x hx).2;have h1:=h4.1;have h2:=h4.2;omega)
  have o17:Own s7 k.fs[j].blk 1 k.fs[j].lv:=(o1.ext x3 λh=>by have h1:=h.1;have h2:=h.2;omega).same m7 n7
  refine aI A2 rfl o17 λs8 n8 x8 o8=> ?_
  have y8:Ext Any (λx=>x=k.fs[j].blk\/x=k.fs[j].blk+1\/MkF 1 k.fs[j].sb.length k.fs[j].sbk x) s s8:=x7.on x8 hb0 λy _ hq=> .inr (.inl (by have h1:=hq.1;have h2:=hq.2;omega))
  have hnb: ∀x,MkF 1 (k.fs[j].sb.length+(k.fs[j].lb.take kk).length) b2 x->x≠k.fs[j].blk/\x≠k.fs[j].blk+1:=λx hx=>by
   rcases hb2 with h|h
   ·rw[h.1,h.2,Nat.add_zero]at hx
    have h1:=g.ks x hx
    exact⟨λh2=>by rw[h2]at h1;omega,λh2=>by rw[h2]at h1;omega⟩
   ·have h3:=hx.2.1
    have h4:=g.o1.1
    have h6:s.next<=b2:=h
    exact⟨J,J⟩
  have mk8:MkS s8 1 (k.fs[j].sb++k.fs[j].lb.take kk).length (u8l (k.fs[j].sb++k.fs[j].lb.take kk)) v2 b2:=by
   rw[RX,List.length_append]
   have mk3:=(mk2.same (s':=oSt s2.mem s2.next) rfl rfl).ext x3 λx hx h=>(hnb x hx).1 (by have h1:=h.1;have h2:=h.2;omega)
   exact(mk3.same m7 n7).ext x8 λx hx h=>(hnb x hx).2 (by have h1:=h.1;have h2:=h.2;omega)
  have o08:Own s8 k.fs[j].blk 0 v2:=(Own.same o3 m7 n7).ext x8 λh=>by have h1:=h.1;have h2:=h.2;omega
  have hf:=g.kept y8 o08 o8 mk8 (hb2.imp (λh=>⟨h.1,by rw[List.length_append,h.2,Nat.add_zero]⟩) λh=>h)
  have hD:=hI0.file (col':=paint col s.next (2+3*j+1)) hj y8 (λy hy h=>by
   rcases h with rfl|rfl|h
   ·omega
   ·omega
   ·have:=g.ks y h
    omega) (λy hy=>AX hy) hf (FileS.kept_ent ..)
  refine q _ _ v2 b2 rfl hD (y8.gw hb0 λy hy h=> ?_)
  rcases h with rfl|rfl|h
  ·omega
  ·omega
  ·have:=g.ks y h
   omega
end
theorem GE:slN envS 34=some 1:=X
theorem CL:tyS envS 3=some (1,false):=X
theorem Ext.rdG {G:Nat->Prop}{s s':St}(h:Ext Any G s s')(hb:s.lim<=s.next)(x:Nat):Ext Any G s (s'.rdN x):=h.on (Ext.rdN (F:=Any) (G:=Non) s' x λ_=>trivial) hb λ_ _ h=>h.elim
def KsF (v:Value):Nat->Prop:=match v with
 | .slice (some a) n _=>In a.block a.off n
 |_=>λ_=>False
def KsR (s:St)(v:Value)(ks:List Int):Prop:=(v= .slice none 0 0/\ks=[])\/ ∃b o c,v= .slice (some ⟨b,o,none⟩) ks.length c/\Row s b o (ks.map (Value.int .i64))
theorem KsR.ext {F G:Nat->Prop}{s s':St}{v:Value}{ks:List Int}(h:KsR s v ks)(e:Ext F G s s')(hG: ∀x,KsF v x-> ¬G x):KsR s' v ks:=by
 rcases h with h|⟨b,o,c,rfl,h⟩
 ·exact .inl h
 ·exact .inr ⟨b,o,c,rfl,h.ext e λi hi=>hG _ (show In b o ks.length _ from⟨J,by rw[List.length_map]at hi;omega⟩)⟩
theorem KsR.ext0 {F:Nat->Prop}{s s':St}{v:Value}{ks:List Int}(h:KsR s v ks)(e:Ext F Non s s'):KsR s' v ks:=h.ext e λ_ _=>id
theorem KsR.same {s s':St}{v:Value}{ks:List Int}(h:KsR s v ks)(hm:s'.mem=s.mem)(hn:s'.next=s.next):KsR s' v ks:=by
 rcases h with h|⟨b,o,c,rfl,h⟩
 ·exact .inl h
 ·exact .inr ⟨b,o,c,rfl,λi u e=>(h i u e).same hm hn⟩
theorem KsR.len {s s':St}{v:Value}{ks:List Int}{Q:Value->St->Prop}(h:KsR s v ks):W (AH envS .len [34] [v]) s' Q=Q (.int .i64 (ks.length:Nat)) s':=by
 rcases h with⟨rfl,rfl⟩|⟨b,o,c,rfl,h⟩
 ·exact Bt (n:=0) GE Q
 ·exact Bt GE Q
theorem KsR.at {s:St}{v:Value}{ks:List Int}{i:Nat}(h:KsR s v ks)(hi:i<ks.length): ∃b o c,v= .slice (some ⟨b,o,none⟩) ks.length c/\At s b (o+i*1) (.int .i64 ks[i]):=by
 rcases h with⟨rfl,rfl⟩|⟨b,o,c,rfl,h⟩
 ·cases hi
 ·exact⟨b,o,c,rfl,by rw[Nat.mul_one];exact h i _ (by simp[hi])⟩
def BR (ks:List Int)(i L:Nat):Nat:=if h:i<ks.length then(ks[i]%((L+1:Nat):Int)).toNat else 0
theorem Le (ks:List Int)(i L:Nat):BR ks i L<=L:=by
 unfold BR
 split
 ·have h1:=Int.emod_lt_of_pos ks[i] (b:=((L+1:Nat):Int)) J
  have h2:=Int.emod_nonneg ks[i] (b:=((L+1:Nat):Int)) J
  omega
 ·exact Nat.zero_le _
theorem Wj {x:Int}{m:Nat}(hm:1<=m):(x.tmod (m:Nat)+(m:Nat)).tmod (m:Nat)=x%(m:Nat):=by
 have b2: -(m:Nat)<x.tmod (m:Nat):=by
  have:=Int.lt_tmod_of_pos x (b:=(m:Nat)) J
  omega
 have e:x=x.tmod (m:Nat)+(m:Nat)*x.tdiv (m:Nat):=(Int.tmod_add_mul_tdiv x (m:Nat)).symm
 rw[Int.tmod_eq_emod_of_nonneg J,Int.add_emod_right]
 conv=>rhs;rw[e]
 rw[Int.add_mul_emod_self_left]
def stR (fs:List FileS)(ks:List Int)(p:Nat->Nat):Nat->Nat->Prop:=λt kk=> ∃x,x<fs.length/\p x=t/\ ∃f,fs[t]?=some f/\kk=BR ks x f.lb.length
def CrG (R:Nat->Nat->Prop)(fs fs':List FileS)(V:Nat->Prop):Prop:=fs'.length=fs.length/\ ∀t (h:t<fs.length) (h':t<fs'.length),(V t-> ∃v b kk,R t kk/\fs'[t]=fs[t].kept v b (fs[t].sb++fs[t].lb.take kk))/\(¬V t->fs'[t]=fs[t])
theorem CrG.iff {R:Nat->Nat->Prop}{fs fs':List FileS}{V V':Nat->Prop}(h:CrG R fs fs' V)(e: ∀t,V t↔V' t):CrG R fs fs' V':=⟨h.1,λt h1 h2=>⟨λq=>(h.2 t h1 h2).1 ((e t).2 q),λq=>(h.2 t h1 h2).2 λg=>q ((e t).1 g)⟩⟩
theorem CrG.names {R:Nat->Nat->Prop}{fs fs':List FileS}{V:Nat->Prop}(h:CrG R fs fs' V):fs'.map FileS.name=fs.map FileS.name:=by
 apply List.ext_getElem
 ·simp[h.1]
 ·intro t h1 h2
  rw[List.getElem_map,List.getElem_map]
  rw[List.length_map]at h1 h2
  by_cases q:V t
  ·obtain⟨v,b,kk,_,e⟩:=(h.2 t h2 h1).1 q
   rw[e]
   rfl
  ·rw[(h.2 t h2 h1).2 q]
theorem CrG.succ {R:Nat->Nat->Prop}{fs fs':List FileS}{V:Nat->Prop}{p b kk:Nat}{v:Value}(h:CrG R fs fs' V)(hi:p<fs.length)(hi':p<fs'.length)(hk:R p kk)(hV: ¬V p):CrG R fs (fs'.set p (fs'[p].kept v b (fs'[p].sb++fs'[p].lb.take kk))) (λt=>V t\/t=p):=by
 have ei:=(h.2 p hi hi').2 hV
 refine⟨by rw[List.length_set];exact h.1,λt h1 h2=>⟨λq=> ?_,λq=> ?_⟩⟩
 ·rw[List.length_set]at h2
  by_cases c:t=p
  ·subst c
   exact⟨v,b,kk,hk,by rw[List.getElem_set_self,ei]⟩
  ·rw[List.getElem_set_ne J]
   exact(h.2 t h1 h2).1 (q.resolve_right c)
 ·rw[List.length_set]at h2
  rw[List.getElem_set_ne (λe=>q (.inr e.symm))]
  exact(h.2 t h1 h2).2 λg=>q (.inl g)
section
variable {D M:Nat}{k:DkS}{ks:List Int}{kv v:Value}{bN:Nat}{l':List ByteArray}{p:Nat->Nat}{col0:Nat->Nat}{s0:St}
theorem TQ_ {Q:Value×FrameMode->St->Prop}(hb0:s0.lim<=s0.next)(hlen:k.fs.length<=300)(hz:k.used<=1000000)(hll:l'.length=k.fs.length)(hp: ∀i,i<k.fs.length->p i<k.fs.length)(hpi: ∀i j,i<k.fs.length->j<k.fs.length->p i=p j->i=j)(hlk: ∀i (h:i<l'.length),An k.fs l'[i]=some (p i))
  (hv0:NmR s0 v l' bN) (hk0:KsR s0 kv ks) (hcv: ∀x,MkF 1 k.fs.length bN x->1000<=col0 x) (hck: ∀x,KsF kv x->1000<=col0 x/\x<s0.next)
  (q: ∀n' tm' td' s1 col' fs',100<=n'->skim 64 td'=Q0->T.get tm' 0=some (.pointer (some ⟨D,0,none⟩))->DkI s1 col' D M {k with fs:=fs'}->CrG (stR k.fs ks p) k.fs fs' (λt=> ∃x,x<k.fs.length/\p x=t)->(∀x,x<s0.next->col' x=col0 x)->Ext Any (λx=>col0 x<1000) s0 s1->W (runF envS n' ⟨26,HF,BK,tm',td', .run, .normal,none⟩) s1 Q):
  ∀(m i n:Nat) (tm:T Value) (s:St) (td:List Item) (col':Nat->Nat) (fs':List FileS),i+m=k.fs.length->20*m+200<=n->skim 64 td=Jd->Ext Any (λx=>col0 x<1000) s0 s->DkI s col' D M {k with fs:=fs'}->CrG (stR k.fs ks p) k.fs fs' (λt=> ∃x,x<i/\p x=t)->(∀x,x<s0.next->col' x=col0 x)->
  T.get tm 0=some (.pointer (some ⟨D,0,none⟩))->T.get tm 1=some kv->T.get tm 13=some v->T.get tm 14=some (.int .i64 (k.fs.length:Nat))->T.get tm 15=some (.int .i64 (i:Nat))->
  W (runF envS n ⟨26,HF,BK,tm,td, .run, .normal,none⟩) s Q:=by
 intro m
 induction m with
 |zero=>
  intro i n tm s td col' fs' hi hn hT hx hI hC hag h0 h1 h13 h14 h15
  refine Qh_.u ?_ hT
  simp only[Qo,RR,SS,Ap,h14,h15]
  refine aG Gr_ ?_
  have e:i=k.fs.length:=J
  subst e
  exact q _ _ _ _ _ _ J rfl (an h0) hI hC hag hx
 |succ m ih=>
  intro i n tm s td col' fs' hi hn hT hx hI hC hag h0 h1 h13 h14 h15
  have hil:i<k.fs.length:=J
  have hpl:=hp i hil
  have hil':p i<fs'.length:=by rw[hC.1];exact hpl
  have ei:=(hC.2 (p i) hpl hil').2 (λ⟨x,hx1,hx2⟩=>by have:=hpi x i J hil hx2;omega)
  have hv:NmR s v l' bN:=MkS.ext hv0 hx λx hxx hg=>by
   rw[hll]at hxx
   have:=hcv x hxx
   omega
  have hk:KsR s kv ks:=hk0.ext hx λx hxx hg=>by have:=(hck x hxx).1;omega
  obtain⟨c,ev,ho⟩:=NmR.at hv (i:=i) J
  rw[hll]at ev
  have hil2:i<l'.length:=J
  refine Qh_.u ?_ hT
  simp only[Qo,RR,SS,Ap,h14,h15]
  refine aJ Gr_ ?_
  refine AjW_.u ?_
  simp only[Gn_,RR,SS,Nat.reduceEqDiff, ↓reduceIte,h13,h15,ev,AA BP hil]
  refine aA AQ ho.at' ?_
  have x1:=hx.rdG hb0 (bN+(0+i*1))
  refine Tq_.u ?_
  simp only[TS,RR,SS,reduceCtorEq, ↓reduceIte,h0,Ab B4 al]
  refine aA B7 (hI.d1.same (s':=s.rdN (bN+(0+i*1))) rfl rfl).at' ?_
  have x2:=x1.rdG hb0 (D+(0+1))
  refine DE (fs:=fs') (mx:=k.mx) (hI.om.same rfl rfl) ?_
  have x3:=x2.rdG hb0 M
  have hI3:DkI (((s.rdN (bN+(0+i*1))).rdN (D+(0+1))).rdN M) col' D M {k with fs:=fs'}:=hI.same rfl rfl
  have hk3:KsR (((s.rdN (bN+(0+i*1))).rdN (D+(0+1))).rdN M) kv ks:=hk.same rfl rfl
  generalize ((s.rdN (bN+(0+i*1))).rdN (D+(0+1))).rdN M=s3 at *
  have hlj:An fs' l'[i]=some (p i):=by
   unfold An
   rw[hC.names]
   exact hlk i hil2
  have hlv:AG fs' l'[i]= .pointer (some ⟨fs'[p i].blk,0,none⟩):=by
   unfold AG
   rw[hlj]
   simp only[List.getElem?_eq_getElem hil']
  rw[hlv]
  have hus:=aV hpl
  have hus':fs'[p i].sb.length+fs'[p i].lb.length<=1000000:=by rw[ei];omega
  have g:=hI3.fl (p i) hil'
  have fin: ∀(n':Nat) (tm':T Value) (td':List Item) (s':St),n<=n'+12->skim 64 td'=Hy->Ext Any (λx=>col0 x<1000) s0 s'->DkI s' col' D M {k with fs:=fs'}->T.get tm' 0=some (.pointer (some ⟨D,0,none⟩))->T.get tm' 1=some kv->T.get tm' 13=some v->T.get tm' 14=some (.int .i64 (k.fs.length:Nat))->T.get tm' 15=some (.int .i64 (i:Nat))->T.get tm' 7=some (.pointer (some ⟨fs'[p i].blk,0,none⟩))->T.get tm' 8=some (.int .i64 (BR ks i fs'[p i].lb.length:Nat))->
    W (runF envS n' ⟨26,HF,BK,tm',td', .run, .normal,none⟩) s' Q:=by
   intro n' tm' td' s' hn' hT' x' hI' g0 g1 g13 g14 g15 g7 g8
   refine AnQ_ (j:=p i) (kk:=BR ks i fs'[p i].lb.length) (k:={k with fs:=fs'}) (x'.bnd hb0) hI' hil' g7 g8 (Le ..) hus' (by show fs'.length<=300;rw[hC.1];exact hlen) hT' J λtd2 s2 v2 b2 hT2 hI2 x2=> ?_
   refine AlG_.u ?_ hT2
   have ei':wrap64 ((i:Nat)+1:Int)=((i+1:Nat):Int):=by
    rw[Bh J J];simp
   simp only[IZ_,RR,SS,AY,g15,ei']
   have hn0:=x'.nxt
   have hC2:=(hC.succ (v:=v2) (b:=b2) (kk:=BR ks i fs'[p i].lb.length) hpl hil' ⟨i,hil,rfl,_,List.getElem?_eq_getElem hpl,by rw[ei]⟩ (λ⟨x,hx1,hx2⟩=>by have:=hpi x i J hil hx2;omega)).iff (V':=λt=> ∃x,x<i+1/\p x=t) λt=>⟨λh=>by
    rcases h with⟨x,hx1,hx2⟩|h
    ·exact⟨x,J,hx2⟩
    ·exact⟨i,J,h.symm⟩,λ⟨x,hx1,hx2⟩=>by
    by_cases hxi:x=i
    ·exact .inr (by rw[<-hx2,hxi])
    ·exact .inl ⟨x,J,hx2⟩⟩
   exact ih (i+1) _ _ _ _ _ _ J J Xm_ (x'.on x2 hb0 λy hy h=>by rw[hag y hy]at h;exact h) hI2 hC2 (λx hx=>(AX J).trans (hag x hx)) (an g0) (an g1) (an g13) (an g14) Y
  refine Wt_.u ?_
  simp only[W9,RR,SS,Nat.reduceEqDiff, ↓reduceIte,Ap,h1,hk3.len]
  by_cases hki:i<ks.length
  ·refine aJ AI_ ?_
   refine Ajw_.u ?_
   simp only[V8,RR,SS,Nat.reduceEqDiff, ↓reduceIte,Ab CS al]
   refine aA A2 g.o1.at' ?_
   have x4:=x3.rdG hb0 (fs'[p i].blk+(0+1))
   have eo:wrap64 (((fs'[p i].lb.length:Nat):Int)+1)=((fs'[p i].lb.length+1:Nat):Int):=by
    rw[Bh J J];simp
   simp only[AY,MkS.lenq g.ml BH,eo]
   obtain⟨kb,ko,kc,ekv,hko⟩:=hk3.at hki
   refine Aqx_.u ?_
   simp only[Oy_,RR,SS,Nat.reduceEqDiff, ↓reduceIte,h1,ekv,AA GE hki]
   refine aA CL (hko.same (s':=s3.rdN (fs'[p i].blk+(0+1))) rfl rfl) ?_
   have x5:=x4.rdG hb0 (kb+(ko+i*1))
   have b1:(ks[i]).tmod ((fs'[p i].lb.length+1:Nat):Int)<((fs'[p i].lb.length+1:Nat):Int):=Int.tmod_lt_of_pos _ J
   have b2: -((fs'[p i].lb.length+1:Nat):Int)<(ks[i]).tmod ((fs'[p i].lb.length+1:Nat):Int):=by
    have:=Int.lt_tmod_of_pos ks[i] (b:=((fs'[p i].lb.length+1:Nat):Int)) J
    omega
   have ew:wrap64 ((ks[i]).tmod ((fs'[p i].lb.length+1:Nat):Int)+((fs'[p i].lb.length+1:Nat):Int))=(ks[i]).tmod ((fs'[p i].lb.length+1:Nat):Int)+((fs'[p i].lb.length+1:Nat):Int):=Bh J J
   have ek:ks[i]%((fs'[p i].lb.length+1:Nat):Int)=((BR ks i fs'[p i].lb.length:Nat):Int):=by
    unfold BR
    rw[dif_pos hki]
    have h2:=Int.emod_nonneg ks[i] (b:=((fs'[p i].lb.length+1:Nat):Int)) J
    omega
   simp only[AY,CK_ (n:=fs'[p i].lb.length+1) J,ew,Wj (m:=fs'[p i].lb.length+1) J,ek]
   exact fin _ _ _ _ J Aiw_ x5 (hI3.same rfl rfl) (an h0) (by simp[T.get_set,h1,ekv]) (by simp[T.get_set,h13,ev]) (an h14) (an h15) Y Y
  ·refine aG AI_ ?_
   have ek:BR ks i fs'[p i].lb.length=0:=by unfold BR;rw[dif_neg hki]
   exact fin _ _ _ _ J rfl x3 hI3 (an h0) (an h1) (by simp[T.get_set,h13,ev]) (an h14) (an h15) Y (by rw[ek];simp[T.get_set])
end
section
variable {D M n:Nat}{k:DkS}{ks:List Int}{kv:Value}{col:Nat->Nat}{s:St}{a:ByteArray}{Q:Value->St->Prop}
theorem AaE_ (hb:s.lim<=s.next)(hI:DkI s col D M k){l':List ByteArray}{p:Nat->Nat}(hN:NmsTo (k.fs.map FileS.name) l')(hpr: ∀a∈l',HasP a ⟨#[]⟩)(hp: ∀i,i<k.fs.length->p i<k.fs.length)(hpi: ∀i j,i<k.fs.length->j<k.fs.length->p i=p j->i=j)(hlk: ∀i (h:i<l'.length),An k.fs l'[i]=some (p i))(hz:k.used<=1000000)(hk:KsR s kv ks)(hck: ∀x,KsF kv x->1000<=col x/\x<s.next)(hn:40*k.fs.length+800<=n)
  (q: ∀s1 col' fs',After s s1 col col' D M {k with fs:=fs',fused:=false,left:=0,out:=false}->CrG (stR k.fs ks p) k.fs fs' (λt=> ∃x,x<k.fs.length/\p x=t)->Q (.int .i64 0) s1):
  W (Ac envS (runF envS n) 26 [.pointer (some ⟨D,0,none⟩),kv]) s Q:=by
 have hb0:(s.cxN cxN).lim<=(s.cxN cxN).next:=hb
 have hlen:k.fs.length<=300:=by have:=hN.len;simpa using this
 have hnl:l'.length=k.fs.length:=by have:=hN.len';simpa using this
 have hI0:DkI (s.cxN cxN) (paint col s.next 1000) D M k:=(hI.col λx hx=>AX hx).same rfl rfl
 have hag: ∀x,x<s.next->paint col s.next 1000 x=col x:=λx hx=>AX hx
 have hnew: ∀x,s.next<=x->paint col s.next 1000 x=1000:=λx hx=>C2 hx
 have hDlt:D+6<s.next:=hI.d6.1
 generalize hcol1:paint col s.next 1000=col1 at *
 refine Aba_ λtm t0 t1=> ?_
 refine VW_.u ?_
 simp only[Ps_,RR,SS]
 refine AoR_.u ?_
 simp only[Fw_,RR,SS,reduceCtorEq, ↓reduceIte,t0]
 refine CR hb0 hI0.d0 J λs1 m1 n1 x1=> ?_
 have hI1:=hI0.same m1 n1
 have n1':s1.next=s.next:=n1
 refine aG To_ ?_
 refine Acy_.u ?_
 simp only[Af_,RR,SS,reduceCtorEq, ↓reduceIte,t0]
 refine Arb_ (p:=⟨#[]⟩) (x1.bnd hb0) hI1 hN hpr J λs2 v bN hbN hr x2=> ?_
 have y2:=x1.on x2 hb0 λ_ _ h=>h
 have hI2:=hI1.ext0 x2 hlen
 have hn2:s.next<=s2.next:=y2.nxt
 simp only[MkS.lenq hr BP]
 rw[hnl]
 have hks2:KsR s2 kv ks:=KsR.ext0 (hk.same (s':=s.cxN cxN) rfl rfl) y2
 refine TQ_ (l':=l') (p:=p) (k:=k) (ks:=ks) (col0:=col1) (D:=D) (M:=M) (v:=v) (bN:=bN) (kv:=kv) (y2.bnd hb0) hlen hz hnl hp hpi hlk hr hks2 (λx hx=>by rw[hnew x (by have:=hx.2.1;omega)];exact Nat.le_refl _) (λx hx=>by have h1:=hck x hx;rw[hag x h1.2];omega) (λn' tm' td' s3 col' fs' hn' hT' h0 hI3 hC hag3 x3=> ?_) k.fs.length 0 _ _ _ _ col1 k.fs J J rfl (Ext.refl _) hI2 ⟨rfl,λt _ _=>⟨λ⟨x,hx,_⟩=>absurd hx (Nat.not_lt_zero _),λ_=>rfl⟩⟩ (λ_ _=>rfl) (an t0) (an t1) Y Y Y
 have y3:=(y2.gw (G':=λx=>col1 x<1000) hb0 λ_ _ h=>h.elim).on x3 hb0 λy hy h=>h
 have hk0: ∀x,D<=x->x<D+7->col1 x<1000:=λx h1 h2=>by rw[hI0.kd x h1 h2];decide
 refine AdW_.u ?_ hT'
 simp only[TA,RR,SS,h0,Ab Lw al]
 refine aI BB rfl hI3.d6 λs4 n4 x4 o4=> ?_
 have z4:Ext Any (λy=>y=D+6) s3 s4:=x4.weak (y3.bnd hb0) (λ_ _ _=>trivial) λy _ hq=>by have h1:=hq.1;have h2:=hq.2;omega
 have hI4:=hI3.own (st:=k.steps) (fu:=k.fused) (le:=k.left) (ou:=false) z4 (λy _ h=>J) (hI3.d3.ext z4 λh=>J) (hI3.d4.ext z4 λh=>J) (hI3.d5.ext z4 λh=>J) o4
 simp only[Ab IP al]
 refine aI BB rfl hI4.d4 λs5 n5 x5 o5=> ?_
 have y4:=y3.on z4 hb0 λy hy h=>hk0 y J J
 have z5:Ext Any (λy=>y=D+4) s4 s5:=x5.weak (y4.bnd hb0) (λ_ _ _=>trivial) λy _ hq=>by have h1:=hq.1;have h2:=hq.2;omega
 have hI5:=hI4.own (st:=k.steps) (fu:=false) (le:=k.left) (ou:=false) z5 (λy _ h=>J) (hI4.d3.ext z5 λh=>J) o5 (hI4.d5.ext z5 λh=>J) (hI4.d6.ext z5 λh=>J)
 simp only[Ab JO al]
 refine aI Bv rfl hI5.d5 λs6 n6 x6 o6=> ?_
 have y5:=y4.on z5 hb0 λy hy h=>hk0 y J J
 have z6:Ext Any (λy=>y=D+5) s5 s6:=x6.weak (y5.bnd hb0) (λ_ _ _=>trivial) λy _ hq=>by have h1:=hq.1;have h2:=hq.2;omega
 have hI6:=hI5.own (st:=k.steps) (fu:=false) (le:=0) (ou:=false) z6 (λy _ h=>J) (hI5.d3.ext z6 λh=>J) (hI5.d4.ext z6 λh=>J) o6 (hI5.d6.ext z6 λh=>J)
 have y6:=y5.on z6 hb0 λy hy h=>hk0 y J J
 refine AcG_.u ?_
 simp only[S7,RR,SS]
 refine aB (rs:=[4]) (vs:=[.int .i64 0]) rfl (.inl AnK_) J FX_ Ags_ y6.cx Y ?_
 exact q _ col' fs' ⟨hI6.same rfl rfl,λx hx=>(hag3 x J).trans (hag x hx),(y6.gw hb0 λy hy h=>by rw[<-hag y hy];exact h).cx'⟩ hC
