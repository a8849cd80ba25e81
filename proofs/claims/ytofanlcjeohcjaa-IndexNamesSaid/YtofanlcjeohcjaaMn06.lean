/- A region whose order is open: each step of whatever order is drawn keeps what is known; at the end it is as in the order of the text. -/
import Derived.Test.YtofanlcjeohcjaaMn05
import Derived.Test.YtofanlcjeohcjaaMn03
namespace Go.Proofs.Ytofanlcjeohcjaa.Am
open Go.RowKit

section
variable {E : Env} {glob N : Nat} {ops : Array Oper} {call round : CallT} {cops : List COp} {x : Tra} {m : Nat}
/-- What is known when those in L have been carried out. -/
structure Inv (ops : Array Oper) (x : Tra) (m N : Nat) (w0 : World) (r0 : Inj) (t0 : Array Value) (L : Array Bool) (mt : T Cell) (t : Array Value) (w : World) (r : Inj) : Prop where
  size : L.size = ops.size
  rel : Rel w0 r mt w
  off : ∀ j, m ≤ j → j < ops.size → L.getD j true = false
  mem : ∀ l, T.get mt l = memD x (fun i => L.getD i true) m l
  dom : ∀ b, x.Nx 0 ≤ b → b < x.Nx m → (r.blk b ≠ none ∨ r.ext b ≠ none) → ∃ i, i < m ∧ L.getD i true = true ∧ x.Nx i ≤ b ∧ b < x.Nx (i + 1)
  slot : ∀ (i : Nat) (o : Oper) (d : Nat), ops[i]? = some o → L.getD i true = true → o.dst = some d → ∃ v', t[d]? = some v' ∧ VR r (x.V i) v'
  keep : ∀ (d : Nat), (∀ (i : Nat) (o : Oper), ops[i]? = some o → L.getD i true = true → o.dst ≠ some d) → t[d]? = t0[d]?
  tsz : t.size = N
  le : r0.le r
  domB : ∀ b, r.blk b ≠ none → r0.blk b ≠ none ∨ (x.Nx 0 ≤ b ∧ b < x.Nx m)
  domE : ∀ b, r.ext b ≠ none → r0.ext b ≠ none ∨ (x.Nx 0 ≤ b ∧ b < x.Nx m)
  clo : ∀ j, j < m → L.getD j true = true → ∀ i, Bf ops j i → L.getD i true = true
theorem getD_set {L : Array Bool} {j : Nat} (hj : j < L.size) : (L.setIfInBounds j true).getD j true = true ∧ ∀ i, i ≠ j → (L.setIfInBounds j true).getD i true = L.getD i true := by
  constructor
  · simp [Array.getD_eq_getD_getElem?, hj]
  · intro i hi
    simp only [Array.getD_eq_getD_getElem?]
    rw [Array.getElem?_setIfInBounds_ne (fun e => hi e.symm)]
theorem ready_some {L : Array Bool} (_hs : L.size = ops.size) {j : Nat} (h : j ∈ Region.ready .any ops L) : j < ops.size ∧ L.getD j true = false ∧ ∀ o, ops[j]? = some o → ∀ e ∈ o.after, Region.binds .any e = true → L.getD e.on false = true := by
  unfold Region.ready at h
  rw [List.mem_filter, List.mem_range, Bool.and_eq_true, Bool.not_eq_true'] at h
  obtain ⟨h1, h2, h3⟩ := h
  refine ⟨h1, h2, fun o ho e he hb => ?_⟩
  rw [ho] at h3
  have h4 : o.after.all (fun e => !Region.binds .any e || L.getD e.on false) = true := by simpa using h3
  have := Array.all_eq_true_iff_forall_mem.1 h4 e he
  rw [hb] at this
  simpa using this
theorem getD_ft {L : Array Bool} {i : Nat} (h : L.getD i false = true) : L.getD i true = true := by
  rw [Array.getD_eq_getD_getElem?] at h ⊢
  cases e : L[i]? with
  | none => rw [e] at h; cases h
  | some b => rw [e] at h; exact h
theorem getD_tf {L : Array Bool} {i : Nat} (hi : i < L.size) (h : L.getD i true = true) : L.getD i false = true := by
  rw [Array.getD_eq_getD_getElem?] at h ⊢
  rw [Array.getElem?_eq_getElem hi] at h ⊢
  exact h

variable (H : Pre E glob N ops call round cops x m)
include H
theorem Inv.before {w0 w : World} {r0 r : Inj} {t0 t : Array Value} {L : Array Bool} {mt : T Cell} (I : Inv ops x m N w0 r0 t0 L mt t w r) {j : Nat} (hjn : j < ops.size)
    (hready : ∀ o, ops[j]? = some o → ∀ e ∈ o.after, Region.binds .any e = true → L.getD e.on false = true) : ∀ i, Bf ops j i → L.getD i true = true := by
  intro i hb
  obtain ⟨o', e, q1, q2, q3, q4⟩ := Bf_edge hb
  have he' := hready o' q1 e q2 q3
  rcases q4 with q4 | q4
  · rw [q4]; exact getD_ft he'
  · have h1 := H.edge q1 q2 q3
    exact I.clo e.on (by have := H.few; omega) (getD_ft he') i q4
/-- What comes next is one of the first, as long as one of these is open. -/
theorem Inv.small {w0 w : World} {r0 r : Inj} {t0 t : Array Value} {L : Array Bool} {mt : T Cell} (I : Inv ops x m N w0 r0 t0 L mt t w r) {j : Nat} (hj : j ∈ Region.ready .any ops L) (hc : 0 < cnt (fun i => !L.getD i true) m) : j < m := by
  obtain ⟨hjn, hjL, hready⟩ := ready_some I.size hj
  rcases Nat.lt_or_ge j m with h | h
  · exact h
  · obtain ⟨i, h1, h2, _⟩ := cnt_pos hc
    rw [I.before H hjn hready i (H.last j h hjn i h1)] at h2
    cases h2
/-- One operation of those that may come next. -/
theorem Inv.step (he : EnvTy E) (c1 : CallOK E call) (c2 : RoundOK E round) {w0 w : World} {r0 r : Inj} {t0 t : Array Value} {L : Array Bool} {mt : T Cell} (hT0 : TmR r0 glob (x.Tm 0) t0)
    (I : Inv ops x m N w0 r0 t0 L mt t w r) {j : Nat} (hj : j ∈ Region.ready .any ops L) (hjn : j < m) (b : Frame) (dfs : List Deferred) (cs : List Frame) (k : List Item) (rest : List Nat) :
    ∃ mt' t' w' r', Inv ops x m N w0 r0 t0 (L.setIfInBounds j true) mt' t' w' r' ∧ Steps E.P (lone (frm b t dfs (.inRegion ops (j :: rest) :: k)) cs w) (lone (frm b t' dfs (.inRegion ops rest :: k)) cs w') := by
  obtain ⟨hjn0, hjL, hready⟩ := ready_some I.size hj
  obtain ⟨o, g, f, ho, hg, hnew, hcomp, tr, hrh, htm⟩ := H.op hjn
  have hms : m ≤ ops.size := H.len
  -- what lies before j has been carried out
  have before : ∀ i, Bf ops j i → L.getD i true = true := I.before H hjn0 hready
  have notj : ∀ i, i < m → L.getD i true = true → ¬ Bf ops i j := by
    intro i hi hL hb
    have := I.clo i hi hL j hb
    rw [hjL] at this
    cases this
  have lateSep : ∀ i, j < i → i < m → L.getD i true = true → (∀ l, ¬ (x.Wr j l ∧ (x.Rd i l ∨ x.Wr i l))) ∧ (∀ l, ¬ (x.Wr i l ∧ x.Rd j l)) := fun i h1 h2 h3 => H.sep h1 h2 (notj i h2 h3)
  -- memory reads as j expects it
  have agree : ∀ l, x.Rd j l ∨ x.Wr j l → T.get mt l = T.get (x.Mm j) l := by
    intro l hl
    rw [I.mem l, memD_high (j := j) (by omega)]
    · refine memD_low H (by omega) fun i hi hw => ?_
      by_cases hb : Bf ops j i
      · exact before i hb
      · exact absurd ⟨hw, hl⟩ ((H.sep hi hjn hb).1 l)
    · intro i h1 h2 h3 h4
      rcases Nat.lt_or_ge j i with h5 | h5
      · obtain ⟨s1, s2⟩ := lateSep i h5 h2 h3
        rcases hl with hl | hl
        · exact s2 l ⟨h4, hl⟩
        · exact s1 l ⟨hl, .inr h4⟩
      · rw [show i = j by omega, hjL] at h3
        cases h3
  obtain ⟨t', q1, q2, q3, q4, q5, q6, q7, q8⟩ := tr.run.any ⟨mt, x.Nx j, x.Nx j, [], [], .no⟩ rfl rfl rfl agree
  obtain ⟨hloc, hop⟩ := opG_ok (ops := ops) (keep := keepD o.dst glob) he ho hg hcomp
  obtain ⟨d1, d2, d3⟩ := H.ds (Nat.le_of_lt hjn)
  have slots : SlR r (fun y => y ∈ looksL ops.toList o) (dsAt ops.toList j) (x.Rh j) (x.Tm j) t := by
    constructor
    · intro p d v hu e1 e2
      obtain ⟨q, oq, a1, a2, a3, a4⟩ := d2 p d e1
      rw [a4] at e2
      cases e2
      have hb := H.looks ho a2 a3 hu (by omega)
      rw [Nat.max_eq_right (by omega), Nat.min_eq_left (by omega)] at hb
      exact I.slot q oq d a2 (before q hb) a3
    · intro y v hu e1
      rcases H.tm (Nat.le_of_lt hjn) e1 with ⟨q, oq, a1, a2, a3, a4, a5⟩ | ⟨a1, a2⟩
      · have hb := H.looks ho a2 a3 hu (by omega)
        rw [Nat.max_eq_right (by omega), Nat.min_eq_left (by omega)] at hb
        rw [a5]
        exact I.slot q oq y a2 (before q hb) a3
      · obtain ⟨p1, v', p2, p3⟩ := hT0 y v a1
        refine ⟨v', ?_, p3.mono I.le⟩
        rw [I.keep y]
        · exact p2
        · intro i oi hoi hLi hdi
          have hi0 : i < ops.size := (Array.getElem?_eq_some_iff.1 hoi).1
          have hi : i < m := by
            rcases Nat.lt_or_ge i m with h | h
            · exact h
            · rw [I.off i h hi0] at hLi; cases hLi
          rcases Nat.lt_trichotomy i j with h | h | h
          · rw [a2 i oi h hoi hdi] at p1; cases p1
          · rw [h, hjL] at hLi; cases hLi
          · have hb := H.looks ho hoi hdi hu (by omega)
            rw [Nat.max_eq_left (by omega), Nat.min_eq_right (by omega)] at hb
            exact notj i hi hLi hb
  have fresh : Fresh r (x.Nx j) (x.Nx (j + 1)) := by
    intro b h1 h2
    have lo : x.Nx 0 ≤ b := Nat.le_trans (H.nx (Nat.zero_le _) (Nat.le_of_lt hjn)) h1
    have hi : b < x.Nx m := Nat.lt_of_lt_of_le h2 (H.nx hjn (Nat.le_refl _))
    have no : ¬ (r.blk b ≠ none ∨ r.ext b ≠ none) := by
      intro hn
      obtain ⟨i, a1, a2, a3, a4⟩ := I.dom b lo hi hn
      rcases Nat.lt_trichotomy i j with h | h | h
      · have := H.nx (i := i + 1) (j := j) h (Nat.le_of_lt hjn); omega
      · rw [h, hjL] at a2; cases a2
      · have := H.nx (i := j + 1) (j := i) h (Nat.le_of_lt a1); omega
    exact ⟨Classical.byContradiction fun h => no (.inl h), Classical.byContradiction fun h => no (.inr h)⟩
  simp only at q2 q3 q4
  obtain ⟨w', r', dfs', cs', k1, k2, k3, v', k4, k5⟩ := hop call round c1 c2 w0 w r _ (x.Rh j) (x.Tm j) b t dfs cs (dfs, cs) ⟨mt, x.Nx j, x.Nx j, [], [], .no⟩ (.inl (x.V j)) t' slots (fun _ h => h) d1 I.rel ⟨rfl, rfl⟩ (Nat.le_refl _)
    (by rw [q2]; exact fresh) q1 rest k
  rw [q4] at k2
  obtain ⟨rfl, rfl⟩ := k2
  obtain ⟨g1, g2⟩ := getD_set (L := L) (j := j) (by rw [I.size]; exact hjn0)
  refine ⟨t'.mem, putT t o.dst v', w', r', ⟨by simp [I.size], k1.rel, fun q h1 h2 => by rw [g2 q (by omega)]; exact I.off q h1 h2, ?_, ?_, ?_, ?_, by rw [putT_size]; exact I.tsz, Inj.le_trans I.le k1.le, ?_, ?_, ?_⟩, k5⟩
  · intro l
    obtain ⟨a1, a2⟩ := memD_add (x := x) (D := fun i => L.getD i true) (D' := fun i => (L.setIfInBounds j true).getD i true) (l := l) hjL g1 g2 hjn (fun i h1 h2 h3 h4 => (lateSep i h1 h2 h3).1 l ⟨h4.2, .inr h4.1⟩)
    by_cases hw : x.Wr j l
    · rw [a1 hw]; exact q7 l hw
    · rw [a2 hw, q8 l hw]; exact I.mem l
  · intro b' h1 h2 h3
    have old : (r.blk b' ≠ none ∨ r.ext b' ≠ none) ∨ (x.Nx j ≤ b' ∧ b' < x.Nx (j + 1)) := by
      rcases h3 with h3 | h3
      · rcases k1.domB b' h3 with h | h
        · exact .inl (.inl h)
        · rw [q2] at h; exact .inr h
      · rcases k1.domE b' h3 with h | h
        · exact .inl (.inr h)
        · rw [q2] at h; exact .inr h
    rcases old with h | h
    · obtain ⟨i, a1, a2, a3⟩ := I.dom b' h1 h2 h
      refine ⟨i, a1, ?_, a3⟩
      by_cases e : i = j
      · rw [e]; exact g1
      · rw [g2 i e]; exact a2
    · exact ⟨j, hjn, g1, h⟩
  · intro i oi d hoi hLi hdi
    by_cases e : i = j
    · subst e
      rw [ho] at hoi
      cases hoi
      rw [hdi]
      exact ⟨v', putT_self (by rw [I.tsz]; exact H.dst_lt ho hdi), k4⟩
    · rw [g2 i e] at hLi
      obtain ⟨u, a1, a2⟩ := I.slot i oi d hoi hLi hdi
      refine ⟨u, ?_, a2.mono k1.le⟩
      rw [putT_other]
      · exact a1
      · intro h
        exact e (H.dst_inj hoi ho hdi h)
  · intro d hd
    rw [putT_other]
    · exact I.keep d fun i oi hoi hLi => hd i oi hoi (by
        by_cases e : i = j
        · rw [e]; exact g1
        · rw [g2 i e]; exact hLi)
    · exact hd j o ho g1
  · intro b' h
    rcases k1.domB b' h with h | h
    · exact I.domB b' h
    · rw [q2] at h
      exact .inr ⟨Nat.le_trans (H.nx (Nat.zero_le _) (Nat.le_of_lt hjn)) h.1, Nat.lt_of_lt_of_le h.2 (H.nx hjn (Nat.le_refl _))⟩
  · intro b' h
    rcases k1.domE b' h with h | h
    · exact I.domE b' h
    · rw [q2] at h
      exact .inr ⟨Nat.le_trans (H.nx (Nat.zero_le _) (Nat.le_of_lt hjn)) h.1, Nat.lt_of_lt_of_le h.2 (H.nx hjn (Nat.le_refl _))⟩
  · intro i hi hLi y hb
    by_cases e : i = j
    · subst e
      have := before y hb
      by_cases e' : y = i
      · rw [e']; exact g1
      · rw [g2 y e']; exact this
    · rw [g2 i e] at hLi
      have := I.clo i hi hLi y hb
      by_cases e' : y = j
      · rw [e']; exact g1
      · rw [g2 y e']; exact this

theorem ready_at {L : Array Bool} (hs : L.size = ops.size) {i : Nat} (h1 : i < ops.size) (h2 : L.getD i true = false) (h3 : ∀ j, j < i → L.getD j true = true) : i ∈ Region.ready .any ops L := by
  unfold Region.ready
  rw [List.mem_filter, List.mem_range, Bool.and_eq_true]
  refine ⟨h1, by rw [h2]; rfl, ?_⟩
  rw [Array.getElem?_eq_getElem h1]
  simp only [Option.map_some, Option.getD_some]
  rw [Array.all_eq_true_iff_forall_mem]
  intro e he
  cases hb : Region.binds .any e with
  | false => rfl
  | true =>
    have hlt := H.edge (Array.getElem?_eq_getElem h1) he hb
    rw [getD_tf (by rw [hs]; omega) (h3 e.on hlt)]
    rfl
theorem ready_ne {L : Array Bool} (hs : L.size = ops.size) (h : 0 < cnt (fun i => !L.getD i true) m) : Region.ready .any ops L ≠ [] := by
  obtain ⟨i, h0, h2, h3⟩ := cnt_pos h
  have h1 : i < ops.size := Nat.lt_of_lt_of_le h0 H.len
  exact List.ne_nil_of_mem (ready_at H hs h1 (by simpa using h2) fun j hj => by simpa using h3 j hj)
/-- The whole of an order, to the last one that may stand behind all others. -/
theorem Inv.run (he : EnvTy E) (c1 : CallOK E call) (c2 : RoundOK E round) {w0 : World} {r0 : Inj} {t0 : Array Value} (hT0 : TmR r0 glob (x.Tm 0) t0) (b : Frame) (dfs : List Deferred) (cs : List Frame) (k : List Item) :
    ∀ (fuel tp : Nat) (L : Array Bool) (mt : T Cell) (t : Array Value) (w : World) (r : Inj), Inv ops x m N w0 r0 t0 L mt t w r → cnt (fun i => !L.getD i true) m = fuel →
      ∃ L' mt' t' w' r', Inv ops x m N w0 r0 t0 L' mt' t' w' r' ∧ (∀ i, i < m → L'.getD i true = true) ∧
        Steps E.P (lone (frm b t dfs (.inRegion ops (Region.linearise.go .any ops (fuel + (ops.size - m)) tp L []) :: k)) cs w) (lone (frm b t' dfs (.inRegion ops (List.range' m (ops.size - m)) :: k)) cs w')
  | 0, tp, L, mt, t, w, r, I, hc => by
    have hall : ∀ i, i < m → L.getD i true = true := fun i hi => by
      have := cnt_zero hc i hi
      simpa using this
    refine ⟨L, mt, t, w, r, I, hall, ?_⟩
    have hgo : Region.linearise.go .any ops (0 + (ops.size - m)) tp L [] = List.range' m (ops.size - m) := by
      have h1 := H.len
      have h2 := H.few
      rcases Nat.lt_or_ge m ops.size with h | h
      · have e1 : ops.size - m = 1 := by omega
        rw [e1]
        have hmem := ready_at H I.size h (I.off m (Nat.le_refl _) h) hall
        have hlen : 0 < (Region.ready .any ops L).length := List.length_pos_iff.2 (List.ne_nil_of_mem hmem)
        have hi : tp % (Region.ready .any ops L).length < (Region.ready .any ops L).length := Nat.mod_lt _ hlen
        obtain ⟨j, hj⟩ : ∃ j, (Region.ready .any ops L)[tp % (Region.ready .any ops L).length]? = some j := ⟨_, List.getElem?_eq_getElem hi⟩
        obtain ⟨p1, p2, _⟩ := ready_some I.size (List.mem_of_getElem? hj)
        have hjm : j = m := by
          rcases Nat.lt_or_ge j m with q | q
          · rw [hall j q] at p2; cases p2
          · omega
        subst hjm
        have h0 : Region.linearise.go .any ops (0 + 1) tp L [] = match (Region.ready .any ops L)[tp % (Region.ready .any ops L).length]? with
          | some i => Region.linearise.go .any ops 0 (tp / (Region.ready .any ops L).length) (L.setIfInBounds i true) [i]
          | none => [].reverse := rfl
        rw [h0, hj]
        rfl
      · have e1 : ops.size - m = 0 := by omega
        rw [e1]
        rfl
    rw [hgo]
    exact .refl _ _
  | fuel + 1, tp, L, mt, t, w, r, I, hc => by
    have hne := ready_ne H I.size (by rw [hc]; omega)
    have hlen : 0 < (Region.ready .any ops L).length := List.length_pos_iff.2 hne
    have hi : tp % (Region.ready .any ops L).length < (Region.ready .any ops L).length := Nat.mod_lt _ hlen
    obtain ⟨j, hj⟩ : ∃ j, (Region.ready .any ops L)[tp % (Region.ready .any ops L).length]? = some j := ⟨_, List.getElem?_eq_getElem hi⟩
    have hmem : j ∈ Region.ready .any ops L := List.mem_of_getElem? hj
    have hgo : Region.linearise.go .any ops (fuel + 1 + (ops.size - m)) tp L [] = j :: Region.linearise.go .any ops (fuel + (ops.size - m)) (tp / (Region.ready .any ops L).length) (L.setIfInBounds j true) [] := by
      rw [Nat.add_right_comm]
      have h0 : Region.linearise.go .any ops (fuel + (ops.size - m) + 1) tp L [] = match (Region.ready .any ops L)[tp % (Region.ready .any ops L).length]? with
        | some i => Region.linearise.go .any ops (fuel + (ops.size - m)) (tp / (Region.ready .any ops L).length) (L.setIfInBounds i true) [i]
        | none => [].reverse := rfl
      rw [h0, hj]
      simp only
      rw [linearise_go_acc]
      rfl
    rw [hgo]
    obtain ⟨hjn, hjL, _⟩ := ready_some I.size hmem
    have hjm : j < m := I.small H hmem (by rw [hc]; omega)
    obtain ⟨mt1, t1, w1, r1, I1, s1⟩ := I.step H he c1 c2 hT0 hmem hjm b dfs cs k (Region.linearise.go .any ops (fuel + (ops.size - m)) (tp / (Region.ready .any ops L).length) (L.setIfInBounds j true) [])
    obtain ⟨g1, g2⟩ := getD_set (L := L) (j := j) (by rw [I.size]; exact hjn)
    have hc1 : cnt (fun i => !(L.setIfInBounds j true).getD i true) m = fuel := by
      have := cnt_one (p := fun i => !L.getD i true) (q := fun i => !(L.setIfInBounds j true).getD i true) (i := j) (by simp [hjL]) (by simp [g1]) (fun i hi => by simp only [g2 i hi]) hjm
      omega
    obtain ⟨L', mt', t', w', r', I', hall, s2⟩ := Inv.run he c1 c2 hT0 b dfs cs k fuel _ _ mt1 t1 w1 r1 I1 hc1
    exact ⟨L', mt', t', w', r', I', hall, s1.trans s2⟩
/-- A region whose order is open ends as in the order of the text. -/
theorem Pre.draw_ok (he : EnvTy E) (c1 : CallOK E call) (c2 : RoundOK E round) {w0 w : World} {r : Inj} {t : Array Value} (hT : TmR r glob (x.Tm 0) t) (ht : t.size = N) (hr : Rel w0 r (x.Mm 0) w) (hfr : Fresh r (x.Nx 0) (x.Nx m))
    (b : Frame) (dfs : List Deferred) (cs : List Frame) (k : List Item) (tp : Nat) :
    ∃ t' w' r', (∀ s s' : St, s.next = x.Nx 0 → s'.next = x.Nx m → s'.mem = x.Mm m → Goes w0 r s s' r' w') ∧ TmR r' glob (x.Tm m) t' ∧ t'.size = N ∧ SlR r' (fun _ => True) (dsAt ops.toList m) (x.Rh m) (x.Tm m) t' ∧ (∀ d, d ∉ dstL ops.toList → t'[d]? = t[d]?) ∧
      Steps E.P (lone (frm b t dfs (.inRegion ops (Region.linearise .any ops tp) :: k)) cs w) (lone (frm b t' dfs (.inRegion ops (List.range' m (ops.size - m)) :: k)) cs w') := by
  have hL : ∀ i, i < ops.size → (Array.replicate ops.size false).getD i true = false := fun i hi => by
    rw [Array.getD_eq_getD_getElem?, Array.getElem?_replicate, if_pos hi]; rfl
  have I0 : Inv ops x m N w0 r t (Array.replicate ops.size false) (x.Mm 0) t w r := by
    refine ⟨by simp, hr, fun j _ hj => hL j hj, fun l => ?_, fun b h1 h2 h3 => ?_, fun i o d hi hl => ?_, fun _ _ => rfl, ht, Inj.le_refl r, fun _ h => .inl h, fun _ h => .inl h, fun j hj hl => ?_⟩
    · rw [memD_high (j := 0) (Nat.zero_le _)]
      · rfl
      · intro i _ hi hd; rw [hL i (Nat.lt_of_lt_of_le hi H.len)] at hd; cases hd
    · obtain ⟨a1, a2⟩ := hfr b h1 h2
      rcases h3 with h3 | h3
      · exact absurd a1 h3
      · exact absurd a2 h3
    · rw [hL i (Array.getElem?_eq_some_iff.1 hi).1] at hl; cases hl
    · rw [hL j (Nat.lt_of_lt_of_le hj H.len)] at hl; cases hl
  have hc : cnt (fun i => !(Array.replicate ops.size false).getD i true) m = m := by
    rw [cnt_congr (q := fun _ => true) fun i hi => by rw [hL i (Nat.lt_of_lt_of_le hi H.len)]; rfl]
    exact cnt_all _
  obtain ⟨L', mt', t', w', r', I, hall, s⟩ := Inv.run H he c1 c2 (w0 := w0) (r0 := r) (t0 := t) hT b dfs cs k m tp _ _ _ _ _ I0 hc
  have hfuel : m + (ops.size - m) = ops.size := by have := H.len; omega
  rw [hfuel] at s
  have hmem : ∀ l, T.get (x.Mm m) l = T.get mt' l := fun l => by
    rw [I.mem l]
    exact (memD_low H (Nat.le_refl _) fun i hi _ => hall i hi).symm
  have hT' : TmR r' glob (x.Tm m) t' := by
    intro y v e
    rcases H.tm (Nat.le_refl _) e with ⟨q, oq, a1, a2, a3, a4, a5⟩ | ⟨a1, a2⟩
    · rw [a5]
      exact ⟨a4, I.slot q oq y a2 (hall q a1) a3⟩
    · obtain ⟨p1, v', p2, p3⟩ := hT y v a1
      refine ⟨p1, v', ?_, p3.mono I.le⟩
      rw [I.keep y]
      · exact p2
      · intro i oi hoi hLi hdi
        have hi0 : i < ops.size := (Array.getElem?_eq_some_iff.1 hoi).1
        rcases Nat.lt_or_ge i m with h | h
        · rw [a2 i oi h hoi hdi] at p1
          cases p1
        · rw [I.off i h hi0] at hLi; cases hLi
  refine ⟨t', w', r', fun s s' e1 e2 e3 => ⟨I.le, by rw [e1, e2]; exact H.nx (Nat.zero_le _) (Nat.le_refl _), fun b hb => by rw [e1, e2]; exact I.domB b hb, fun b hb => by rw [e1, e2]; exact I.domE b hb, ?_⟩, hT', I.tsz, ⟨fun p d v _ e1 e2 => ?_, fun y v _ e => (hT' y v e).2⟩, fun d hd => I.keep d fun i o ho _ hx => hd (mem_dstL (by rw [Array.mem_toList_iff]; exact Array.mem_of_getElem? ho) hx), s⟩
  · rw [e3]
    exact I.rel.less fun l c e => by rw [← hmem l]; exact e
  · obtain ⟨q, oq, a1, a2, a3, a4⟩ := (H.ds (Nat.le_refl m)).2.1 p d e1
    rw [a4] at e2
    cases e2
    exact I.slot q oq d a2 (hall q a1) a3
end
end Go.Proofs.Ytofanlcjeohcjaa.Am
/- Frames beside the evaluator's: one step in the midst of a body. -/
namespace Go.Proofs.Ytofanlcjeohcjaa.Am
open Go.RowKit

def RoR (r : Inj) : Option Nat → Option Nat → Prop
  | none, none => True
  | some l, some l' => ∃ d, r.blk l = some (l', d)
  | _, _ => False
theorem RoR.mono {r r' : Inj} (h : r.le r') {a b : Option Nat} (k : RoR r a b) : RoR r' a b := by
  cases a <;> cases b <;> simp only [RoR] at k ⊢
  obtain ⟨d, k⟩ := k
  exact ⟨d, h.1 _ _ k⟩
structure FR (P : Program) (r : Inj) (af : AF) (cx : Ctx) (base : List Deferred × List Frame) (fr : Frame) (cs : List Frame) : Prop where
  fn : fr.fn = af.fn
  size : fr.tmps.size = af.n
  tm : TmR r af.glob af.tmps fr.tmps
  todo : af.mode = .run → fr.todo = af.todo
  mode : MoR r af.mode fr.mode
  round : RoR r af.roundOf fr.roundOf
  rk : fr.roundOf ≠ none → fr.kind = .normal
  known : fr.roundOf = none → ∃ fn, P.funcs[fr.fn]? = some fn
  cx : CxR r base cx fr fr.defers cs

/-- A frame at an end of its own: what it hands to the one that called it. -/
def doneF (k : CallKind) (c : Frame) (v : Value) : Frame :=
  match k with
  | .deferred => (match c.mode with
    | .panicking ({ recovered := true, .. } :: older) => (match older.dropWhile (!·.goexit) with
      | [] => { c with mode := .returning }
      | rest => { c with mode := .panicking rest })
    | _ => c)
  | _ => c.finish v
def Kin (fr fr' : Frame) : Prop := (fr'.kind, fr'.roundOf, fr'.fn) = (fr.kind, fr.roundOf, fr.fn)
def FinE (P : Program) (r : Inj) (base : List Deferred × List Frame) (cx' : Ctx) (fr : Frame) (m : Machine) (w' : World) (out : Out (Value × FrameMode)) : Prop :=
  ∃ cs', ((fr.kind = .normal ∧ cs' = base.2) ∨ ∃ u c0 rest m', cx' = .cx (some u) (some []) ∧ fr.kind = .deferred ∧ base.2 = c0 :: rest ∧ cs' = { c0 with mode := m' } :: rest ∧ MoR r u m' ∧ ∀ v up, out = .inl (v, up) → up = u) ∧
    match out with
    | .inl (v, _) => ∃ v', VR r v v' ∧ (∀ c rest, cs' = c :: rest → Steps P m (lone (doneF fr.kind c v') rest w')) ∧ (fr.roundOf = none → fr.kind = .normal → ∃ fr', fr'.fn = fr.fn ∧ fr'.leaving P w' (.returned v') ∧ Steps P m (lone fr' cs' w'))
    | .inr ch => ∃ ch', ChR r ch ch' ∧ ∀ c rest, cs' = c :: rest → Steps P m (lone (c.raise ch') rest w')
/-- What comes of a step. -/
def StepE (P : Program) (r : Inj) (base : List Deferred × List Frame) (cx' : Ctx) (fr : Frame) (m : Machine) (w' : World) (out : Out Step) : Prop :=
  match out with
  | .inl (.go af') => ∃ fr' cs', Kin fr fr' ∧ FR P r af' cx' base fr' cs' ∧ Steps P m (lone fr' cs' w')
  | .inl (.fin v up) => FinE P r base cx' fr m w' (.inl (v, up))
  | .inr ch => FinE P r base cx' fr m w' (.inr ch)
structure EnvOK (E : Env) : Prop where
  ty : EnvTy E
  fn : ∀ f fn, E.fn.get f = some fn → E.P.funcs[f]? = some fn ∧ fn.name ≠ "runtime.NumGoroutine"
  mixed : E.P.follows .mixedOrders = true
  orcLoc : ∀ f m, E.orc.get f = some m → ∀ args, Loc (m args)
  orc : ∀ {f : Nat} {m : List Value → M Value}, E.orc.get f = some m → ∀ {w0 w : World} {r : Inj} {args args' : List Value} {s : St} {out : Out Value} {s' : St}, m args s = rOf out s' → Rel w0 r s.mem w → Bnd s → Fresh r s.next s'.next → VRs r args args' →
    (∀ w, (callFunc f args'.toArray).run E.P w = .ok (.enter f args'.toArray) w) ∧
    ∀ c cs, ∃ w' r', Goes w0 r s s' r' w' ∧ s'.lim = s.lim ∧ s'.cx = s.cx ∧ Ends E.P r' out (lone (Frame.enter E.P f args'.toArray .normal) (c :: cs) w) c cs w'
  extLoc : ∀ f m, E.ext.get f = some m → ∀ args, Loc (m args)
  ext : ∀ {f : Nat} {m : List Value → M Value}, E.ext.get f = some m → ∀ {w0 w : World} {r : Inj} {args args' : List Value} {s : St} {out : Out Value} {s' : St}, m args s = rOf out s' → Rel w0 r s.mem w → VRs r args args' →
    AtOnce E.P w0 w r s f args' out s'

/-! ### The machine's small steps -/
section
variable {P : Program} {b : Frame} {t : Array Value} {d : List Deferred} {k : List Item} {cs : List Frame} {w : World}
theorem sf_skip : step P (lone (frm b t d (.code .skip :: k)) cs w) = .next (lone (frm b t d k) cs w) := step_lone_go (by simp [stepG, stepG.exec, frm])
theorem sf_label {l : Nat} : step P (lone (frm b t d (.code (.label l) :: k)) cs w) = .next (lone (frm b t d k) cs w) := step_lone_go (by simp [stepG, stepG.exec, frm])
theorem sf_inBlock {id : Nat} : step P (lone (frm b t d (.inBlock id :: k)) cs w) = .next (lone (frm b t d k) cs w) := step_lone_go (by simp [stepG, stepG.exec, frm])
theorem sf_inScope {c : Code} : step P (lone (frm b t d (.inScope c :: k)) cs w) = .next (lone (frm b t d k) cs w) := step_lone_go (by simp [stepG, stepG.exec, frm])
theorem sf_seq {x y : Code} : step P (lone (frm b t d (.code (.seq x y) :: k)) cs w) = .next (lone (frm b t d (.code x :: .code y :: k)) cs w) := step_lone_go (by simp [stepG, stepG.exec, frm])
theorem sf_block {id : Nat} {c : Code} : step P (lone (frm b t d (.code (.block id c) :: k)) cs w) = .next (lone (frm b t d (.code c :: .inBlock id :: k)) cs w) := step_lone_go (by simp [stepG, stepG.exec, frm])
theorem sf_loop {c : Code} : step P (lone (frm b t d (.code (.loop c) :: k)) cs w) = .next (lone (frm b t d (.code c :: .inLoop c :: k)) cs w) := step_lone_go (by simp [stepG, stepG.exec, frm])
theorem sf_inLoop {c : Code} : step P (lone (frm b t d (.inLoop c :: k)) cs w) = .next (lone (frm b t d (.code c :: .inLoop c :: k)) cs w) := step_lone_go (by simp [stepG, stepG.exec, frm])
theorem sf_scope {c : Code} : step P (lone (frm b t d (.code (.scope c) :: k)) cs w) = .next (lone (frm b t d (.code c :: .inScope c :: k)) cs w) := step_lone_go (by simp [stepG, stepG.exec, frm])
theorem sf_exit {id : Nat} {k' : List Item} (h : exitTo id k = some k') : step P (lone (frm b t d (.code (.exit id) :: k)) cs w) = .next (lone (frm b t d k') cs w) := step_lone_go (by simp [stepG, stepG.exec, frm, h])
theorem sf_goto {l : Nat} {k' : List Item} (h : gotoIn l k = some k') : step P (lone (frm b t d (.code (.goto l) :: k)) cs w) = .next (lone (frm b t d k') cs w) := step_lone_go (by simp [stepG, stepG.exec, frm, h])
theorem sf_cond {c : Operand} {x y : Code} {tt : Bool} (h : Act.eval ⟨t, d⟩ c = .bool tt) : step P (lone (frm b t d (.code (.cond c x y) :: k)) cs w) = .next (lone (frm b t d (.code (if tt then x else y) :: k)) cs w) :=
  step_lone_go (by
    have := congrFun (frm_eval b t d (.code (.cond c x y) :: k)) c
    rw [h] at this
    simp only [frm] at this
    simp [stepG, stepG.exec, frm, this])
theorem sf_ret (hr : b.roundOf = none) : step P (lone (frm b t d (.code .ret :: k)) cs w) = .next (lone { frm b t d (.code .ret :: k) with mode := .returning } cs w) := step_lone_go (by simp [stepG, stepG.exec, frm, hr])
theorem sf_end (hr : b.roundOf = none) : step P (lone (frm b t d []) cs w) = .next (lone { frm b t d [] with mode := .returning } cs w) := step_lone_go (by simp [stepG, stepG.exec, frm, hr])
theorem skim_ok : ∀ (n : Nat) (l : List Item), Steps P (lone (frm b t d l) cs w) (lone (frm b t d (skim n l)) cs w)
  | 0, l => .refl _ _
  | n + 1, l => by
    unfold skim
    split
    · exact .head sf_skip (skim_ok n _)
    · exact .head sf_label (skim_ok n _)
    · exact .head sf_inBlock (skim_ok n _)
    · exact .head sf_inScope (skim_ok n _)
    · exact .head sf_seq (skim_ok n _)
    · exact .head sf_block (skim_ok n _)
    · exact .head sf_loop (skim_ok n _)
    · exact .head sf_inLoop (skim_ok n _)
    · exact .head sf_scope (skim_ok n _)
    · split
      · exact .head (sf_exit (by assumption)) (skim_ok n _)
      · exact .refl _ _
    · exact .refl _ _
theorem run_getLoop {l : Nat} {L : Loop} (h : w.heap[l]? = some (.loop L)) : (Instr.getLoop l).run P w = .ok L w := by simp [Instr.getLoop, getObj, Sem.run, h]
theorem run_setLoop {l : Nat} {L L2 : Loop} (h : w.heap[l]? = some (.loop L)) : (setObj l (.loop L2)).run P w = .ok () (World.setO w l (.loop L2)) := by simp [setObj, Sem.run, h, World.setO]
/-- How a round is left. -/
theorem sf_leaveRound {l : Nat} {L : Loop} {todo : List Item} {jump : Option Code} (hr : b.roundOf = some l) (hk : b.kind = .normal) (hL : w.heap[l]? = some (.loop L)) {c : Frame} {rest : List Frame}
    (ht : (todo = [] ∧ jump = none) ∨ (∃ k, todo = .code .ret :: k ∧ jump = some .ret) ∨ (∃ id k, todo = .code (.exit id) :: k ∧ exitTo id k = none ∧ jump = some (.exit id)) ∨ (∃ g k, todo = .code (.goto g) :: k ∧ gotoIn g k = none ∧ jump = some (.goto g))) :
    step P (lone (frm b t d todo) (c :: rest) w) = .next (lone (c.finish (.bool jump.isNone)) rest (World.setO w l (.loop { L with state := if jump.isNone then .ready else .done, pending := jump }))) := by
  have hrun : (Instr.endRound l jump).run P w = .ok (.bool jump.isNone) (World.setO w l (.loop { L with state := if jump.isNone then .ready else .done, pending := jump })) := by
    simp only [Instr.endRound, Sem.run_bind, run_getLoop hL, Result.andThen_ok, run_setLoop hL, Sem.run_pure]
  refine step_lone_go ?_
  rcases ht with ⟨rfl, rfl⟩ | ⟨k, rfl, rfl⟩ | ⟨id, k, rfl, e, rfl⟩ | ⟨g, k, rfl, e, rfl⟩ <;> simp_all [stepG, stepG.exec, frm, doReturn]
end

section
variable {E : Env} {call round : CallT} {w0 w : World} {r : Inj} {base : List Deferred × List Frame}
theorem FR.frm {P : Program} {af : AF} {cx : Ctx} {fr : Frame} {cs : List Frame} (h : FR P r af cx base fr cs) (hm : af.mode = .run) : fr = frm fr fr.tmps fr.defers af.todo := by
  have h1 := h.todo hm
  have h2 := h.mode
  rw [hm] at h2
  obtain ⟨a, b, c, d, e, f, g⟩ := fr
  simp only at h1
  cases h2
  rw [h1]
  rfl
/-- Another list of what is to be done. -/
theorem FR.to {P : Program} {af : AF} {cx : Ctx} {fr : Frame} {cs : List Frame} (h : FR P r af cx base fr cs) (k : List Item) : FR P r { af with todo := k, mode := .run } cx base (Am.frm fr fr.tmps fr.defers k) cs :=
  ⟨h.fn, h.size, h.tm, fun _ => rfl, .run, h.round, h.rk, h.known, h.cx⟩
theorem goTo_eq (af : AF) (k : List Item) (s : St) : goTo af k s = .some (.go { af with todo := k }) s := rfl
theorem goMo_eq (af : AF) (m : FrameMode) (tm : T Value) (s : St) : goMo af m tm s = .some (.go { af with mode := m, tmps := tm }) s := rfl
theorem goTm_eq (af : AF) (k : List Item) (tm : T Value) (s : St) : goTm af k tm s = .some (.go { af with todo := k, tmps := tm }) s := rfl
theorem endR_ok {af : AF} {fr : Frame} {cs : List Frame} {s s' : St} {out : Out Step} {l : Nat} {jump : Option Code} (h : endR l jump s = rOf out s') (hF : FR E.P r af s.cx base fr cs) (hm : af.mode = .run) (hr : Rel w0 r s.mem w) (hro : af.roundOf = some l)
    (hcs : cs = base.2) (ht : (af.todo = [] ∧ jump = none) ∨ (∃ k, af.todo = .code .ret :: k ∧ jump = some .ret) ∨ (∃ id k, af.todo = .code (.exit id) :: k ∧ exitTo id k = none ∧ jump = some (.exit id)) ∨ (∃ g k, af.todo = .code (.goto g) :: k ∧ gotoIn g k = none ∧ jump = some (.goto g))) :
    ∃ w' r', Goes w0 r s s' r' w' ∧ s'.lim = s.lim ∧ StepE E.P r' base s'.cx fr (lone fr cs w) w' out := by
  unfold endR at h
  rcases bind_rOf h with ⟨c, s1, e1, e2⟩ | ⟨c, e1, _⟩
  · obtain ⟨q1, q2⟩ := rdC_some e1
    cases c with
    | C a b => exact (rOf_none e2).elim
    | O o =>
      cases o with
      | loop st pe f n g tm ps as bd df =>
        rcases bind_rOf e2 with ⟨u, s2, e3, e4⟩ | ⟨c, e3, _⟩
        · obtain ⟨rfl, rfl⟩ := rOf_inl (show R.some (Step.fin (.bool jump.isNone) .run) s2 = rOf out s' from e4)
          obtain ⟨b', d, o', g1, g2, g3⟩ := hr.obj _ _ q1 rfl
          have hro2 := hF.round
          rw [hro] at hro2
          cases hfr : fr.roundOf with
          | none => rw [hfr] at hro2; exact hro2.elim
          | some l' =>
            rw [hfr] at hro2
            obtain ⟨d', hro2⟩ := hro2
            rw [g1] at hro2
            cases hro2
            cases o' with
            | loop L =>
              obtain ⟨k1, k2, k3, k4, k5, k6, k7, k8, k9⟩ := g3
              have hOR : OR r (.loop (if jump.isNone then .ready else .done) jump f n g tm ps as bd df) (.loop { L with state := if jump.isNone then .ready else .done, pending := jump }) := ⟨rfl, rfl, k3, k4, k5, k6, k7, k8, k9⟩
              obtain ⟨p1, p2, p3⟩ := wrO_ok e3 (by rw [q2.1]; exact hr) (by rw [q2.1]; exact q1) rfl g1 hOR rfl
              refine ⟨_, r, (Goes.same q2 hr).trans p1, p2.trans q2.2.2.1, ?_⟩
              have hkind := hF.rk (by rw [hfr]; simp)
              refine ⟨cs, .inl ⟨hkind, hcs⟩, .bool jump.isNone, .bool _, ?_, fun e => by rw [hfr] at e; cases e⟩
              intro c rest hc
              subst hc
              rw [hkind, hF.frm hm]
              exact .one (sf_leaveRound hfr hkind g2 ht)
            | _ => exact g3.elim
        · exact ((np_wrC _ _).no _ _ _ e3).elim
      | _ => exact (rOf_none e2).elim
  · exact ((np_rdC _).no _ _ _ e1).elim
theorem leaveF_ok {af : AF} {fr : Frame} {cs : List Frame} {s s' : St} {out : Out Step} {jump : Option Code} (h : leaveF af jump s = rOf out s') (hF : FR E.P r af s.cx base fr cs) (hm : af.mode = .run) (hr : Rel w0 r s.mem w) (hcs : af.roundOf ≠ none → cs = base.2)
    (ht : (af.todo = [] ∧ jump = none) ∨ (∃ k, af.todo = .code .ret :: k ∧ jump = some .ret) ∨ (∃ id k, af.todo = .code (.exit id) :: k ∧ exitTo id k = none ∧ jump = some (.exit id)) ∨ (∃ g k, af.todo = .code (.goto g) :: k ∧ gotoIn g k = none ∧ jump = some (.goto g))) :
    ∃ w' r', Goes w0 r s s' r' w' ∧ s'.lim = s.lim ∧ StepE E.P r' base s'.cx fr (lone fr cs w) w' out := by
  have h0 : leaveF af jump = Option.rec (motive := fun _ => M Step) (M.chk (jumpOk jump) (goMo af .returning af.tmps)) (fun l => endR l jump) af.roundOf := rfl
  rw [h0] at h
  cases hro : af.roundOf with
  | some l =>
    rw [hro] at h
    exact endR_ok h hF hm hr hro (hcs (by rw [hro]; simp)) ht
  | none =>
    rw [hro] at h
    have hfro : fr.roundOf = none := by
      have := hF.round
      rw [hro] at this
      cases hx : fr.roundOf with
      | none => rfl
      | some y => rw [hx] at this; exact this.elim
    have fin : ∀ {out : Out Step}, M.pure (Step.go { af with mode := .returning }) s = rOf out s' → step E.P (lone (frm fr fr.tmps fr.defers af.todo) cs w) = .next (lone { frm fr fr.tmps fr.defers af.todo with mode := .returning } cs w) →
        ∃ w' r', Goes w0 r s s' r' w' ∧ s'.lim = s.lim ∧ StepE E.P r' base s'.cx fr (lone fr cs w) w' out := by
      intro out h hs
      obtain ⟨rfl, rfl⟩ := rOf_inl h
      refine ⟨w, r, .of_rel rfl hr, rfl, { frm fr fr.tmps fr.defers af.todo with mode := .returning }, cs, rfl, ⟨hF.fn, hF.size, hF.tm, (fun e => by cases e), .ret, hF.round, hF.rk, hF.known, hF.cx⟩, ?_⟩
      exact .one (by rw [hF.frm hm]; exact hs)
    rcases ht with ⟨e1, rfl⟩ | ⟨k, e1, rfl⟩ | ⟨id, k, e1, e2, rfl⟩ | ⟨g, k, e1, e2, rfl⟩
    · exact fin h (by rw [e1]; exact sf_end hfro)
    · exact fin h (by rw [e1]; exact sf_ret hfro)
    · exact (rOf_none h).elim
    · exact (rOf_none h).elim
/-- A step that only turns what is to be done. -/
theorem goTo_ok {af : AF} {fr : Frame} {cs : List Frame} {s s' : St} {out : Out Step} {k : List Item} (h : goTo af k s = rOf out s') (hF : FR E.P r af s.cx base fr cs) (hm : af.mode = .run) (hr : Rel w0 r s.mem w)
    (hs : step E.P (lone (frm fr fr.tmps fr.defers af.todo) cs w) = .next (lone (frm fr fr.tmps fr.defers k) cs w)) :
    ∃ w' r', Goes w0 r s s' r' w' ∧ s'.lim = s.lim ∧ StepE E.P r' base s'.cx fr (lone fr cs w) w' out := by
  obtain ⟨rfl, rfl⟩ := rOf_inl ((goTo_eq af k s).symm.trans h)
  have hF' := hF.to k
  rw [← hm] at hF'
  exact ⟨w, r, .of_rel rfl hr, rfl, frm fr fr.tmps fr.defers k, cs, rfl, hF', .one (by rw [hF.frm hm]; exact hs)⟩
theorem jumpF_ok {af : AF} {fr : Frame} {cs : List Frame} {s s' : St} {out : Out Step} {jump : Code} {k : Option (List Item)} (h : jumpF af jump k s = rOf out s') (hF : FR E.P r af s.cx base fr cs) (hm : af.mode = .run) (hr : Rel w0 r s.mem w) (hcs : af.roundOf ≠ none → cs = base.2)
    (hk : ∀ k', k = some k' → step E.P (lone (frm fr fr.tmps fr.defers af.todo) cs w) = .next (lone (frm fr fr.tmps fr.defers k') cs w))
    (ht : k = none → (∃ id k, af.todo = .code (.exit id) :: k ∧ exitTo id k = none ∧ jump = .exit id) ∨ (∃ g k, af.todo = .code (.goto g) :: k ∧ gotoIn g k = none ∧ jump = .goto g)) :
    ∃ w' r', Goes w0 r s s' r' w' ∧ s'.lim = s.lim ∧ StepE E.P r' base s'.cx fr (lone fr cs w) w' out := by
  cases k with
  | none =>
    refine leaveF_ok (jump := some jump) h hF hm hr hcs ?_
    rcases ht rfl with ⟨id, k, a, b, rfl⟩ | ⟨g, k, a, b, rfl⟩
    · exact .inr (.inr (.inl ⟨id, k, a, b, rfl⟩))
    · exact .inr (.inr (.inr ⟨g, k, a, b, rfl⟩))
  | some k' => exact goTo_ok h hF hm hr (hk k' rfl)
end
end Go.Proofs.Ytofanlcjeohcjaa.Am
/- Frames beside the evaluator's: loops over functions, regions, code of every kind. -/
namespace Go.Proofs.Ytofanlcjeohcjaa.Am
open Go.RowKit

theorem fuse_eq : ∀ (l : List COp), ∃ F, fuse l = .mk F ∧ ∀ call round rho tm s, F call round rho tm s = opsIn call round l rho tm s
  | [] => ⟨_, rfl, fun _ _ _ _ _ => rfl⟩
  | ⟨g, d, keep, f⟩ :: l => by
    obtain ⟨k, h1, h2⟩ := fuse_eq l
    have key : ∀ f' : OpT, ∃ F, fuseK d keep f' k = .mk F ∧ ∀ call round rho tm s, F call round rho tm s = M.bind (f' call round rho tm) (fun v => opsIn call round l (pushV d v rho) (keepT d keep v tm)) s := by
      intro f'
      cases d with
      | none =>
        refine ⟨_, rfl, fun call round rho tm s => ?_⟩
        unfold M.bind
        simp only
        cases f' call round rho tm s with
        | none => rfl
        | some v s1 => exact h2 _ _ _ _ _
        | pan c s1 => rfl
      | some d =>
        cases keep with
        | false =>
          refine ⟨_, rfl, fun call round rho tm s => ?_⟩
          unfold M.bind
          simp only
          cases f' call round rho tm s with
          | none => rfl
          | some v s1 => exact h2 _ _ _ _ _
          | pan c s1 => rfl
        | true =>
          refine ⟨_, rfl, fun call round rho tm s => ?_⟩
          unfold M.bind
          simp only
          cases f' call round rho tm s with
          | none => rfl
          | some v s1 =>
            obtain ⟨a, b, c, e⟩ := T.set_N tm d v
            simp only [e, keepT]
            exact h2 _ _ _ _ _
          | pan c s1 => rfl
    have h0 : fuse (⟨g, d, keep, f⟩ :: l) = fuse1 ⟨g, d, keep, f⟩ k := by
      show Cl.rec (motive := fun _ => Cl RT) (fun k => fuse1 ⟨g, d, keep, f⟩ k) (fuse l) = _
      rw [h1]
    rw [h0]
    cases g with
    | none =>
      obtain ⟨F, q1, q2⟩ := key f
      exact ⟨F, q1, fun call round rho tm s => by rw [q2, opsIn_cons]; rfl⟩
    | some p =>
      obtain ⟨F, q1, q2⟩ := key (fun call round r tm => wantG (some p) r (f call round r tm))
      exact ⟨F, q1, fun call round rho tm s => by rw [q2, opsIn_cons]⟩

noncomputable def delT (ds : List Nat) (t : T Value) : T Value := List.rec (motive := fun _ => T Value) t (fun d _ t => T.del t d) ds
theorem delT_get {tm : T Value} {y : Nat} {v : Value} : ∀ {ds : List Nat}, T.get (delT ds tm) y = some v → y ∉ ds ∧ T.get tm y = some v
  | [], h => ⟨by simp, h⟩
  | d :: ds, h => by
    replace h : T.get (T.del (delT ds tm) d) y = some v := h
    rw [T.get_del] at h
    split at h
    · cases h
    · rename_i hne
      obtain ⟨h1, h2⟩ := delT_get h
      exact ⟨fun hm => (List.mem_cons.1 hm).elim hne h1, h2⟩

section
variable {E : Env} {call round : CallT} {w0 w : World} {r : Inj} {base : List Deferred × List Frame}
theorem FR.csr {P : Program} {af : AF} {cx : Ctx} {fr : Frame} {cs : List Frame} (h : FR P r af cx base fr cs) : af.roundOf ≠ none → cs = base.2 := by
  intro hne
  have hfr : fr.roundOf ≠ none := by
    have := h.round
    intro hx
    rw [hx] at this
    cases e : af.roundOf with
    | none => exact hne e
    | some l => rw [e] at this; exact this.elim
  have hk := h.rk hfr
  have hc := h.cx
  unfold CxR at hc
  cases cx with
  | no => exact hc.2
  | cx up d =>
    cases up with
    | none => exact hc.1.2
    | some m => have := hc.1.1; rw [hk] at this; cases this
theorem FR.slots {P : Program} {af : AF} {cx : Ctx} {fr : Frame} {cs : List Frame} (h : FR P r af cx base fr cs) : SlR r (fun _ => True) [] [] af.tmps fr.tmps :=
  ⟨fun i d v _ e => by simp at e, fun y v _ e => (h.tm y v e).2⟩
theorem noP_rOf {α : Type} {m : M α} {o : Out α} {s s' : St} (h : noP m s = rOf o s') : ∃ a, o = .inl a ∧ m s = .some a s' := by
  unfold noP at h
  cases e : m s with
  | none => rw [e] at h; exact (rOf_none h).elim
  | some a s1 => rw [e] at h; obtain ⟨rfl, rfl⟩ := rOf_inl h; exact ⟨a, rfl, rfl⟩
  | pan c s1 => rw [e] at h; exact (rOf_none h).elim
theorem bind_inl {α β : Type} {m : M α} {f : α → M β} {b : β} {s s' : St} (h : M.bind m f s = .some b s') : ∃ a s1, m s = .some a s1 ∧ f a s1 = .some b s' := bind_some h

/-! ### Regions -/
theorem regF_ok (he : EnvOK E) (c1 : CallOK E call) (c2 : RoundOK E round) {af : AF} {fr : Frame} {cs : List Frame} {s s' : St} {out : Out Step} {ops : Array Oper} {cops : List COp} {F : RT} {id : Nat} {k : List Item}
    (hc : compOps E af.glob af.n ops.toList ops.toList [] = some cops) (hF' : fuse cops = .mk F) (h : regF call round af (dstL ops.toList) F k s = rOf out s') (hF : FR E.P r af s.cx base fr cs) (hm : af.mode = .run) (htodo : af.todo = .code (.region id ops false) :: k)
    (hr : Rel w0 r s.mem w) (hb : Bnd s) (hf : Fresh r s.next s'.next) :
    ∃ w' r', Goes w0 r s s' r' w' ∧ s'.lim = s.lim ∧ StepE E.P r' base s'.cx fr (lone fr cs w) w' out := by
  obtain ⟨F2, q1, q2⟩ := fuse_eq cops
  rw [hF'] at q1
  cases q1
  unfold regF at h
  rw [q2] at h
  have hstart : step E.P (lone fr cs w) = .next (lone (frm fr fr.tmps fr.defers (.inRegion ops (List.range' 0 ops.toList.length) :: k)) cs w) := by
    rw [hF.frm hm, htodo]
    have := step_region_frm (P := E.P) (b := fr) (t := fr.tmps) (d := fr.defers) (k := k) (cs := cs) (w := w) (ops := ops) (id := id)
    rw [List.range_eq_range'] at this
    rw [show ops.toList.length = ops.size by simp]
    exact this
  have main : ∀ {o : Out (T Value)} {s1 : St}, opsIn call round cops [] af.tmps s = rOf o s1 → Fresh r s.next s1.next → ∃ w' r' dfs' cs', Goes w0 r s s1 r' w' ∧ CxR r' base s1.cx fr dfs' cs' ∧ s1.lim = s.lim ∧
      RegEnds E.P r' af.glob o (lone (frm fr fr.tmps fr.defers (.inRegion ops (List.range' 0 ops.toList.length) :: k)) cs w) fr fr.tmps ops.toList dfs' k cs' w' := fun e hf1 =>
    opsIn_ok he.ty c1 c2 ops.toList 0 [] cops [] af.tmps fr.tmps fr.defers cs w r s _ _ (fun j o hj => by rw [Nat.zero_add]; rw [Array.getElem?_toList] at hj; exact hj) hc hF.slots hF.tm hF.size rfl hr hF.cx hb hf1 e
  cases e : opsIn call round cops [] af.tmps s with
  | none => rw [e] at h; exact (rOf_none h).elim
  | some tm s1 =>
    rw [e] at h
    obtain ⟨rfl, rfl⟩ := rOf_inl ((goTm_eq af k tm s1).symm.trans h)
    obtain ⟨w', r', dfs', cs', k1, k2, k3, t', k4, k5, k6⟩ := main (o := .inl tm) e hf
    exact ⟨w', r', k1, k3, frm fr t' dfs' k, cs', rfl, ⟨hF.fn, k5.trans hF.size, k4, fun _ => rfl, by rw [show ({ af with todo := k, tmps := tm } : AF).mode = .run from hm]; exact .run, hF.round.mono k1.le, hF.rk, hF.known, k2⟩, .head hstart k6⟩
  | pan ch s1 =>
    rw [e] at h
    cases hro : af.roundOf with
    | some l => rw [hro] at h; exact (rOf_none h).elim
    | none =>
      rw [hro] at h
      obtain ⟨rfl, rfl⟩ := rOf_inl (show R.some (Step.go { af with mode := .panicking ch, tmps := delT (dstL ops.toList) af.tmps }) s1 = rOf out s' from h)
      obtain ⟨w', r', dfs', cs', k1, k2, k3, ch', t', td, k4, k5, k6, k7⟩ := main (o := .inr ch) e hf
      refine ⟨w', r', k1, k3, { frm fr t' dfs' td with mode := .panicking ch' }, cs', rfl, ⟨hF.fn, k5.trans hF.size, ?_, (fun e => by cases e), .pan k4, hF.round.mono k1.le, hF.rk, hF.known, k2⟩, .head hstart k7⟩
      intro y v hy
      obtain ⟨p1, p2⟩ := delT_get hy
      obtain ⟨p3, v', p4, p5⟩ := hF.tm y v p2
      exact ⟨p3, v', by rw [show ({ frm fr t' dfs' td with mode := .panicking ch' } : Frame).tmps = t' from rfl, k6 y p1]; exact p4, p5.mono k1.le⟩
theorem drawP_run {tm0 : T Value} {cops : List COp} {bef : List Nat} {s s' : St} {out : Out (Rho × T Value)} (h : drawP call round tm0 cops bef s = rOf out s') :
    ∃ q logs s1, opsDraw call round cops [] [] tm0 ⟨s.mem, s.next, 0, [], [], .no⟩ = .some (q, logs) s1 ∧ apartM s.next logs.reverse bef = true ∧ out = .inl q ∧
      s' = ⟨s1.mem, s1.next, s.lim, rdsL s.lim logs s.rd, wrsL s.lim logs s.wr, s.cx⟩ := by
  obtain ⟨mem, next, lim, rd, wr, cx⟩ := s
  unfold drawP at h
  simp only at h
  cases e : opsDraw call round cops [] [] tm0 ⟨mem, next, 0, [], [], .no⟩ with
  | none => rw [e] at h; exact (rOf_none h).elim
  | pan c s1 => rw [e] at h; exact (rOf_none h).elim
  | some p s1 =>
    rw [e] at h
    obtain ⟨q, logs⟩ := p
    obtain ⟨mem1, next1, lim1, rd1, wr1, cx1⟩ := s1
    simp only at h
    cases hA : apartM next logs.reverse bef with
    | false => rw [hA] at h; exact (rOf_none h).elim
    | true =>
      rw [hA] at h
      obtain ⟨rfl, rfl⟩ := rOf_inl (show R.some q _ = rOf out s' from h)
      exact ⟨_, logs, _, rfl, hA, rfl, rfl⟩
theorem takeC_eq : ∀ (l : List COp) (m : Nat), takeC l m = l.take m
  | [], m => by simp [takeC]
  | c :: l, 0 => rfl
  | c :: l, m + 1 => by show c :: takeC l m = _; rw [takeC_eq l m]; rfl
theorem dropC_eq : ∀ (l : List COp) (m : Nat), dropC l m = l.drop m
  | [], m => by simp [dropC]
  | c :: l, 0 => rfl
  | c :: l, m + 1 => by show dropC l m = _; rw [dropC_eq l m]; rfl
/-- How many are drawn: all but one at most; what is left stands behind these. -/
theorem manyD_spec {ops : Array Oper} : manyD ops.size (Region.before ops).toList ≤ ops.size ∧ ops.size ≤ manyD ops.size (Region.before ops).toList + 1 ∧
    ∀ j, manyD ops.size (Region.before ops).toList ≤ j → j < ops.size → ∀ i, i < manyD ops.size (Region.before ops).toList → Bf ops j i := by
  have key : ∀ y : Bool, (y = true → ∃ b, (Region.before ops).toList[ops.size - 1]? = some b ∧ b = 2 ^ (ops.size - 1) - 1) → (Bool.rec (motive := fun _ => Nat) ops.size (Nat.pred ops.size) y) ≤ ops.size ∧ ops.size ≤ (Bool.rec (motive := fun _ => Nat) ops.size (Nat.pred ops.size) y) + 1 ∧
      ∀ j, (Bool.rec (motive := fun _ => Nat) ops.size (Nat.pred ops.size) y) ≤ j → j < ops.size → ∀ i, i < (Bool.rec (motive := fun _ => Nat) ops.size (Nat.pred ops.size) y) → Bf ops j i := by
    intro y hy
    cases y with
    | false => exact ⟨Nat.le_refl ops.size, Nat.le_succ ops.size, fun j (h1 : ops.size ≤ j) h2 => absurd h2 (Nat.not_lt.2 h1)⟩
    | true =>
      obtain ⟨b, hb, hb'⟩ := hy rfl
      refine ⟨Nat.pred_le ops.size, ?_, fun j (h1 : Nat.pred ops.size ≤ j) h2 i (h3 : i < Nat.pred ops.size) => ?_⟩
      · show ops.size ≤ Nat.pred ops.size + 1
        rw [Nat.pred_eq_sub_one]; omega
      · rw [Nat.pred_eq_sub_one] at h1 h3
        have hj : j = ops.size - 1 := by omega
        subst hj
        refine ⟨b, by rw [← Array.getElem?_toList]; exact hb, ?_⟩
        rw [hb', Nat.testBit_two_pow_sub_one]
        simpa using h3
  unfold manyD
  refine key _ fun h => ?_
  split at h
  · exact ⟨_, by rw [← Nat.pred_eq_sub_one]; assumption, Nat.eq_of_beq_eq_true h⟩
  · cases h
theorem compOps_drop {glob n : Nat} {all : List Oper} : ∀ (m : Nat) (l : List Oper) (ds : List Nat) (cs : List COp), compOps E glob n all l ds = some cs → compOps E glob n all (l.drop m) ((l.take m).foldl (fun ds o => consD o.dst ds) ds) = some (cs.drop m)
  | 0, l, ds, cs, h => h
  | m + 1, [], ds, cs, h => by cases h; rfl
  | m + 1, o :: l, ds, cs, h => by
    obtain ⟨g, f, r, rfl, h1, h2, h3, h4⟩ := compOps_cons h
    exact compOps_drop m l _ r h4
theorem drawE_ok (he : EnvOK E) (c1 : CallOK E call) (c2 : RoundOK E round) {af : AF} {fr : Frame} {cs : List Frame} {s s' : St} {out : Out Step} {ops : Array Oper} {cops : List COp} {id m : Nat} {k : List Item}
    (hc : compOps E af.glob af.n ops.toList ops.toList [] = some cops) (hd : drawOk ops.toList (Region.before ops).toList = true) (hmn : m = manyD ops.size (Region.before ops).toList) (h : drawE call round af (cops.take m) (cops.drop m) (Region.before ops).toList (dstL ops.toList) k s = rOf out s') (hF : FR E.P r af s.cx base fr cs) (hm : af.mode = .run) (htodo : af.todo = .code (.region id ops true) :: k)
    (hr : Rel w0 r s.mem w) (hb : Bnd s) (hf : Fresh r s.next s'.next) :
    ∃ w' r', Goes w0 r s s' r' w' ∧ s'.lim = s.lim ∧ StepE E.P r' base s'.cx fr (lone fr cs w) w' out := by
  obtain ⟨m1, m2, m3⟩ := manyD_spec (ops := ops)
  rw [← hmn] at m1 m2 m3
  obtain ⟨hlen, hcomp⟩ := compOps_at ops.toList [] cops hc
  have hn : cops.length = ops.size := by rw [hlen]; simp
  have hloc : ∀ c ∈ cops, ∀ rho tm, Loc (wantG c.guard rho (c.run call round rho tm)) := by
    intro c hcm rho tm
    obtain ⟨i, hi, rfl⟩ := List.getElem_of_mem hcm
    have hio : i < ops.toList.length := by rw [← hlen]; exact hi
    obtain ⟨g, f, p1, p2, p3, p4⟩ := hcomp i ops.toList[i] (List.getElem?_eq_getElem hio)
    rw [List.getElem?_eq_getElem hi] at p1
    rw [Option.some.inj p1]
    exact (opG_ok (ops := ops) (i := i) (keep := keepD ops.toList[i].dst af.glob) he.ty (by rw [← Array.getElem?_toList]; exact List.getElem?_eq_getElem hio) p2 p4).1 call round c1 c2 rho tm
  have hlast := compOps_drop m ops.toList [] cops hc
  have hds : (ops.toList.take m).foldl (fun ds o => consD o.dst ds) [] = dsAt ops.toList m := rfl
  rw [hds] at hlast
  have hsub : ∀ j o, (ops.toList.drop m)[j]? = some o → ops[m + j]? = some o := fun j o hj => by rw [List.getElem?_drop, Array.getElem?_toList] at hj; exact hj
  -- the draw
  have hbind : ∃ q sd, drawP call round af.tmps (cops.take m) (Region.before ops).toList s = rOf (.inl q) sd ∧ endE call round af (cops.drop m) (dstL ops.toList) k q sd = rOf out s' := by
    rcases bind_rOf h with ⟨q, sd, e1, e2⟩ | ⟨ch, e1, _⟩
    · exact ⟨q, sd, e1, e2⟩
    · obtain ⟨_, _, _, _, _, q3, _⟩ := drawP_run (out := .inr ch) e1
      cases q3
  obtain ⟨q, sd, e1, e2⟩ := hbind
  obtain ⟨q', logs, s1, e, hA, q3, q4⟩ := drawP_run e1
  cases q3
  obtain ⟨x, t1, t2, t3, t4, t5, t6, t7⟩ := opsDraw_tra (cops.take m) [] [] af.tmps _ (.inl (q, logs)) s1 (fun c hc => hloc c (List.mem_of_mem_take hc)) rfl e
  have hlm : (cops.take m).length = m := by rw [List.length_take, hn]; omega
  rw [hlm] at t6 t7
  cases t6
  have H : Pre E af.glob af.n ops call round cops x m := by
    refine ⟨fun i o ho => ?_, m1, m2, m3, t1, t4, hd, ?_⟩
    · have := hcomp i o (by rw [Array.getElem?_toList]; exact ho)
      simpa using this
    · rw [t3]
      simpa using hA
  simp only at t2 t3
  -- what the end adds
  unfold endE at e2
  have hsdb : Bnd sd := by rw [q4, t7]; exact Nat.le_trans hb (by rw [← t3]; exact H.nx (Nat.zero_le _) (Nat.le_refl _))
  have hloc2 : Loc (opsIn call round (cops.drop m) (x.Rh m) (x.Tm m)) := lo_opsIn he.ty c1 c2 (ops.toList.drop m) m _ _ hlast hsub _ _
  have hstart : step E.P (lone fr cs w) = .next (lone (frm fr fr.tmps fr.defers (.inRegion ops (Region.linearise .any ops (w.tape w.drawn (.order fr.fn id))) :: k)) cs w.drew) := by
    rw [hF.frm hm, htodo]
    have := step_region_draw_frm (P := E.P) (b := fr) (t := fr.tmps) (d := fr.defers) (k := k) (cs := cs) (w := w) (ops := ops) (id := id)
    rw [he.mixed] at this
    have hsch : Region.schedule true ops (w.tape w.drawn (.order fr.fn id)) = Region.linearise .any ops (w.tape w.drawn (.order fr.fn id)) := by simp [Region.schedule]
    rw [hsch] at this
    exact this
  have main : ∀ {o : Out (T Value)} {s2 : St}, opsIn call round (cops.drop m) (x.Rh m) (x.Tm m) sd = rOf o s2 → Fresh r s.next s2.next → ∃ w' r' dfs' cs', Goes w0 r s s2 r' w' ∧ CxR r' base s2.cx fr dfs' cs' ∧ s2.lim = s.lim ∧
      RegEnds E.P r' af.glob o (lone fr cs w) fr fr.tmps ops.toList dfs' k cs' w' := by
    intro o s2 e3 hf2
    have hn2 : sd.next ≤ s2.next := (hloc2.at' sd o s2 e3 hsdb).next
    have hsdn : sd.next = x.Nx m := by rw [q4, t7]
    obtain ⟨t', w1, r1, g1, g2, g3, g5, g6, g4⟩ := H.draw_ok he.ty c1 c2 (w0 := w0) (w := w.drew) (r := r) (t := fr.tmps) (by rw [t5]; exact hF.tm) hF.size (by rw [t2]; exact hr.drew)
      (by rw [t3]; exact fun b u v => hf2 b u (Nat.lt_of_lt_of_le v (by rw [← hsdn]; exact hn2))) fr fr.defers cs k (w.tape w.drawn (.order fr.fn id))
    have hgo := g1 s sd t3.symm hsdn (by rw [q4, t7])
    have hcx : CxR r1 base sd.cx fr fr.defers cs := by rw [q4]; exact hF.cx.mono hgo.le
    obtain ⟨w2, r2, dfs2, cs2, k1, k2, k3, k4⟩ := opsIn_ok he.ty c1 c2 (b := fr) (k := k) (base := base) (w0 := w0) (ops.toList.drop m) m (dsAt ops.toList m) (cops.drop m) (x.Rh m) (x.Tm m) t' fr.defers cs w1 r1 sd o s2 hsub hlast g5 g2 g3 (H.ds (Nat.le_refl m)).1
      hgo.rel hcx hsdb (hgo.fresh hf2) e3
    refine ⟨w2, r2, dfs2, cs2, hgo.trans k1, k2, k3.trans (by rw [q4]), ?_⟩
    have hrl : (ops.toList.drop m).length = ops.size - m := by simp
    rw [hrl] at k4
    have hto : Steps E.P (lone fr cs w) (lone (frm fr t' fr.defers (.inRegion ops (List.range' m (ops.size - m)) :: k)) cs w1) := .head hstart g4
    unfold RegEnds at k4 ⊢
    cases o with
    | inl tm' =>
      obtain ⟨t2, z1, z2, z3⟩ := k4
      exact ⟨t2, z1, by rw [z2, g3, hF.size], hto.trans z3⟩
    | inr ch =>
      obtain ⟨ch', t2, td, z1, z2, z3, z4⟩ := k4
      exact ⟨ch', t2, td, z1, by rw [z2, g3, hF.size], fun d hd => by rw [z3 d hd, g6 d hd], hto.trans z4⟩
  cases e3 : opsIn call round (cops.drop m) (x.Rh m) (x.Tm m) sd with
  | none => rw [e3] at e2; exact (rOf_none e2).elim
  | some tm s2 =>
    rw [e3] at e2
    obtain ⟨rfl, rfl⟩ := rOf_inl ((goTm_eq af k tm s2).symm.trans e2)
    obtain ⟨w', r', dfs', cs', k1, k2, k3, t', k4, k5, k6⟩ := main (o := .inl tm) e3 hf
    exact ⟨w', r', k1, k3, frm fr t' dfs' k, cs', rfl, ⟨hF.fn, k5.trans hF.size, k4, fun _ => rfl, by rw [show ({ af with todo := k, tmps := tm } : AF).mode = .run from hm]; exact .run, hF.round.mono k1.le, hF.rk, hF.known, k2⟩, k6⟩
  | pan ch s2 =>
    rw [e3] at e2
    cases hro : af.roundOf with
    | some l => rw [hro] at e2; exact (rOf_none e2).elim
    | none =>
      rw [hro] at e2
      obtain ⟨rfl, rfl⟩ := rOf_inl (show R.some (Step.go { af with mode := .panicking ch, tmps := delT (dstL ops.toList) af.tmps }) s2 = rOf out s' from e2)
      obtain ⟨w', r', dfs', cs', k1, k2, k3, ch', t', td, k4, k5, k6, k7⟩ := main (o := .inr ch) e3 hf
      refine ⟨w', r', k1, k3, { frm fr t' dfs' td with mode := .panicking ch' }, cs', rfl, ⟨hF.fn, k5.trans hF.size, ?_, (fun e => by cases e), .pan k4, hF.round.mono k1.le, hF.rk, hF.known, k2⟩, k7⟩
      intro y v hy
      obtain ⟨p1, p2⟩ := delT_get hy
      obtain ⟨p3, v', p4, p5⟩ := hF.tm y v p2
      exact ⟨p3, v', by rw [show ({ frm fr t' dfs' td with mode := .panicking ch' } : Frame).tmps = t' from rfl, k6 y p1]; exact p4, p5.mono k1.le⟩
theorem lo_drawP {tm0 : T Value} {cops : List COp} {bef : List Nat} (hloc : ∀ c ∈ cops, ∀ rho tm, Loc (wantG c.guard rho (c.run call round rho tm))) : Loc (drawP call round tm0 cops bef) := ⟨fun s o s' h hb => by
  obtain ⟨q, logs, s1, e, hA, rfl, rfl⟩ := drawP_run h
  obtain ⟨Rd, Wr, tm', es, q1, q2, _, q4, q5⟩ := opsDraw_loc cops [] [] tm0 _ (.inl (q, logs)) s1 hloc rfl (Nat.zero_le _) e
  cases q1
  refine ⟨Rd, Wr, rdsL s.lim logs [], wrsL s.lim logs [], ⟨rdsL_eq _ _ _, wrsL_eq _ _ _, q2.nxt, rfl, Nat.le_trans hb q2.nxt, q2.rlt, q2.wlt, q2.old, fun t e1 e2 e3 e4 => ?_⟩, fun l e1 e2 => ?_, fun l e1 e2 => ?_⟩
  · obtain ⟨t', p1, p2, p3, p4, p5, p6, p7, p8⟩ := q2.any ⟨t.mem, t.next, 0, [], [], .no⟩ e1 rfl rfl e4
    obtain ⟨tm1, tn1, tl1, tr1, tw1, tc1⟩ := t'
    simp only at p2
    refine ⟨⟨tm1, tn1, t.lim, rdsL t.lim logs t.rd, wrsL t.lim logs t.wr, t.cx⟩, ?_, p2, e2, e3, by rw [e2]; exact rdsL_eq _ _ _, by rw [e2]; exact wrsL_eq _ _ _, p7, p8⟩
    obtain ⟨mem, next, lim, rd, wr, cx⟩ := t
    unfold drawP
    simp only at p1 e1 ⊢
    rw [p1]
    simp only [rOf]
    rw [e1, hA]
  · obtain ⟨g, a, b⟩ := q4 l e1 (Nat.lt_of_lt_of_le e2 hb)
    exact rdsL_mem e2 a b
  · obtain ⟨g, a, b⟩ := q5 l e1 (Nat.lt_of_lt_of_le e2 hb)
    exact wrsL_mem e2 a b⟩
end
end Go.Proofs.Ytofanlcjeohcjaa.Am
/- Frames beside the evaluator's: loops over functions, code of every kind. -/
namespace Go.Proofs.Ytofanlcjeohcjaa.Am
open Go.RowKit

section
variable {E : Env} {call round : CallT} {w0 w : World} {r : Inj} {base : List Deferred × List Frame}
theorem rdO {l : Nat} {s s1 : St} {c : Cell} (h : rdC l s = .some c s1) (_hr : Rel w0 r s.mem w) : T.get s.mem l = some c ∧ Same s s1 := rdC_some h
theorem begR_ok {af : AF} {fr : Frame} {cs : List Frame} {s s' : St} {out : Out Step} {k : List Item} (h : begR af k s = rOf out s') (hF : FR E.P r af s.cx base fr cs) (hm : af.mode = .run) (htodo : af.todo = .beginRound :: k) (hr : Rel w0 r s.mem w) :
    ∃ w' r', Goes w0 r s s' r' w' ∧ s'.lim = s.lim ∧ StepE E.P r' base s'.cx fr (lone fr cs w) w' out := by
  unfold begR at h
  cases hro : af.roundOf with
  | none => rw [hro] at h; exact (rOf_none h).elim
  | some l =>
    rw [hro] at h
    rcases bind_rOf h with ⟨c, s1, e1, e2⟩ | ⟨c, e1, _⟩
    · obtain ⟨q1, q2⟩ := rdC_some e1
      have fin : ∃ pe f n g tm ps as bd df, c = .O (.loop .ready pe f n g tm ps as bd df) ∧ M.bind (wrC l (.O (.loop .busy pe f n g tm ps as bd df))) (fun _ => goTo af k) s1 = rOf out s' := by
        cases c with
        | C a b => exact (rOf_none e2).elim
        | O o =>
          cases o with
          | loop st pe f n g tm ps as bd df =>
            cases st with
            | ready => exact ⟨pe, f, n, g, tm, ps, as, bd, df, rfl, e2⟩
            | _ => exact (rOf_none e2).elim
          | _ => exact (rOf_none e2).elim
      obtain ⟨pe, f, n, g, tm, ps, as, bd, df, rfl, e2⟩ := fin
      rcases bind_rOf e2 with ⟨u, s2, e3, e4⟩ | ⟨c, e3, _⟩
      · obtain ⟨rfl, rfl⟩ := rOf_inl ((goTo_eq af k s2).symm.trans e4)
        obtain ⟨b', d, o', g1, g2, g3⟩ := hr.obj _ _ q1 rfl
        have hro2 := hF.round
        rw [hro] at hro2
        cases hfr : fr.roundOf with
        | none => rw [hfr] at hro2; exact hro2.elim
        | some l' =>
          rw [hfr] at hro2
          obtain ⟨d', hro2⟩ := hro2
          rw [g1] at hro2
          cases hro2
          cases o' with
          | loop L =>
            obtain ⟨k1, k2, k3, k4, k5, k6, k7, k8, k9⟩ := g3
            have hOR : OR r (.loop .busy pe f n g tm ps as bd df) (.loop { L with state := .busy }) := ⟨rfl, k2, k3, k4, k5, k6, k7, k8, k9⟩
            obtain ⟨p1, p2, p3⟩ := wrO_ok e3 (by rw [q2.1]; exact hr) (by rw [q2.1]; exact q1) rfl g1 hOR rfl
            have hF' := hF.to k
            rw [← hm] at hF'
            refine ⟨_, r, (Goes.same q2 hr).trans p1, p2.trans q2.2.2.1, frm fr fr.tmps fr.defers k, cs, rfl, by rw [p3, q2.2.2.2]; exact hF', .one ?_⟩
            rw [hF.frm hm, htodo]
            refine step_lone_go ?_
            have hrun : (do ((frm fr fr.tmps fr.defers (.beginRound :: k)).roundOf).elim (stuck "beginRound: no round") Instr.beginRound; pure Next.skip : Sem Next).run E.P w = .ok .skip (World.setO w b' (.loop { L with state := .busy })) := by
              rw [show (frm fr fr.tmps fr.defers (.beginRound :: k)).roundOf = some b' from hfr]
              simp only [Option.elim_some, Instr.beginRound, Sem.run_bind, run_getLoop g2, Result.andThen_ok, run_setLoop g2, k1, Sem.run_pure]
            have e5 : stepG E.P true { frame := frm fr fr.tmps fr.defers (.beginRound :: k), callers := cs, status := .running, dying := none } w =
                stepG.apply E.P true (frm fr fr.tmps fr.defers (.beginRound :: k)) cs none (do ((frm fr fr.tmps fr.defers (.beginRound :: k)).roundOf).elim (stuck "beginRound: no round") Instr.beginRound; pure Next.skip) w := by
              simp [stepG, stepG.exec, frm]
            rw [e5]
            simp only [stepG.apply, Sem.runT_eq, hrun, GStep.bare_after]
            rfl
          | _ => exact g3.elim
      · exact ((np_wrC _ _).no _ _ _ e3).elim
    · exact ((np_rdC _).no _ _ _ e1).elim

/-- Where a loop's deferred calls are kept. -/
theorem dfsR_ok {af : AF} {fr : Frame} {cs : List Frame} {s s' : St} {d : Nat} (h : dfsR af.roundOf s = .some d s') (hF : FR E.P r af s.cx base fr cs) (hr : Rel w0 r s.mem w) (hf : Fresh r s.next s'.next) :
    ∃ w' r' b' mark, Goes w0 r s s' r' w' ∧ s'.lim = s.lim ∧ (∃ o, r'.blk d = some (b', o)) ∧ CxR r' base s'.cx fr (mark ++ fr.defers) cs ∧
      (∀ fn tm ps as bd, (Instr.enterLoop fn tm ps as bd fr.roundOf).run E.P w = .ok (w'.heap.size, mark) (w'.alloc (.loop { state := .ready, pending := none, fn, tmps := tm, params := ps, assign := as, body := bd, defers := b' }))) := by
  unfold dfsR at h
  have hro2 := hF.round
  cases hro : af.roundOf with
  | none =>
    rw [hro] at h hro2
    have hfr : fr.roundOf = none := by
      cases hx : fr.roundOf with
      | none => rfl
      | some y => rw [hx] at hro2; exact hro2.elim
    obtain ⟨d1, s1, e1, e2⟩ := bind_some h
    have hn : s.next = s1.next - 1 ∧ s1.next = s.next + 1 := by have := (newO_some e1).2.2.1; omega
    have e2' : (match s1.cx with | .cx up (some dfs) => M.bind (putCx (.cx up (some ({ target := .collected d1, args := #[] } :: dfs)))) fun _ => M.pure d1 | _ => M.fail) s1 = .some d s' := e2
    have hcx1 : s1.cx = s.cx := (newO_some e1).2.2.2.2
    have hc := hF.cx
    cases hcx : s1.cx with
    | no => rw [hcx] at e2'; cases e2'
    | cx up dd =>
      cases dd with
      | none => rw [hcx] at e2'; cases e2'
      | some dfs =>
        rw [hcx] at e2'
        have e3 : R.some d1 ⟨s1.mem, s1.next, s1.lim, s1.rd, s1.wr, .cx up (some ({ target := .collected d1, args := #[] } :: dfs))⟩ = R.some d s' := e2'
        cases e3
        obtain ⟨k1, k2, k3, k4, k5⟩ := newO_ok (o' := .deferred (some [])) e1 hr hf rfl (by simp [OR])
        rw [← hcx1, hcx] at hc
        obtain ⟨c1, c2, c3⟩ := hc
        refine ⟨_, _, w.heap.size, [{ target := .collected w.heap.size, args := #[] }], ⟨k2.le, k2.nxt, k2.domB, k2.domE, k2.rel⟩, k4, ⟨0, k3⟩, ?_, ?_⟩
        · have h1 : CxR (r.add s.next (w.heap.size, 0)) base (.cx up (some dfs)) fr fr.defers cs := CxR.mono k2.le (show CxR r base (.cx up (some dfs)) fr fr.defers cs from ⟨c1, c2, c3⟩)
          exact ⟨h1.1, h1.2.1, .cons (.coll k3) h1.2.2⟩
        · intro fn tm ps as bd
          simp [Instr.enterLoop, hfr, newObj, Sem.run]
  | some l =>
    rw [hro] at h hro2
    obtain ⟨c, s1, e1, e2⟩ := bind_some h
    obtain ⟨q1, q2⟩ := rdC_some e1
    cases c with
    | C a b => cases e2
    | O o =>
      cases o with
      | loop st pe f n g tm ps as bd df =>
        obtain ⟨rfl, rfl⟩ := pure_some e2
        obtain ⟨b', dd, o', g1, g2, g3⟩ := hr.obj _ _ q1 rfl
        cases hfr : fr.roundOf with
        | none => rw [hfr] at hro2; exact hro2.elim
        | some l' =>
          rw [hfr] at hro2
          obtain ⟨d', hro2⟩ := hro2
          rw [g1] at hro2
          cases hro2
          cases o' with
          | loop L =>
            obtain ⟨k1, k2, k3, k4, k5, k6, k7, k8, k9⟩ := g3
            refine ⟨w, r, L.defers, [], .same q2 hr, q2.2.2.1, k9, by rw [q2.2.2.2]; exact hF.cx, ?_⟩
            intro fn tm ps as bd
            simp [Instr.enterLoop, run_getLoop g2, newObj, Sem.run]
          | _ => exact g3.elim
      | _ => cases e2

theorem lo_dfsR (ro : Option Nat) : Loc (dfsR ro) := by
  unfold dfsR
  cases ro with
  | none =>
    refine lo_bind (lo_newO _) fun d => lo_bind lo_getCx fun cx => ?_
    cases cx with
    | no => exact lo_fail
    | cx up dfs =>
      cases dfs with
      | none => exact lo_fail
      | some dfs => exact lo_bind (lo_putCx _) fun _ => lo_pure _
  | some l =>
    refine lo_bind (lo_rdC _) fun c => ?_
    cases c with
    | C a b => exact lo_fail
    | O o => cases o <;> first | exact lo_pure _ | exact lo_fail
theorem lo_goTo (af : AF) (k : List Item) : Loc (goTo af k) := lo_pure _
theorem lo_goTm (af : AF) (k : List Item) (tm : T Value) : Loc (goTm af k tm) := lo_pure _
theorem lo_goMo (af : AF) (m : FrameMode) (tm : T Value) : Loc (goMo af m tm) := lo_pure _
theorem lo_afterR (af : AF) (k : List Item) (l : Nat) : Loc (afterR af k l) := by
  unfold afterR
  refine lo_bind (lo_rdC _) fun c => ?_
  cases c with
  | C a b => exact lo_fail
  | O o => cases o <;> first | exact lo_fail | exact lo_chk _ (lo_bind (lo_wrC _ _) fun _ => lo_goTo _ _)
theorem lo_callR (c1 : CallOK E call) (fv : Value) (l : Nat) : Loc (callR E call fv l) := by
  unfold callR
  split
  · exact lo_chk _ (c1.loc _ _)
  · exact lo_fail
theorem np_dfsR (ro : Option Nat) : NoPan (dfsR ro) := by
  unfold dfsR
  cases ro with
  | none =>
    refine np_bind (np_newO _) fun d => np_bind np_getCx fun cx => ?_
    cases cx with
    | no => exact np_fail
    | cx up dfs =>
      cases dfs with
      | none => exact np_fail
      | some dfs => exact np_bind (np_putCx _) fun _ => np_pure _
  | some l =>
    refine np_bind (np_rdC _) fun c => ?_
    cases c with
    | C a b => exact np_fail
    | O o => cases o <;> first | exact np_pure _ | exact np_fail
theorem np_afterR (af : AF) (k : List Item) (l : Nat) : NoPan (afterR af k l) := by
  unfold afterR
  refine np_bind (np_rdC _) fun c => ?_
  cases c with
  | C a b => exact np_fail
  | O o => cases o <;> first | exact np_fail | exact np_chk _ (np_bind (np_wrC _ _) fun _ => np_pure _)
theorem lo_rangeF (c1 : CallOK E call) (af : AF) (fv : Value) (ps : Array Nat) (as bd : Code) (k : List Item) : Loc (rangeF E call af fv ps as bd k) :=
  lo_bind (lo_dfsR _) fun _ => lo_bind (lo_newO _) fun _ => lo_bind (lo_noP (lo_callR c1 _ _)) fun _ => lo_afterR _ _ _
theorem noP_np {α : Type} (m : M α) : NoPan (noP m) := ⟨fun s c s' h => by
  unfold noP at h
  cases e : m s <;> rw [e] at h <;> cases h⟩
theorem rangeF_ok (_he : EnvOK E) (c1 : CallOK E call) {af : AF} {fr : Frame} {cs : List Frame} {s s' : St} {out : Out Step} {fo : Operand} {fv : Value} {ps : Array Nat} {as bd : Code} {k : List Item}
    (h : rangeF E call af fv ps as bd k s = rOf out s') (hF : FR E.P r af s.cx base fr cs) (hm : af.mode = .run) (htodo : af.todo = .code (.rangeFunc fo ps as bd) :: k) (hv : VR r fv (Act.eval ⟨fr.tmps, fr.defers⟩ fo)) (hr : Rel w0 r s.mem w) (hb : Bnd s) (hf : Fresh r s.next s'.next) :
    ∃ w' r', Goes w0 r s s' r' w' ∧ s'.lim = s.lim ∧ StepE E.P r' base s'.cx fr (lone fr cs w) w' out := by
  unfold rangeF at h
  rcases bind_rOf h with ⟨d, s1, e1, e2⟩ | ⟨c, e1, _⟩
  case inr => exact ((np_dfsR _).no _ _ _ e1).elim
  have L1 := (lo_dfsR af.roundOf).at' s (.inl d) s1 e1 hb
  have L2 := (lo_bind (lo_newO (.loop .ready none af.fn af.n af.glob af.tmps ps.toList as bd d)) fun l => lo_bind (lo_noP (lo_callR c1 fv l)) fun _ => lo_afterR af k l).at' s1 out s' e2 L1.bnd
  obtain ⟨w1, r1, b', mark, g1, g2, ⟨o1, g3⟩, g4, g5⟩ := dfsR_ok e1 hF hr (fun b x y => hf b x (Nat.lt_of_lt_of_le y L2.next))
  rcases bind_rOf e2 with ⟨l, s2, e3, e4⟩ | ⟨c, e3, _⟩
  case inr => exact ((np_newO _).no _ _ _ e3).elim
  have L3 := (lo_newO (.loop .ready none af.fn af.n af.glob af.tmps ps.toList as bd d)).at' s1 (.inl l) s2 e3 L1.bnd
  have L4 := (lo_bind (lo_noP (lo_callR c1 fv l)) fun _ => lo_afterR af k l).at' s2 out s' e4 L3.bnd
  have hf1 := g1.fresh hf
  have hle2 : ∀ x, r1.le (r1.add s1.next x) := fun x => Inj.add_le x (hf1 s1.next (Nat.le_refl _) (by have := (newO_some e3).2.2.1; have := L4.next; omega)).1
  obtain ⟨k1, k2, k3, k4, k5⟩ := newO_ok (o' := .loop { state := .ready, pending := none, fn := fr.fn, tmps := fr.tmps, params := ps, assign := as, body := bd, defers := b' }) e3 g1.rel (fun b x y => hf1 b x (Nat.lt_of_lt_of_le y L4.next)) rfl
    ⟨rfl, rfl, hF.fn, hF.size, hF.tm.mono g1.le, rfl, rfl, rfl, o1, g3⟩
  rcases bind_rOf e4 with ⟨v, s3, e5, e6⟩ | ⟨c, e5, _⟩
  case inr => exact ((noP_np _).no _ _ _ e5).elim
  have L5 := (lo_noP (lo_callR c1 fv l)).at' s2 (.inl v) s3 e5 L3.bnd
  have L6 := (lo_afterR af k l).at' s3 out s' e6 L5.bnd
  obtain ⟨v0, q0, e5⟩ := noP_rOf (o := .inl v) e5
  cases q0
  have hf2 := k2.fresh hf1
  -- the call
  have fin : ∃ f first cap, fv = .func (.func f) first cap ∧ E.ext.get f = none ∧ call f (first.toList ++ (.func (.yield l) #[] #[] :: cap.toList)) s2 = .some v s3 := by
    unfold callR at e5
    split at e5
    · rename_i f first cap _
      cases hn : E.ext.get f with
      | none => rw [hn] at e5; exact ⟨_, _, _, rfl, hn, e5⟩
      | some m => rw [hn] at e5; cases e5
    · cases e5
  obtain ⟨f, first, cap, rfl, hnx, e5⟩ := fin
  obtain ⟨f', a', c', q1, q2, q3, q4⟩ := hv.func_inv
  cases f' with
  | func f' =>
    simp only [FnR] at q2
    subst q2
    have hle := Inj.le_trans g1.le k2.le
    have hyield : VR (r1.add s1.next (w1.heap.size, 0)) (.func (.yield l) #[] #[]) (.func (.yield w1.heap.size) #[] #[]) := .func ⟨0, k3⟩ rfl (fun i v v' e => by simp at e) rfl (fun i v v' e => by simp at e)
    obtain ⟨p1, p2⟩ := (c1.ok (out := .inl v) e5 k2.rel L3.bnd (fun b x y => hf2 b x (Nat.lt_of_lt_of_le y L6.next)) (args' := a'.toList ++ (.func (.yield w1.heap.size) #[] #[] :: c'.toList)) ((q3.mono hle).append (.cons hyield (q4.mono hle)))).resolve_right fun x => x.1 hnx
    obtain ⟨w3, r3, p3, p4, p5, v', p6, p7⟩ := p2 (frm fr fr.tmps (mark ++ fr.defers) (.inRangeFunc w1.heap.size :: k)) cs
    have hstart : step E.P (lone fr cs w) = .next (lone (Frame.enter E.P f (a'.toList ++ (.func (.yield w1.heap.size) #[] #[] :: c'.toList)).toArray .normal) (frm fr fr.tmps (mark ++ fr.defers) (.inRangeFunc w1.heap.size :: k) :: cs)
        (w1.alloc (.loop { state := .ready, pending := none, fn := fr.fn, tmps := fr.tmps, params := ps, assign := as, body := bd, defers := b' }))) := by
      rw [hF.frm hm, htodo]
      refine step_lone_go ?_
      have hrun := g5 fr.fn fr.tmps ps as bd
      have hev : (frm fr fr.tmps (mark ++ fr.defers) (.inRangeFunc w1.heap.size :: k)).eval fo = .func (.func f) a' c' := by
        rw [frm_eval]
        rw [← q1]
        cases fo <;> rfl
      have hinv : ∀ w, (do let d ← resolve (frm fr fr.tmps (mark ++ fr.defers) (.inRangeFunc w1.heap.size :: k)).eval { callee := .value fo, args := #[.const (.func (.yield w1.heap.size) #[] #[])], argTypes := #[] } 0; invoke d.target d.args : Sem Next).run E.P w =
          .ok (.enter f (a'.toList ++ (.func (.yield w1.heap.size) #[] #[] :: c'.toList)).toArray) w := by
        intro w
        rw [resolve_value _ rfl hev]
        have e1 : (a' ++ Array.map (frm fr fr.tmps (mark ++ fr.defers) (.inRangeFunc w1.heap.size :: k)).eval #[.const (.func (.yield w1.heap.size) #[] #[])] ++ c') = (a'.toList ++ (.func (.yield w1.heap.size) #[] #[] :: c'.toList)).toArray := by
          apply Array.toList_inj.1
          simp [Frame.eval]
        simp only [Sem.run_bind, Sem.run_pure, Result.andThen_ok, invoke, e1, p1]
      have e5 : (stepG E.P true { frame := frm fr fr.tmps fr.defers (.code (.rangeFunc fo ps as bd) :: k), callers := cs, status := .running, dying := none } w).bare =
          (stepG.apply E.P true (frm fr fr.tmps (mark ++ fr.defers) (.inRangeFunc w1.heap.size :: k)) cs none (do let d ← resolve (frm fr fr.tmps (mark ++ fr.defers) (.inRangeFunc w1.heap.size :: k)).eval { callee := .value fo, args := #[.const (.func (.yield w1.heap.size) #[] #[])], argTypes := #[] } 0; invoke d.target d.args)
            (w1.alloc (.loop { state := .ready, pending := none, fn := fr.fn, tmps := fr.tmps, params := ps, assign := as, body := bd, defers := b' }))).bare := by
        have hro : (frm fr fr.tmps fr.defers (.code (.rangeFunc fo ps as bd) :: k)).roundOf = fr.roundOf := rfl
        simp only [stepG, stepG.exec, frm, Sem.runT_eq, hrun, GStep.bare_after]
      rw [e5]
      simp only [stepG.apply, Sem.runT_eq, hinv, GStep.bare_after]
      rfl
    -- behind it
    have e6' := e6
    unfold afterR at e6
    rcases bind_rOf e6 with ⟨c, s4, e7, e8⟩ | ⟨c, e7, _⟩
    case inr => exact ((np_rdC _).no _ _ _ e7).elim
    obtain ⟨z1, z2⟩ := rdC_some e7
    have fin2 : ∃ st pe f n g tm ps as bd df, c = .O (.loop st pe f n g tm ps as bd df) ∧ st ≠ .busy ∧ M.bind (wrC l (.O (.loop .exhausted pe f n g tm ps as bd df))) (fun _ => goTo af (pendL pe ++ k)) s4 = rOf out s' := by
      cases c with
      | C a b => exact (rOf_none e8).elim
      | O o =>
        cases o with
        | loop st pe f n g tm ps as bd df =>
          cases st with
          | busy => exact (rOf_none e8).elim
          | ready => exact ⟨_, _, _, _, _, _, _, _, _, _, rfl, (by intro h; cases h), e8⟩
          | done => exact ⟨_, _, _, _, _, _, _, _, _, _, rfl, (by intro h; cases h), e8⟩
          | exhausted => exact ⟨_, _, _, _, _, _, _, _, _, _, rfl, (by intro h; cases h), e8⟩
        | _ => exact (rOf_none e8).elim
    obtain ⟨st, pe, lf, ln, lg, ltm, lps, las, lbd, ldf, rfl, hst, e8⟩ := fin2
    rcases bind_rOf e8 with ⟨u, s5, e9, e10⟩ | ⟨c, e9, _⟩
    case inr => exact ((np_wrC _ _).no _ _ _ e9).elim
    obtain ⟨rfl, rfl⟩ := rOf_inl ((goTo_eq af _ s5).symm.trans e10)
    obtain ⟨lb, ld, lo, y1, y2, y3⟩ := p3.rel.obj _ _ z1 rfl
    have hlb : r3.blk l = some (w1.heap.size, 0) := p3.le.1 _ _ k3
    rw [hlb] at y1
    cases y1
    cases lo with
    | loop LL =>
      obtain ⟨j1, j2, j3, j4, j5, j6, j7, j8, j9⟩ := y3
      have hOR : OR r3 (.loop .exhausted pe lf ln lg ltm lps las lbd ldf) (.loop { LL with state := .exhausted }) := ⟨rfl, j2, j3, j4, j5, j6, j7, j8, j9⟩
      obtain ⟨x1, x2, x3⟩ := wrO_ok e9 (by rw [z2.1]; exact p3.rel) (by rw [z2.1]; exact z1) rfl hlb hOR rfl
      have hgo : Goes w0 r s s' r3 (World.setO w3 w1.heap.size (.loop { LL with state := .exhausted })) := g1.trans (k2.trans (p3.trans ((Goes.same z2 p3.rel).trans x1)))
      refine ⟨_, r3, hgo, x2.trans (z2.2.2.1.trans (p4.trans (k4.trans g2))), frm fr fr.tmps (mark ++ fr.defers) (pendL pe ++ k), cs, rfl, ?_, ?_⟩
      · refine ⟨hF.fn, hF.size, hF.tm.mono hgo.le, fun _ => rfl, by rw [show ({ af with todo := pendL pe ++ k } : AF).mode = .run from hm]; exact .run, hF.round.mono hgo.le, hF.rk, hF.known, ?_⟩
        rw [x3, z2.2.2.2, p5, k5]
        exact g4.mono (Inj.le_trans k2.le p3.le)
      · refine .head hstart (p7.trans (.one ?_))
        refine step_lone_go ?_
        have hrun : (Instr.endLoop w1.heap.size).run E.P w3 = .ok pe (World.setO w3 w1.heap.size (.loop { LL with state := .exhausted })) := by
          have hb : (LL.state == LoopState.busy) = false := by
            rw [j1]
            cases st <;> first | rfl | exact absurd rfl hst
          simp only [Instr.endLoop, Sem.run_bind, run_getLoop y2, Result.andThen_ok, hb, Bool.false_eq_true, if_false, run_setLoop y2, Sem.run_pure, j2]
        have hfin : (frm fr fr.tmps (mark ++ fr.defers) (.inRangeFunc w1.heap.size :: k)).finish v' = frm fr fr.tmps (mark ++ fr.defers) (.endRangeFunc w1.heap.size :: k) := rfl
        rw [hfin]
        have hpend : (pe.map Item.code).toList ++ k = pendL pe ++ k := by cases pe <;> rfl
        simp only [stepG, stepG.exec, frm, Sem.runT_eq, hrun, GStep.bare_after, hpend]
        rfl
    | _ => exact y3.elim
  | _ => simp only [FnR] at q2
end
end Go.Proofs.Ytofanlcjeohcjaa.Am
/- Frames beside the evaluator's: code of every kind; leaving a frame. -/
namespace Go.Proofs.Ytofanlcjeohcjaa.Am
open Go.RowKit

section
variable {E : Env} {call round : CallT} {w0 w : World} {r : Inj} {base : List Deferred × List Frame}
theorem codeF_eq (call round : CallT) (af : AF) (k : List Item) (c : Code) {f : CodeT} (h : compC E af.glob af.n c = .mk f) : codeF E call round af k c = f call round af k := by
  obtain ⟨fn, n, g, tm, todo, mo, ki, ro⟩ := af
  show Cl.rec (motive := fun _ => M Step) (fun f => f call round (AF.mk fn n g tm todo mo ki ro) k) (compC E g n c) = _
  rw [show compC E g n c = .mk f from h]
theorem lo_condF (af : AF) (a b : Code) (k : List Item) (v : Value) : Loc (condF af a b k v) := by
  cases v with
  | bool t => cases t <;> exact lo_goTo _ _
  | _ => exact lo_fail
theorem lo_endR (l : Nat) (jump : Option Code) : Loc (endR l jump) := by
  unfold endR
  refine lo_bind (lo_rdC _) fun c => ?_
  cases c with
  | C a b => exact lo_fail
  | O o => cases o <;> first | exact lo_fail | exact lo_bind (lo_wrC _ _) fun _ => lo_pure _
theorem lo_leaveF (af : AF) (jump : Option Code) : Loc (leaveF af jump) := lo_opt _ (lo_chk _ (lo_goMo _ _ _)) fun l => lo_endR l jump
theorem lo_jumpF (af : AF) (jump : Code) (k : Option (List Item)) : Loc (jumpF af jump k) := lo_opt _ (lo_leaveF _ _) fun _k => lo_goTo _ _
theorem lo_regF (he : EnvOK E) (c1 : CallOK E call) (c2 : RoundOK E round) {af : AF} {ops : Array Oper} {cops : List COp} {F : RT} {ds : List Nat} {k : List Item} (hc : compOps E af.glob af.n ops.toList ops.toList [] = some cops) (hF' : fuse cops = .mk F) : Loc (regF call round af ds F k) := by
  obtain ⟨F2, q1, q2⟩ := fuse_eq cops
  rw [hF'] at q1
  cases q1
  have : regF call round af ds F k = fun s => R.rec (motive := fun _ => R Step) .none (fun tm s => goTm af k tm s) (fun c s => Option.rec (motive := fun _ => M Step) (raiseF af ds c) (fun _ => M.fail) af.roundOf s) (opsIn call round cops [] af.tmps s) := by
    funext s
    unfold regF
    rw [q2]
    cases opsIn call round cops [] af.tmps s with
    | none => rfl
    | some a s => rfl
    | pan c s => cases af.roundOf <;> rfl
  rw [this]
  refine lo_catch (f := fun tm => goTm af k tm) (g := fun c => Option.rec (motive := fun _ => M Step) (raiseF af ds c) (fun _ => M.fail) af.roundOf) ?_ (fun tm => lo_goTm _ _ _) fun c => lo_opt _ (lo_goMo _ _ _) fun _ => lo_fail
  exact lo_opsIn he.ty c1 c2 ops.toList 0 [] cops hc (fun j o hj => by rw [Nat.zero_add]; rw [Array.getElem?_toList] at hj; exact hj) [] af.tmps
theorem lo_drawE (he : EnvOK E) (c1 : CallOK E call) (c2 : RoundOK E round) {af : AF} {ops : Array Oper} {cops : List COp} {bef ds : List Nat} {m : Nat} {k : List Item} (hc : compOps E af.glob af.n ops.toList ops.toList [] = some cops)
    (hloc : ∀ c ∈ cops, ∀ rho tm, Loc (wantG c.guard rho (c.run call round rho tm))) : Loc (drawE call round af (cops.take m) (cops.drop m) bef ds k) := by
  refine lo_bind (lo_drawP fun c hcm => hloc c (List.mem_of_mem_take hcm)) fun q => ?_
  refine lo_catch (f := fun tm => goTm af k tm) (g := fun c => Option.rec (motive := fun _ => M Step) (raiseF af ds c) (fun _ => M.fail) af.roundOf) ?_ (fun tm => lo_goTm _ _ _) fun c => lo_opt _ (lo_goMo _ _ _) fun _ => lo_fail
  exact lo_opsIn he.ty c1 c2 (ops.toList.drop m) m _ _ (compOps_drop m ops.toList [] cops hc) (fun j o hj => by rw [List.getElem?_drop, Array.getElem?_toList] at hj; exact hj) _ _
theorem compReg_cases (g n : Nat) (ops : Array Oper) (d : Bool) : (∃ f, compReg E g n ops d = .mk f ∧ f = fun _ _ _ _ => M.fail) ∨ ∃ cops F, compOps E g n ops.toList ops.toList [] = some cops ∧ fuse cops = .mk F ∧
    ((d = false ∧ compReg E g n ops d = .mk fun call round fr k => regF call round fr (dstL ops.toList) F k) ∨ (d = true ∧ drawOk ops.toList (Region.before ops).toList = true ∧ ∃ m, m = manyD ops.size (Region.before ops).toList ∧ compReg E g n ops d = .mk fun call round fr k => drawE call round fr (cops.take m) (cops.drop m) (Region.before ops).toList (dstL ops.toList) k)) := by
  unfold compReg
  cases e : compOps E g n ops.toList ops.toList [] with
  | none => exact .inl ⟨_, rfl, rfl⟩
  | some cops =>
    obtain ⟨F, q1, _⟩ := fuse_eq cops
    cases d with
    | false => exact .inr ⟨cops, F, rfl, q1, .inl ⟨rfl, by simp only [q1]⟩⟩
    | true =>
      cases hd : drawOk ops.toList (Region.before ops).toList with
      | false => exact .inl ⟨_, rfl, rfl⟩
      | true =>
        refine .inr ⟨cops, F, rfl, q1, .inr ⟨rfl, rfl, _, rfl, ?_⟩⟩
        have hn : cops.length = ops.size := by rw [(compOps_at ops.toList [] cops e).1]; simp
        show drawC cops (dstL ops.toList) (Region.before ops).toList (manyD cops.length (Region.before ops).toList) = _
        unfold drawC
        simp only [takeC_eq, dropC_eq, hn]
theorem lo_hloc (he : EnvOK E) (c1 : CallOK E call) (c2 : RoundOK E round) {g n : Nat} {ops : Array Oper} {cops : List COp} (hc : compOps E g n ops.toList ops.toList [] = some cops) : ∀ c ∈ cops, ∀ rho tm, Loc (wantG c.guard rho (c.run call round rho tm)) := by
  obtain ⟨hlen, hcomp⟩ := compOps_at ops.toList [] cops hc
  intro c hcm rho tm
  obtain ⟨i, hi, rfl⟩ := List.getElem_of_mem hcm
  have hio : i < ops.toList.length := by rw [← hlen]; exact hi
  obtain ⟨g, f, p1, p2, p3, p4⟩ := hcomp i ops.toList[i] (List.getElem?_eq_getElem hio)
  rw [List.getElem?_eq_getElem hi] at p1
  rw [Option.some.inj p1]
  exact (opG_ok (ops := ops) (i := i) (keep := keepD ops.toList[i].dst _) he.ty (by rw [← Array.getElem?_toList]; exact List.getElem?_eq_getElem hio) p2 p4).1 call round c1 c2 rho tm
theorem lo_codeF (he : EnvOK E) (c1 : CallOK E call) (c2 : RoundOK E round) (af : AF) (k : List Item) (c : Code) : Loc (codeF E call round af k c) := by
  cases c with
  | skip => rw [codeF_eq (f := fun _ _ fr k => goTo fr k) call round af k _ rfl]; exact lo_goTo _ _
  | region id ops d =>
    rcases compReg_cases (E := E) af.glob af.n ops d with ⟨f, q1, rfl⟩ | ⟨cops, F, q1, q2, ⟨rfl, q3⟩ | ⟨rfl, q4, m, hm0, q3⟩⟩
    · rw [codeF_eq call round af k (.region id ops d) q1]; exact lo_fail
    · rw [codeF_eq call round af k (.region id ops false) q3]; exact lo_regF he c1 c2 q1 q2
    · rw [codeF_eq call round af k (.region id ops true) q3]; exact lo_drawE he c1 c2 q1 (lo_hloc he c1 c2 q1)
  | seq a b => rw [codeF_eq (f := fun _ _ fr k => goTo fr (.code a :: .code b :: k)) call round af k _ rfl]; exact lo_goTo _ _
  | cond x a b =>
    obtain ⟨g, h1, _⟩ := compO_ok [] x
    rw [codeF_eq (f := fun _ _ fr k => M.on (g [] fr.tmps) (condF fr a b k)) call round af k (.cond x a b) (by unfold compC; simp only [h1])]
    exact lo_on _ fun v => lo_condF _ _ _ _ _
  | block id b => rw [codeF_eq (f := fun _ _ fr k => goTo fr (.code b :: .inBlock id :: k)) call round af k _ rfl]; exact lo_goTo _ _
  | loop b => rw [codeF_eq (f := fun _ _ fr k => goTo fr (.code b :: .inLoop b :: k)) call round af k _ rfl]; exact lo_goTo _ _
  | rangeFunc f ps as bd =>
    obtain ⟨g, h1, _⟩ := compO_ok [] f
    rw [codeF_eq (f := fun call _ fr k => M.on (g [] fr.tmps) fun f => rangeF E call fr f ps as bd k) call round af k (.rangeFunc f ps as bd) (by unfold compC; simp only [h1])]
    exact lo_on _ fun v => lo_rangeF c1 _ _ _ _ _ _
  | exit id => rw [codeF_eq (f := fun _ _ fr k => jumpF fr (.exit id) (exitTo id k)) call round af k _ rfl]; exact lo_jumpF _ _ _
  | scope b => rw [codeF_eq (f := fun _ _ fr k => goTo fr (.code b :: .inScope b :: k)) call round af k _ rfl]; exact lo_goTo _ _
  | label l => rw [codeF_eq (f := fun _ _ fr k => goTo fr k) call round af k _ rfl]; exact lo_goTo _ _
  | goto l => rw [codeF_eq (f := fun _ _ fr k => jumpF fr (.goto l) (gotoIn l k)) call round af k _ rfl]; exact lo_jumpF _ _ _
  | ret => rw [codeF_eq (f := fun _ _ fr _ => leaveF fr (some .ret)) call round af k _ rfl]; exact lo_leaveF _ _
  | refuse x => rw [codeF_eq (f := fun _ _ _ _ => M.fail) call round af k _ rfl]; exact lo_fail
theorem codeF_ok (he : EnvOK E) (c1 : CallOK E call) (c2 : RoundOK E round) {af : AF} {fr : Frame} {cs : List Frame} {s s' : St} {out : Out Step} {c : Code} {k : List Item} (h : codeF E call round af k c s = rOf out s') (hF : FR E.P r af s.cx base fr cs) (hm : af.mode = .run) (htodo : af.todo = .code c :: k)
    (hr : Rel w0 r s.mem w) (hb : Bnd s) (hf : Fresh r s.next s'.next) :
    ∃ w' r', Goes w0 r s s' r' w' ∧ s'.lim = s.lim ∧ StepE E.P r' base s'.cx fr (lone fr cs w) w' out := by
  cases c with
  | skip => rw [codeF_eq (f := fun _ _ fr k => goTo fr k) call round af k _ rfl] at h; exact goTo_ok h hF hm hr (by rw [htodo]; exact sf_skip)
  | region id ops d =>
    rcases compReg_cases (E := E) af.glob af.n ops d with ⟨f, q1, rfl⟩ | ⟨cops, F, q1, q2, ⟨rfl, q3⟩ | ⟨rfl, q4, m, hm0, q3⟩⟩
    · rw [codeF_eq call round af k (.region id ops d) q1] at h; exact (rOf_none h).elim
    · rw [codeF_eq call round af k (.region id ops false) q3] at h; exact regF_ok he c1 c2 q1 q2 h hF hm htodo hr hb hf
    · rw [codeF_eq call round af k (.region id ops true) q3] at h; exact drawE_ok he c1 c2 q1 q4 hm0 h hF hm htodo hr hb hf
  | seq a b => rw [codeF_eq (f := fun _ _ fr k => goTo fr (.code a :: .code b :: k)) call round af k _ rfl] at h; exact goTo_ok h hF hm hr (by rw [htodo]; exact sf_seq)
  | cond x a b =>
    obtain ⟨g, h1, h2⟩ := compO_ok [] x
    rw [codeF_eq (f := fun _ _ fr k => M.on (g [] fr.tmps) (condF fr a b k)) call round af k (.cond x a b) (by unfold compC; simp only [h1])] at h
    obtain ⟨v, e1, h⟩ := on_rOf h
    have hv : VR r v (Act.eval ⟨fr.tmps, fr.defers⟩ x) := h2 _ _ _ _ ⟨fr.tmps, fr.defers⟩ _ hF.slots (fun _ _ => True.intro) e1
    cases v with
    | bool t =>
      have hx : Act.eval ⟨fr.tmps, fr.defers⟩ x = .bool t := by
        generalize Act.eval ⟨fr.tmps, fr.defers⟩ x = y at hv
        cases hv; rfl
      cases t with
      | true => exact goTo_ok (k := .code a :: k) h hF hm hr (by rw [htodo]; exact sf_cond hx)
      | false => exact goTo_ok (k := .code b :: k) h hF hm hr (by rw [htodo]; exact sf_cond hx)
    | _ => exact (rOf_none h).elim
  | block id b => rw [codeF_eq (f := fun _ _ fr k => goTo fr (.code b :: .inBlock id :: k)) call round af k _ rfl] at h; exact goTo_ok h hF hm hr (by rw [htodo]; exact sf_block)
  | loop b => rw [codeF_eq (f := fun _ _ fr k => goTo fr (.code b :: .inLoop b :: k)) call round af k _ rfl] at h; exact goTo_ok h hF hm hr (by rw [htodo]; exact sf_loop)
  | rangeFunc f ps as bd =>
    obtain ⟨g, h1, h2⟩ := compO_ok [] f
    rw [codeF_eq (f := fun call _ fr k => M.on (g [] fr.tmps) fun f => rangeF E call fr f ps as bd k) call round af k (.rangeFunc f ps as bd) (by unfold compC; simp only [h1])] at h
    obtain ⟨v, e1, h⟩ := on_rOf h
    have hv : VR r v (Act.eval ⟨fr.tmps, fr.defers⟩ f) := h2 _ _ _ _ ⟨fr.tmps, fr.defers⟩ _ hF.slots (fun _ _ => True.intro) e1
    exact rangeF_ok he c1 h hF hm htodo hv hr hb hf
  | exit id =>
    rw [codeF_eq (f := fun _ _ fr k => jumpF fr (.exit id) (exitTo id k)) call round af k _ rfl] at h
    exact jumpF_ok h hF hm hr hF.csr (fun k' e => by rw [htodo]; exact sf_exit e) fun e => .inl ⟨id, k, htodo, e, rfl⟩
  | scope b => rw [codeF_eq (f := fun _ _ fr k => goTo fr (.code b :: .inScope b :: k)) call round af k _ rfl] at h; exact goTo_ok h hF hm hr (by rw [htodo]; exact sf_scope)
  | label l => rw [codeF_eq (f := fun _ _ fr k => goTo fr k) call round af k _ rfl] at h; exact goTo_ok h hF hm hr (by rw [htodo]; exact sf_label)
  | goto l =>
    rw [codeF_eq (f := fun _ _ fr k => jumpF fr (.goto l) (gotoIn l k)) call round af k _ rfl] at h
    exact jumpF_ok h hF hm hr hF.csr (fun k' e => by rw [htodo]; exact sf_goto e) fun e => .inr ⟨l, k, htodo, e, rfl⟩
  | ret => rw [codeF_eq (f := fun _ _ fr _ => leaveF fr (some .ret)) call round af k _ rfl] at h; exact leaveF_ok h hF hm hr hF.csr (.inr (.inl ⟨k, htodo, rfl⟩))
  | refuse x => rw [codeF_eq (f := fun _ _ _ _ => M.fail) call round af k _ rfl] at h; exact (rOf_none h).elim
theorem lo_begR (af : AF) (k : List Item) : Loc (begR af k) := by
  unfold begR
  cases af.roundOf with
  | none => exact lo_fail
  | some l =>
    refine lo_bind (lo_rdC _) fun c => ?_
    cases c with
    | C a b => exact lo_fail
    | O o =>
      cases o with
      | loop st pe f n g tm ps as bd df => cases st <;> first | exact lo_fail | exact lo_bind (lo_wrC _ _) fun _ => lo_goTo _ _
      | _ => exact lo_fail
theorem lo_itemF (he : EnvOK E) (c1 : CallOK E call) (c2 : RoundOK E round) (af : AF) (k : List Item) (x : Item) : Loc (itemF E call round af k x) := by
  cases x with
  | code c => exact lo_codeF he c1 c2 _ _ _
  | inBlock id => exact lo_goTo _ _
  | inLoop b => exact lo_goTo _ _
  | inScope b => exact lo_goTo _ _
  | beginRound => exact lo_begR _ _
  | _ => exact lo_fail
theorem itemF_ok (he : EnvOK E) (c1 : CallOK E call) (c2 : RoundOK E round) {af : AF} {fr : Frame} {cs : List Frame} {s s' : St} {out : Out Step} {x : Item} {k : List Item} (h : itemF E call round af k x s = rOf out s') (hF : FR E.P r af s.cx base fr cs) (hm : af.mode = .run) (htodo : af.todo = x :: k)
    (hr : Rel w0 r s.mem w) (hb : Bnd s) (hf : Fresh r s.next s'.next) :
    ∃ w' r', Goes w0 r s s' r' w' ∧ s'.lim = s.lim ∧ StepE E.P r' base s'.cx fr (lone fr cs w) w' out := by
  cases x with
  | code c => exact codeF_ok he c1 c2 h hF hm htodo hr hb hf
  | inBlock id => exact goTo_ok (k := k) h hF hm hr (by rw [htodo]; exact sf_inBlock)
  | inLoop b => exact goTo_ok (k := .code b :: .inLoop b :: k) h hF hm hr (by rw [htodo]; exact sf_inLoop)
  | inScope b => exact goTo_ok (k := k) h hF hm hr (by rw [htodo]; exact sf_inScope)
  | beginRound => exact begR_ok h hF hm htodo hr
  | _ => exact (rOf_none h).elim

/-! ### Results -/
theorem lo_resV (tm : T Value) (x : ResultVar) : Loc (resV E tm x) := by
  cases x with
  | tmp t => exact lo_ofOpt _
  | cell a t => exact lo_on _ fun a => lo_bind (lo_asA _) fun a => lo_aLoad _ _ _
theorem lo_resL (tm : T Value) : ∀ (l : List ResultVar), Loc (resL E tm l)
  | [] => lo_pure _
  | x :: l => lo_bind (lo_resV tm x) fun _v => lo_bind (lo_resL tm l) fun _l => lo_pure _
def resM (t : Array Value) (x : ResultVar) : Sem Value :=
  match x with
  | .tmp i => pure (t.getD i undef)
  | .cell a ty => do loadVar ty (← asAddr (t.getD a undef))
theorem results_eq (fn : Func) (t : Array Value) : results fn t = (do let vs ← fn.results.mapM (resM t); pure (if h : vs.size = 1 then vs[0] else .tuple vs)) := rfl
theorem resV_ok (he : EnvTy E) {g : Nat} {tm : T Value} {t : Array Value} {x : ResultVar} {s s' : St} {v : Value} (h : resV E tm x s = .some v s') (hT : TmR r g tm t) (hr : Rel w0 r s.mem w) :
    ∃ v', ((resM t x).run E.P w = .ok v' w) ∧ VR r v v' ∧ Same s s' := by
  cases x with
  | tmp i =>
    obtain ⟨h1, rfl⟩ := ofOpt_some h
    obtain ⟨_, v', k1, k2⟩ := hT i v h1
    exact ⟨v', by simp [resM, Array.getD_eq_getD_getElem?, k1], k2, .refl _⟩
  | cell a ty =>
    obtain ⟨av, h1, h⟩ := on_some h
    obtain ⟨ad, s1, h2, h3⟩ := bind_some h
    obtain ⟨rfl, rfl⟩ := asA_some h2
    obtain ⟨_, v', k1, k2⟩ := hT a _ h1
    obtain ⟨ad', rfl, k3⟩ := k2.ptr_inv
    obtain ⟨v', k4, k5, k6⟩ := aLoad_ok he h3 hr k3
    refine ⟨v', ?_, k5, k6⟩
    simp only [resM, Array.getD_eq_getD_getElem?, k1, Option.getD_some, Sem.run_bind, asAddr, Sem.run_pure, Result.andThen_ok, k4]
theorem resL_ok (he : EnvTy E) {g : Nat} {tm : T Value} {t : Array Value} (hT : TmR r g tm t) : ∀ (l : List ResultVar) {s s' : St} {vs : List Value}, resL E tm l s = .some vs s' → Rel w0 r s.mem w →
    ∃ vs', (l.mapM (resM t)).run E.P w = .ok vs' w ∧ VRs r vs vs' ∧ Same s s'
  | [], s, s', vs, h, hr => by
    obtain ⟨rfl, rfl⟩ := pure_some h
    exact ⟨[], by simp, .nil, .refl _⟩
  | x :: l, s, s', vs, h, hr => by
    obtain ⟨v, s1, h1, h⟩ := bind_some h
    obtain ⟨ws, s2, h2, h⟩ := bind_some h
    obtain ⟨rfl, rfl⟩ := pure_some h
    obtain ⟨v', k1, k2, k3⟩ := resV_ok he h1 hT hr
    obtain ⟨ws', k4, k5, k6⟩ := resL_ok he hT l h2 (by rw [k3.1]; exact hr)
    refine ⟨v' :: ws', ?_, .cons k2 k5, k3.trans k6⟩
    rw [List.mapM_cons]
    simp only [Sem.run_bind, k1, Result.andThen_ok, k4, Sem.run_pure]
theorem resultsA_ok (he : EnvTy E) {g : Nat} {tm : T Value} {t : Array Value} {fn : Func} {s s' : St} {v : Value} (h : resultsA E fn tm s = .some v s') (hT : TmR r g tm t) (hr : Rel w0 r s.mem w) : ∃ v', (results fn t).run E.P w = .ok v' w ∧ VR r v v' ∧ Same s s' := by
  obtain ⟨vs, s1, h1, h⟩ := bind_some h
  obtain ⟨rfl, rfl⟩ := pure_some h
  obtain ⟨vs', k1, k2, k3⟩ := resL_ok he hT _ h1 hr
  have hm : (fn.results.mapM (resM t)).run E.P w = .ok vs'.toArray w := by
    rw [Array.mapM_eq_mapM_toList, map_eq_pure_bind]
    simp only [Sem.run_bind, k1, Result.andThen_ok, Sem.run_pure]
  refine ⟨tupV vs', ?_, ?_, k3⟩
  · rw [results_eq]
    simp only [Sem.run_bind, hm, Result.andThen_ok, Sem.run_pure]
    congr 1
    unfold tupV
    cases vs' with
    | nil => rfl
    | cons a l => cases l <;> simp
  · cases vs with
    | nil => rw [k2.inv_nil]; exact VRs.tuple .nil
    | cons a l =>
      obtain ⟨a', l', rfl, q1, q2⟩ := k2.inv
      cases l with
      | nil => rw [q2.inv_nil]; exact q1
      | cons b m =>
        obtain ⟨b', m', rfl, q3, q4⟩ := q2.inv
        exact VRs.tuple (.cons q1 (.cons q3 q4))
end
end Go.Proofs.Ytofanlcjeohcjaa.Am
/- Frames beside the evaluator's: unwinding; whole runs; calls. -/
namespace Go.Proofs.Ytofanlcjeohcjaa.Am
open Go.RowKit

structure DeferOK (E : Env) (dcall : DeferT) : Prop where
  loc : ∀ f args m, Loc (dcall f args m)
  ok : ∀ {w0 w : World} {r : Inj} {f : Nat} {args args' : List Value} {m m' : FrameMode} {s : St} {out : Out (Option (List PanicEntry) × FrameMode)} {s' : St}, dcall f args m s = rOf out s' → Rel w0 r s.mem w → Bnd s → Fresh r s.next s'.next → VRs r args args' → MoR r m m' →
    (∀ w, (callFunc f args'.toArray).run E.P w = .ok (.enter f args'.toArray) w) ∧
    ∀ c cs, c.mode = m' → ∃ w' r' p m2, out = .inl p ∧ Goes w0 r s s' r' w' ∧ s'.lim = s.lim ∧ s'.cx = s.cx ∧ MoR r' p.2 m2 ∧
      (match p.1 with
       | none => ∃ v', Steps E.P (lone (Frame.enter E.P f args'.toArray .deferred) (c :: cs) w) (lone (doneF .deferred { c with mode := m2 } v') cs w')
       | some ch => ∃ ch', ChR r' ch ch' ∧ Steps E.P (lone (Frame.enter E.P f args'.toArray .deferred) (c :: cs) w) (lone (({ c with mode := m2 } : Frame).raise ch') cs w'))
theorem ChR.drop {r : Inj} {l l' : List PanicEntry} (h : ChR r l l') : ChR r (l.dropWhile (!·.goexit)) (l'.dropWhile (!·.goexit)) := by
  induction h with
  | nil => exact .nil
  | @cons e e' l l' a b c d ih =>
    rw [List.dropWhile_cons, List.dropWhile_cons, c]
    cases e.goexit with
    | true => simp; exact .cons a b c d
    | false => simp; exact ih
theorem doneF_mode {r : Inj} {m m2 : FrameMode} (h : MoR r m m2) (c : Frame) (v : Value) : ∃ m3, doneF .deferred { c with mode := m2 } v = { c with mode := m3 } ∧ MoR r (afterD m) m3 := by
  cases h with
  | run => exact ⟨.run, rfl, .run⟩
  | ret => exact ⟨.returning, rfl, .ret⟩
  | pan hc =>
    cases hc with
    | nil => exact ⟨.panicking [], rfl, .pan .nil⟩
    | @cons e e' l l' a b cc d =>
      obtain ⟨ev, er, eg⟩ := e
      obtain ⟨ev', er', eg'⟩ := e'
      simp only at b cc a
      subst b
      cases er' with
      | false => exact ⟨.panicking (⟨ev', false, eg'⟩ :: l'), rfl, .pan (.cons a rfl cc d)⟩
      | true =>
        have hd := d.drop
        simp only [doneF, afterD]
        generalize l.dropWhile (!·.goexit) = x at hd
        generalize l'.dropWhile (!·.goexit) = y at hd
        cases hd with
        | nil => exact ⟨.returning, rfl, .ret⟩
        | cons a b c d => exact ⟨_, rfl, .pan (.cons a b c d)⟩
theorem raise_mode {r : Inj} {m m2 : FrameMode} (h : MoR r m m2) {ch ch' : List PanicEntry} (hc : ChR r ch ch') (c : Frame) : ∃ m3, ({ c with mode := m2 } : Frame).raise ch' = { c with mode := m3 } ∧ MoR r (raiseM m ch) m3 := by
  cases h with
  | run => exact ⟨_, rfl, .pan hc⟩
  | ret => exact ⟨_, rfl, .pan hc⟩
  | pan hd => exact ⟨_, rfl, .pan (hc.append hd)⟩
theorem DfsR.inv_nil {r : Inj} {l : List Deferred} (h : DfsR r [] l) : l = [] := by cases h; rfl

section
variable {E : Env} {call round : CallT} {dcall : DeferT} {w0 w : World} {r : Inj} {base : List Deferred × List Frame}
theorem lo_outF (af : AF) (up : Option FrameMode) : Loc (outF E af up) := by
  unfold outF
  cases af.mode with
  | run => exact lo_fail
  | returning => exact lo_on _ fun fn => lo_bind (lo_bind (lo_resL _ _) fun l => lo_pure _) fun v => lo_pure _
  | panicking c => exact lo_throw _
theorem np_resL (tm : T Value) : ∀ (l : List ResultVar), NoPan (resL E tm l)
  | [] => np_pure _
  | x :: l => by
    refine np_bind ?_ fun v => np_bind (np_resL tm l) fun l => np_pure _
    cases x with
    | tmp t => exact np_ofOpt _
    | cell a t => exact np_on _ fun a => np_bind (np_asA _) fun a => np_aLoad _ _ _
theorem lo_runD (c3 : DeferOK E dcall) (af : AF) (d : Deferred) : Loc (runD dcall af d) := by
  unfold runD
  split
  · refine lo_bind (lo_rdC _) fun c => ?_
    split
    · exact lo_bind (lo_wrC _ _) fun _ => lo_pure _
    · exact lo_fail
  · refine lo_bind (c3.loc _ _ _) fun p => ?_
    unfold backD
    cases p.1 with
    | none => simp only; split <;> first | exact lo_fail | exact lo_goMo _ _ _
    | some c => exact lo_goMo _ _ _
  · exact lo_fail
theorem lo_unwindF (c3 : DeferOK E dcall) (af : AF) : Loc (unwindF E dcall af) := by
  unfold unwindF
  refine lo_bind lo_getCx fun cx => ?_
  cases cx with
  | no => exact lo_fail
  | cx up d =>
    cases d with
    | none => exact lo_fail
    | some d =>
      cases d with
      | nil => exact lo_outF _ _
      | cons d ds => exact lo_noP (lo_bind (lo_putCx _) fun _ => lo_runD c3 _ _)
theorem stepA_run (af : AF) (hm : af.mode = .run) : stepA E call round dcall af = noP (runItems E call round { af with todo := skim 64 af.todo } (skim 64 af.todo)) := by
  obtain ⟨fn, n, g, tm, todo, mo, ki, ro⟩ := af
  simp only at hm
  subst hm
  rfl
theorem stepA_un (af : AF) (hm : af.mode ≠ .run) : stepA E call round dcall af = unwindF E dcall af := by
  obtain ⟨fn, n, g, tm, todo, mo, ki, ro⟩ := af
  simp only at hm
  cases mo with
  | run => exact absurd rfl hm
  | returning => rfl
  | panicking c => rfl
theorem lo_stepA (he : EnvOK E) (c1 : CallOK E call) (c2 : RoundOK E round) (c3 : DeferOK E dcall) (af : AF) : Loc (stepA E call round dcall af) := by
  by_cases hm : af.mode = .run
  · rw [stepA_run af hm]
    refine lo_noP ?_
    generalize skim 64 af.todo = l
    cases l with
    | nil => exact lo_leaveF _ _
    | cons x k => exact lo_itemF he c1 c2 _ _ _
  · rw [stepA_un af hm]; exact lo_unwindF c3 _
/-- A frame that is being left. -/
theorem unwindF_ok (he : EnvOK E) (c3 : DeferOK E dcall) {af : AF} {fr : Frame} {cs : List Frame} {s s' : St} {out : Out Step} (h : unwindF E dcall af s = rOf out s') (hF : FR E.P r af s.cx base fr cs) (hm : af.mode ≠ .run) (hr : Rel w0 r s.mem w) (hb : Bnd s) (hf : Fresh r s.next s'.next) :
    ∃ w' r', Goes w0 r s s' r' w' ∧ s'.lim = s.lim ∧ StepE E.P r' base s'.cx fr (lone fr cs w) w' out := by
  unfold unwindF at h
  rw [getCx_bind] at h
  have hmode : fr.mode ≠ .run := by
    have := hF.mode
    intro hx
    rw [hx] at this
    generalize af.mode = m at this hm
    cases this
    exact hm rfl
  have hunw : ∀ {w : World} {dd : List Deferred}, stepG E.P true { frame := { fr with defers := dd }, callers := cs, status := .running, dying := none } w = unwind E.P true { fr with defers := dd } cs none w := by
    intro w dd
    have : ({ fr with defers := dd } : Frame).mode = fr.mode := rfl
    cases hx : fr.mode with
    | run => exact absurd hx hmode
    | returning => simp [stepG]
    | panicking c => simp [stepG]
  have hfr : fr = { fr with defers := fr.defers } := rfl
  have hc := hF.cx
  cases hcx : s.cx with
  | no => rw [hcx] at h; exact (rOf_none h).elim
  | cx up d =>
    rw [hcx] at hc h
    cases d with
    | none => exact (rOf_none h).elim
    | some d =>
      obtain ⟨q1, q2, q3⟩ := hc
      obtain ⟨fn0, hfn0⟩ := hF.known q2
      cases d with
      | nil =>
        have hd0 := q3.inv_nil
        have hends : ∀ {s1 : St} {o : Out (Value × FrameMode)}, s1.cx = s.cx → (∀ v u, o = .inl (v, u) → u = up.getD .run) → ((fr.kind = .normal ∧ cs = base.2) ∨ ∃ u c0 rest m', s1.cx = .cx (some u) (some []) ∧ fr.kind = .deferred ∧ base.2 = c0 :: rest ∧ cs = { c0 with mode := m' } :: rest ∧ MoR r u m' ∧ ∀ v up, o = .inl (v, up) → up = u) := by
          intro s1 o e1 e2
          cases up with
          | none => exact .inl q1
          | some m =>
            obtain ⟨p1, c0, rest, m', p2, p3, p4⟩ := q1
            exact .inr ⟨m, c0, rest, m', by rw [e1, hcx], p1, p2, p3, p4, fun v u e => e2 v u e⟩
        replace h : outF E af up s = rOf out s' := h
        unfold outF at h
        have hMo := hF.mode
        cases hmo : af.mode with
        | run => exact absurd hmo hm
        | returning =>
          rw [hmo] at h hMo
          obtain ⟨fn, e1, h⟩ := on_rOf h
          rcases bind_rOf h with ⟨v, s1, e2, e3⟩ | ⟨c, e2, _⟩
          · obtain ⟨rfl, rfl⟩ := rOf_inl (show R.some (Step.fin v (up.getD .run)) s1 = rOf out s' from e3)
            obtain ⟨v', k1, k2, k3⟩ := resultsA_ok he.ty e2 hF.tm hr
            have hfmode : fr.mode = .returning := by cases hx : fr.mode <;> rw [hx] at hMo <;> cases hMo
            have hfuncs : E.P.funcs[fr.fn]? = some fn := by rw [hF.fn]; exact (he.fn _ _ e1).1
            refine ⟨w, r, .same k3 hr, k3.2.2.1, cs, hends k3.2.2.2 (fun v u e => by cases e; rfl), v', k2, fun c rest hcs => .one (step_lone_go ?_), fun _ hk => ⟨fr, rfl, ⟨hfmode, hd0, hk, fn, hfuncs, k1⟩, .refl _ _⟩⟩
            subst hcs
            have hkind : fr.kind = .normal ∨ fr.kind = .deferred := by
              cases up with
              | none => exact .inl q1.1
              | some m => exact .inr q1.1
            have h0 := hunw (w := w) (dd := fr.defers)
            rw [← hfr] at h0
            rw [h0]
            rcases hkind with hk | hk
            · simp only [unwind, hd0, hfmode, hfuncs, Sem.runT_eq, k1, GStep.bare_after, doReturn, hk, doneF]
              rfl
            · simp only [unwind, hd0, hfmode, hfuncs, Sem.runT_eq, k1, GStep.bare_after, doReturn, hk, doneF]
              rfl
          · exact ((np_bind (np_resL _ _) fun l => np_pure _).no _ _ _ e2).elim
        | panicking c =>
          rw [hmo] at h hMo
          obtain ⟨rfl, rfl⟩ := rOf_inr (show R.pan c s = rOf out s' from h)
          generalize hfm : fr.mode = fm at hMo
          cases hMo with
          | @pan _ c' hch =>
            refine ⟨w, r, .of_rel rfl hr, rfl, cs, hends rfl (fun v u e => by cases e), c', hch, fun c1 rest hcs => .one (step_lone_go ?_)⟩
            subst hcs
            have h0 := hunw (w := w) (dd := fr.defers)
            rw [← hfr] at h0
            rw [h0]
            have hcat : ∀ g : Frame, g.fn = fr.fn → g.catches E.P = false := by intro g hg; unfold Frame.catches; rw [hg, hfn0]
            simp only [unwind, hd0, hfm]
            rw [if_neg (by have := hcat ⟨fr.fn, fr.tmps, fr.todo, [], .panicking c', fr.kind, fr.roundOf⟩ rfl; rw [this]; simp)]
            rfl
      | cons d ds =>
        replace h : noP (M.bind (putCx (.cx up (some ds))) fun _ => runD dcall af d) s = rOf out s' := h
        obtain ⟨p, hout, h'⟩ := noP_rOf h
        clear h
        subst hout
        have h := h'
        clear h'
        rw [putCx_bind] at h
        generalize hdd : fr.defers = dd at q3
        cases q3 with
        | @cons _ d' _ ds' k1 k2 =>
          have hc' : CxR r base (.cx up (some ds)) fr ds' cs := ⟨q1, q2, k2⟩
          have h0 := hunw (w := w) (dd := d' :: ds')
          have hfr' : ({ fr with defers := d' :: ds' } : Frame) = fr := by rw [← hdd]
          rw [hfr'] at h0
          have hF2 : ∀ {r' : Inj} {m : FrameMode} {m3 : FrameMode} {cx : Ctx}, r.le r' → m ≠ .run → MoR r' m m3 → cx = .cx up (some ds) → FR E.P r' { af with mode := m } cx base { fr with defers := ds', mode := m3 } cs := by
            intro r' m m3 cx hle hne hmo hcx
            refine ⟨hF.fn, hF.size, hF.tm.mono hle, fun e => absurd e hne, hmo, hF.round.mono hle, hF.rk, hF.known, ?_⟩
            rw [hcx]
            exact hc'.mono hle
          cases k1 with
          | @coll bb bb' o hbb =>
            replace h : M.bind (rdC bb) (fun c => (match c with | .O (.deferred (some [])) => M.bind (wrC bb (.O (.deferred none))) fun _ => M.pure (Step.go af) | _ => M.fail)) ⟨s.mem, s.next, s.lim, s.rd, s.wr, .cx up (some ds)⟩ = .some p s' := h
            obtain ⟨c, s1, e1, e2⟩ := bind_some h
            obtain ⟨z1, z2⟩ := rdC_some e1
            have fin : c = .O (.deferred (some [])) := by
              cases c with
              | C a b => cases e2
              | O o =>
                cases o with
                | deferred l =>
                  cases l with
                  | none => cases e2
                  | some l => cases l with
                    | nil => rfl
                    | cons => cases e2
                | _ => cases e2
            subst fin
            obtain ⟨u, s2, e3, e4⟩ := bind_some e2
            obtain ⟨rfl, rfl⟩ := pure_some e4
            obtain ⟨b2, d2, o', y1, y2, y3⟩ := hr.obj _ _ z1 rfl
            rw [hbb] at y1
            cases y1
            have ho' : o' = .deferred (some []) := by
              unfold OR at y3
              cases o' with
              | deferred l =>
                cases l with
                | none => exact y3.elim
                | some l => cases l with
                  | nil => rfl
                  | cons => exact y3.elim
              | _ => exact y3.elim
            subst ho'
            obtain ⟨x1, x2, x3⟩ := wrO_ok (o2' := .deferred none) e3 (by rw [z2.1]; exact hr) (by rw [z2.1]; exact z1) rfl hbb (by simp [OR]) rfl
            have hgo : Goes w0 r s s2 r (World.setO w bb' (.deferred none)) := ⟨x1.le, by rw [← show (⟨s.mem, s.next, s.lim, s.rd, s.wr, .cx up (some ds)⟩ : St).next = s.next from rfl, ← z2.2.1]; exact x1.nxt, fun b hb => by
              have := x1.domB b hb; rw [z2.2.1] at this; exact this, fun b hb => by have := x1.domE b hb; rw [z2.2.1] at this; exact this, x1.rel⟩
            refine ⟨_, r, hgo, x2.trans z2.2.2.1, { fr with defers := ds', mode := fr.mode }, cs, rfl, hF2 (m := af.mode) (Inj.le_refl r) hm hF.mode (x3.trans z2.2.2.2), .one (step_lone_go ?_)⟩
            rw [h0]
            have hrun : (Instr.takeDeferred bb').run E.P w = .ok [] (World.setO w bb' (.deferred none)) := by
              simp [Instr.takeDeferred, getObj, setObj, Sem.run, y2, World.setO]
            simp only [unwind, hdd, Sem.runT_eq, hrun, GStep.bare_after]
            rfl
          | @fn f f' cc cc' aa aa' j1 j2 j3 =>
            cases f with
            | func f =>
              cases f' with
              | func f' =>
                simp only [FnR] at j1
                subst j1
                replace h : M.bind (dcall f (aa.toList ++ cc.toList) af.mode) (backD af) ⟨s.mem, s.next, s.lim, s.rd, s.wr, .cx up (some ds)⟩ = .some p s' := h
                obtain ⟨p1, s1, e1, e2⟩ := bind_some h
                have hnx : s'.next = s1.next ∧ s'.lim = s1.lim ∧ s'.cx = s1.cx ∧ s'.mem = s1.mem ∧ p = .go { af with mode := match p1.1 with | none => afterD p1.2 | some c => raiseM p1.2 c } ∧ (p1.1 = none → afterD p1.2 ≠ .run) := by
                  unfold backD at e2
                  cases hp : p1.1 with
                  | none =>
                    rw [hp] at e2
                    simp only at e2
                    cases hD : afterD p1.2 with
                    | run => rw [hD] at e2; cases e2
                    | returning => rw [hD] at e2; cases e2; exact ⟨rfl, rfl, rfl, rfl, rfl, fun _ h => by cases h⟩
                    | panicking c => rw [hD] at e2; cases e2; exact ⟨rfl, rfl, rfl, rfl, rfl, fun _ h => by cases h⟩
                  | some c => rw [hp] at e2; cases e2; exact ⟨rfl, rfl, rfl, rfl, rfl, fun h => by cases h⟩
                obtain ⟨n1, n2, n3, n4, rfl, n5⟩ := hnx
                obtain ⟨i1, i2⟩ := c3.ok (out := .inl p1) (args' := aa'.toList ++ cc'.toList) e1 hr hb (by rw [← n1]; exact hf) (j3.append j2) hF.mode
                obtain ⟨w', r', p', m2, a1, a2, a3, a4, a5, a6⟩ := i2 { fr with defers := ds' } cs rfl
                cases a1
                have hgo : Goes w0 r s s' r' w' := ⟨a2.le, by rw [n1]; exact a2.nxt, fun b hb => by rw [n1]; exact a2.domB b hb, fun b hb => by rw [n1]; exact a2.domE b hb, by rw [n4]; exact a2.rel⟩
                have henter : step E.P (lone fr cs w) = .next (lone (Frame.enter E.P f (aa'.toList ++ cc'.toList).toArray .deferred) ({ fr with defers := ds' } :: cs) w) := by
                  refine step_lone_go ?_
                  rw [h0]
                  have e0 : aa' ++ cc' = (aa'.toList ++ cc'.toList).toArray := by apply Array.toList_inj.1; simp
                  have hrun : (invoke (.fn (.func f) cc') aa').run E.P w = .ok (.enter f (aa'.toList ++ cc'.toList).toArray) w := by
                    simp only [invoke, e0, i1]
                  simp only [unwind, hdd, callDeferred, Sem.runT_eq, hrun]
                  rfl
                cases hp : p1.1 with
                | none =>
                  rw [hp] at a6
                  obtain ⟨v', a6⟩ := a6
                  obtain ⟨m3, t1, t2⟩ := doneF_mode a5 { fr with defers := ds' } v'
                  rw [t1] at a6
                  have hne : afterD p1.2 ≠ .run := n5 hp
                  exact ⟨w', r', hgo, by rw [n2]; exact a3, { fr with defers := ds', mode := m3 }, cs, rfl, hF2 a2.le hne t2 (n3.trans a4), .head henter a6⟩
                | some ch =>
                  rw [hp] at a6
                  obtain ⟨ch', a6, a7⟩ := a6
                  obtain ⟨m3, t1, t2⟩ := raise_mode a5 a6 { fr with defers := ds' }
                  rw [t1] at a7
                  have hne : raiseM p1.2 ch ≠ .run := by
                    unfold raiseM
                    cases p1.2 <;> (intro h; cases h)
                  exact ⟨w', r', hgo, by rw [n2]; exact a3, { fr with defers := ds', mode := m3 }, cs, rfl, hF2 a2.le hne t2 (n3.trans a4), .head henter a7⟩
              | _ => simp only [FnR] at j1
            | _ => cases h
end
end Go.Proofs.Ytofanlcjeohcjaa.Am
