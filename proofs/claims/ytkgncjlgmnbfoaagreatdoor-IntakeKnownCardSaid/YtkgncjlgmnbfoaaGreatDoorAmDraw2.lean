/- A region whose order is open: each step of whatever order is drawn keeps what is known; at the end it is as in the order of the text. -/
import Derived.Test.YtkgncjlgmnbfoaaGreatDoorAmDraw
namespace Go.Proofs.YtkgncjlgmnbfoaaGreatDoor.Am
open Go.RowKit

section
variable {E : Env} {glob N : Nat} {ops : Array Oper} {call round : CallT} {cops : List COp} {x : Tra} {m : Nat}
/-- What is known when those in L have been carried out. -/
structure Inv (ops : Array Oper) (x : Tra) (m N : Nat) (w0 : World) (r0 : Inj) (t0 : Array Value) (L : Array Bool) (mt : T Cell) (t : Array Value) (w : World) (r : Inj) : Prop where
  size : L.size = ops.size
  rel : Rel w0 r mt w
  off : ∀ j, m ≤ j → j < ops.size → L.getD j true = false
  mem : ∀ l, T.get mt l = memD x (fun i => L.getD i true) m l
  dom : ∀ b, x.Nx 0 ≤ b → b < x.Nx m → (r.blk b ≠ none ∨ r.ext b ≠ none) → ∃ i, i < m ∧ L.getD i true = true ∧ x.Nx i ≤ b ∧ b < x.Nx (i + 1)
  slot : ∀ (i : Nat) (o : Oper) (d : Nat), ops[i]? = some o → L.getD i true = true → o.dst = some d → ∃ v', t[d]? = some v' ∧ VR r (x.V i) v'
  keep : ∀ (d : Nat), (∀ (i : Nat) (o : Oper), ops[i]? = some o → L.getD i true = true → o.dst ≠ some d) → t[d]? = t0[d]?
  tsz : t.size = N
  le : r0.le r
  domB : ∀ b, r.blk b ≠ none → r0.blk b ≠ none ∨ (x.Nx 0 ≤ b ∧ b < x.Nx m)
  domE : ∀ b, r.ext b ≠ none → r0.ext b ≠ none ∨ (x.Nx 0 ≤ b ∧ b < x.Nx m)
  clo : ∀ j, j < m → L.getD j true = true → ∀ i, Bf ops j i → L.getD i true = true
theorem getD_set {L : Array Bool} {j : Nat} (hj : j < L.size) : (L.setIfInBounds j true).getD j true = true ∧ ∀ i, i ≠ j → (L.setIfInBounds j true).getD i true = L.getD i true := by
  constructor
  · simp [Array.getD_eq_getD_getElem?, hj]
  · intro i hi
    simp only [Array.getD_eq_getD_getElem?]
    rw [Array.getElem?_setIfInBounds_ne (fun e => hi e.symm)]
theorem ready_some {L : Array Bool} (_hs : L.size = ops.size) {j : Nat} (h : j ∈ Region.ready .any ops L) : j < ops.size ∧ L.getD j true = false ∧ ∀ o, ops[j]? = some o → ∀ e ∈ o.after, Region.binds .any e = true → L.getD e.on false = true := by
  unfold Region.ready at h
  rw [List.mem_filter, List.mem_range, Bool.and_eq_true, Bool.not_eq_true'] at h
  obtain ⟨h1, h2, h3⟩ := h
  refine ⟨h1, h2, fun o ho e he hb => ?_⟩
  rw [ho] at h3
  have h4 : o.after.all (fun e => !Region.binds .any e || L.getD e.on false) = true := by simpa using h3
  have := Array.all_eq_true_iff_forall_mem.1 h4 e he
  rw [hb] at this
  simpa using this
theorem getD_ft {L : Array Bool} {i : Nat} (h : L.getD i false = true) : L.getD i true = true := by
  rw [Array.getD_eq_getD_getElem?] at h ⊢
  cases e : L[i]? with
  | none => rw [e] at h; cases h
  | some b => rw [e] at h; exact h
theorem getD_tf {L : Array Bool} {i : Nat} (hi : i < L.size) (h : L.getD i true = true) : L.getD i false = true := by
  rw [Array.getD_eq_getD_getElem?] at h ⊢
  rw [Array.getElem?_eq_getElem hi] at h ⊢
  exact h

variable (H : Pre E glob N ops call round cops x m)
include H
theorem Inv.before {w0 w : World} {r0 r : Inj} {t0 t : Array Value} {L : Array Bool} {mt : T Cell} (I : Inv ops x m N w0 r0 t0 L mt t w r) {j : Nat} (hjn : j < ops.size)
    (hready : ∀ o, ops[j]? = some o → ∀ e ∈ o.after, Region.binds .any e = true → L.getD e.on false = true) : ∀ i, Bf ops j i → L.getD i true = true := by
  intro i hb
  obtain ⟨o', e, q1, q2, q3, q4⟩ := Bf_edge hb
  have he' := hready o' q1 e q2 q3
  rcases q4 with q4 | q4
  · rw [q4]; exact getD_ft he'
  · have h1 := H.edge q1 q2 q3
    exact I.clo e.on (by have := H.few; omega) (getD_ft he') i q4
/-- What comes next is one of the first, as long as one of these is open. -/
theorem Inv.small {w0 w : World} {r0 r : Inj} {t0 t : Array Value} {L : Array Bool} {mt : T Cell} (I : Inv ops x m N w0 r0 t0 L mt t w r) {j : Nat} (hj : j ∈ Region.ready .any ops L) (hc : 0 < cnt (fun i => !L.getD i true) m) : j < m := by
  obtain ⟨hjn, hjL, hready⟩ := ready_some I.size hj
  rcases Nat.lt_or_ge j m with h | h
  · exact h
  · obtain ⟨i, h1, h2, _⟩ := cnt_pos hc
    rw [I.before H hjn hready i (H.last j h hjn i h1)] at h2
    cases h2
/-- One operation of those that may come next. -/
theorem Inv.step (he : EnvTy E) (c1 : CallOK E call) (c2 : RoundOK E round) {w0 w : World} {r0 r : Inj} {t0 t : Array Value} {L : Array Bool} {mt : T Cell} (hT0 : TmR r0 glob (x.Tm 0) t0)
    (I : Inv ops x m N w0 r0 t0 L mt t w r) {j : Nat} (hj : j ∈ Region.ready .any ops L) (hjn : j < m) (b : Frame) (dfs : List Deferred) (cs : List Frame) (k : List Item) (rest : List Nat) :
    ∃ mt' t' w' r', Inv ops x m N w0 r0 t0 (L.setIfInBounds j true) mt' t' w' r' ∧ Steps E.P (lone (frm b t dfs (.inRegion ops (j :: rest) :: k)) cs w) (lone (frm b t' dfs (.inRegion ops rest :: k)) cs w') := by
  obtain ⟨hjn0, hjL, hready⟩ := ready_some I.size hj
  obtain ⟨o, g, f, ho, hg, hnew, hcomp, tr, hrh, htm⟩ := H.op hjn
  have hms : m ≤ ops.size := H.len
  -- what lies before j has been carried out
  have before : ∀ i, Bf ops j i → L.getD i true = true := I.before H hjn0 hready
  have notj : ∀ i, i < m → L.getD i true = true → ¬ Bf ops i j := by
    intro i hi hL hb
    have := I.clo i hi hL j hb
    rw [hjL] at this
    cases this
  have lateSep : ∀ i, j < i → i < m → L.getD i true = true → (∀ l, ¬ (x.Wr j l ∧ (x.Rd i l ∨ x.Wr i l))) ∧ (∀ l, ¬ (x.Wr i l ∧ x.Rd j l)) := fun i h1 h2 h3 => H.sep h1 h2 (notj i h2 h3)
  -- memory reads as j expects it
  have agree : ∀ l, x.Rd j l ∨ x.Wr j l → T.get mt l = T.get (x.Mm j) l := by
    intro l hl
    rw [I.mem l, memD_high (j := j) (by omega)]
    · refine memD_low H (by omega) fun i hi hw => ?_
      by_cases hb : Bf ops j i
      · exact before i hb
      · exact absurd ⟨hw, hl⟩ ((H.sep hi hjn hb).1 l)
    · intro i h1 h2 h3 h4
      rcases Nat.lt_or_ge j i with h5 | h5
      · obtain ⟨s1, s2⟩ := lateSep i h5 h2 h3
        rcases hl with hl | hl
        · exact s2 l ⟨h4, hl⟩
        · exact s1 l ⟨hl, .inr h4⟩
      · rw [show i = j by omega, hjL] at h3
        cases h3
  obtain ⟨t', q1, q2, q3, q4, q5, q6, q7, q8⟩ := tr.run.any ⟨mt, x.Nx j, x.Nx j, [], [], .no⟩ rfl rfl rfl agree
  obtain ⟨hloc, hop⟩ := opG_ok (ops := ops) (keep := keepD o.dst glob) he ho hg hcomp
  obtain ⟨d1, d2, d3⟩ := H.ds (Nat.le_of_lt hjn)
  have slots : SlR r (fun y => y ∈ looksL ops.toList o) (dsAt ops.toList j) (x.Rh j) (x.Tm j) t := by
    constructor
    · intro p d v hu e1 e2
      obtain ⟨q, oq, a1, a2, a3, a4⟩ := d2 p d e1
      rw [a4] at e2
      cases e2
      have hb := H.looks ho a2 a3 hu (by omega)
      rw [Nat.max_eq_right (by omega), Nat.min_eq_left (by omega)] at hb
      exact I.slot q oq d a2 (before q hb) a3
    · intro y v hu e1
      rcases H.tm (Nat.le_of_lt hjn) e1 with ⟨q, oq, a1, a2, a3, a4, a5⟩ | ⟨a1, a2⟩
      · have hb := H.looks ho a2 a3 hu (by omega)
        rw [Nat.max_eq_right (by omega), Nat.min_eq_left (by omega)] at hb
        rw [a5]
        exact I.slot q oq y a2 (before q hb) a3
      · obtain ⟨p1, v', p2, p3⟩ := hT0 y v a1
        refine ⟨v', ?_, p3.mono I.le⟩
        rw [I.keep y]
        · exact p2
        · intro i oi hoi hLi hdi
          have hi0 : i < ops.size := (Array.getElem?_eq_some_iff.1 hoi).1
          have hi : i < m := by
            rcases Nat.lt_or_ge i m with h | h
            · exact h
            · rw [I.off i h hi0] at hLi; cases hLi
          rcases Nat.lt_trichotomy i j with h | h | h
          · rw [a2 i oi h hoi hdi] at p1; cases p1
          · rw [h, hjL] at hLi; cases hLi
          · have hb := H.looks ho hoi hdi hu (by omega)
            rw [Nat.max_eq_left (by omega), Nat.min_eq_right (by omega)] at hb
            exact notj i hi hLi hb
  have fresh : Fresh r (x.Nx j) (x.Nx (j + 1)) := by
    intro b h1 h2
    have lo : x.Nx 0 ≤ b := Nat.le_trans (H.nx (Nat.zero_le _) (Nat.le_of_lt hjn)) h1
    have hi : b < x.Nx m := Nat.lt_of_lt_of_le h2 (H.nx hjn (Nat.le_refl _))
    have no : ¬ (r.blk b ≠ none ∨ r.ext b ≠ none) := by
      intro hn
      obtain ⟨i, a1, a2, a3, a4⟩ := I.dom b lo hi hn
      rcases Nat.lt_trichotomy i j with h | h | h
      · have := H.nx (i := i + 1) (j := j) h (Nat.le_of_lt hjn); omega
      · rw [h, hjL] at a2; cases a2
      · have := H.nx (i := j + 1) (j := i) h (Nat.le_of_lt a1); omega
    exact ⟨Classical.byContradiction fun h => no (.inl h), Classical.byContradiction fun h => no (.inr h)⟩
  simp only at q2 q3 q4
  obtain ⟨w', r', dfs', cs', k1, k2, k3, v', k4, k5⟩ := hop call round c1 c2 w0 w r _ (x.Rh j) (x.Tm j) b t dfs cs (dfs, cs) ⟨mt, x.Nx j, x.Nx j, [], [], .no⟩ (.inl (x.V j)) t' slots (fun _ h => h) d1 I.rel ⟨rfl, rfl⟩ (Nat.le_refl _)
    (by rw [q2]; exact fresh) q1 rest k
  rw [q4] at k2
  obtain ⟨rfl, rfl⟩ := k2
  obtain ⟨g1, g2⟩ := getD_set (L := L) (j := j) (by rw [I.size]; exact hjn0)
  refine ⟨t'.mem, putT t o.dst v', w', r', ⟨by simp [I.size], k1.rel, fun q h1 h2 => by rw [g2 q (by omega)]; exact I.off q h1 h2, ?_, ?_, ?_, ?_, by rw [putT_size]; exact I.tsz, Inj.le_trans I.le k1.le, ?_, ?_, ?_⟩, k5⟩
  · intro l
    obtain ⟨a1, a2⟩ := memD_add (x := x) (D := fun i => L.getD i true) (D' := fun i => (L.setIfInBounds j true).getD i true) (l := l) hjL g1 g2 hjn (fun i h1 h2 h3 h4 => (lateSep i h1 h2 h3).1 l ⟨h4.2, .inr h4.1⟩)
    by_cases hw : x.Wr j l
    · rw [a1 hw]; exact q7 l hw
    · rw [a2 hw, q8 l hw]; exact I.mem l
  · intro b' h1 h2 h3
    have old : (r.blk b' ≠ none ∨ r.ext b' ≠ none) ∨ (x.Nx j ≤ b' ∧ b' < x.Nx (j + 1)) := by
      rcases h3 with h3 | h3
      · rcases k1.domB b' h3 with h | h
        · exact .inl (.inl h)
        · rw [q2] at h; exact .inr h
      · rcases k1.domE b' h3 with h | h
        · exact .inl (.inr h)
        · rw [q2] at h; exact .inr h
    rcases old with h | h
    · obtain ⟨i, a1, a2, a3⟩ := I.dom b' h1 h2 h
      refine ⟨i, a1, ?_, a3⟩
      by_cases e : i = j
      · rw [e]; exact g1
      · rw [g2 i e]; exact a2
    · exact ⟨j, hjn, g1, h⟩
  · intro i oi d hoi hLi hdi
    by_cases e : i = j
    · subst e
      rw [ho] at hoi
      cases hoi
      rw [hdi]
      exact ⟨v', putT_self (by rw [I.tsz]; exact H.dst_lt ho hdi), k4⟩
    · rw [g2 i e] at hLi
      obtain ⟨u, a1, a2⟩ := I.slot i oi d hoi hLi hdi
      refine ⟨u, ?_, a2.mono k1.le⟩
      rw [putT_other]
      · exact a1
      · intro h
        exact e (H.dst_inj hoi ho hdi h)
  · intro d hd
    rw [putT_other]
    · exact I.keep d fun i oi hoi hLi => hd i oi hoi (by
        by_cases e : i = j
        · rw [e]; exact g1
        · rw [g2 i e]; exact hLi)
    · exact hd j o ho g1
  · intro b' h
    rcases k1.domB b' h with h | h
    · exact I.domB b' h
    · rw [q2] at h
      exact .inr ⟨Nat.le_trans (H.nx (Nat.zero_le _) (Nat.le_of_lt hjn)) h.1, Nat.lt_of_lt_of_le h.2 (H.nx hjn (Nat.le_refl _))⟩
  · intro b' h
    rcases k1.domE b' h with h | h
    · exact I.domE b' h
    · rw [q2] at h
      exact .inr ⟨Nat.le_trans (H.nx (Nat.zero_le _) (Nat.le_of_lt hjn)) h.1, Nat.lt_of_lt_of_le h.2 (H.nx hjn (Nat.le_refl _))⟩
  · intro i hi hLi y hb
    by_cases e : i = j
    · subst e
      have := before y hb
      by_cases e' : y = i
      · rw [e']; exact g1
      · rw [g2 y e']; exact this
    · rw [g2 i e] at hLi
      have := I.clo i hi hLi y hb
      by_cases e' : y = j
      · rw [e']; exact g1
      · rw [g2 y e']; exact this

theorem ready_at {L : Array Bool} (hs : L.size = ops.size) {i : Nat} (h1 : i < ops.size) (h2 : L.getD i true = false) (h3 : ∀ j, j < i → L.getD j true = true) : i ∈ Region.ready .any ops L := by
  unfold Region.ready
  rw [List.mem_filter, List.mem_range, Bool.and_eq_true]
  refine ⟨h1, by rw [h2]; rfl, ?_⟩
  rw [Array.getElem?_eq_getElem h1]
  simp only [Option.map_some, Option.getD_some]
  rw [Array.all_eq_true_iff_forall_mem]
  intro e he
  cases hb : Region.binds .any e with
  | false => rfl
  | true =>
    have hlt := H.edge (Array.getElem?_eq_getElem h1) he hb
    rw [getD_tf (by rw [hs]; omega) (h3 e.on hlt)]
    rfl
theorem ready_ne {L : Array Bool} (hs : L.size = ops.size) (h : 0 < cnt (fun i => !L.getD i true) m) : Region.ready .any ops L ≠ [] := by
  obtain ⟨i, h0, h2, h3⟩ := cnt_pos h
  have h1 : i < ops.size := Nat.lt_of_lt_of_le h0 H.len
  exact List.ne_nil_of_mem (ready_at H hs h1 (by simpa using h2) fun j hj => by simpa using h3 j hj)
/-- The whole of an order, to the last one that may stand behind all others. -/
theorem Inv.run (he : EnvTy E) (c1 : CallOK E call) (c2 : RoundOK E round) {w0 : World} {r0 : Inj} {t0 : Array Value} (hT0 : TmR r0 glob (x.Tm 0) t0) (b : Frame) (dfs : List Deferred) (cs : List Frame) (k : List Item) :
    ∀ (fuel tp : Nat) (L : Array Bool) (mt : T Cell) (t : Array Value) (w : World) (r : Inj), Inv ops x m N w0 r0 t0 L mt t w r → cnt (fun i => !L.getD i true) m = fuel →
      ∃ L' mt' t' w' r', Inv ops x m N w0 r0 t0 L' mt' t' w' r' ∧ (∀ i, i < m → L'.getD i true = true) ∧
        Steps E.P (lone (frm b t dfs (.inRegion ops (Region.linearise.go .any ops (fuel + (ops.size - m)) tp L []) :: k)) cs w) (lone (frm b t' dfs (.inRegion ops (List.range' m (ops.size - m)) :: k)) cs w')
  | 0, tp, L, mt, t, w, r, I, hc => by
    have hall : ∀ i, i < m → L.getD i true = true := fun i hi => by
      have := cnt_zero hc i hi
      simpa using this
    refine ⟨L, mt, t, w, r, I, hall, ?_⟩
    have hgo : Region.linearise.go .any ops (0 + (ops.size - m)) tp L [] = List.range' m (ops.size - m) := by
      have h1 := H.len
      have h2 := H.few
      rcases Nat.lt_or_ge m ops.size with h | h
      · have e1 : ops.size - m = 1 := by omega
        rw [e1]
        have hmem := ready_at H I.size h (I.off m (Nat.le_refl _) h) hall
        have hlen : 0 < (Region.ready .any ops L).length := List.length_pos_iff.2 (List.ne_nil_of_mem hmem)
        have hi : tp % (Region.ready .any ops L).length < (Region.ready .any ops L).length := Nat.mod_lt _ hlen
        obtain ⟨j, hj⟩ : ∃ j, (Region.ready .any ops L)[tp % (Region.ready .any ops L).length]? = some j := ⟨_, List.getElem?_eq_getElem hi⟩
        obtain ⟨p1, p2, _⟩ := ready_some I.size (List.mem_of_getElem? hj)
        have hjm : j = m := by
          rcases Nat.lt_or_ge j m with q | q
          · rw [hall j q] at p2; cases p2
          · omega
        subst hjm
        have h0 : Region.linearise.go .any ops (0 + 1) tp L [] = match (Region.ready .any ops L)[tp % (Region.ready .any ops L).length]? with
          | some i => Region.linearise.go .any ops 0 (tp / (Region.ready .any ops L).length) (L.setIfInBounds i true) [i]
          | none => [].reverse := rfl
        rw [h0, hj]
        rfl
      · have e1 : ops.size - m = 0 := by omega
        rw [e1]
        rfl
    rw [hgo]
    exact .refl _ _
  | fuel + 1, tp, L, mt, t, w, r, I, hc => by
    have hne := ready_ne H I.size (by rw [hc]; omega)
    have hlen : 0 < (Region.ready .any ops L).length := List.length_pos_iff.2 hne
    have hi : tp % (Region.ready .any ops L).length < (Region.ready .any ops L).length := Nat.mod_lt _ hlen
    obtain ⟨j, hj⟩ : ∃ j, (Region.ready .any ops L)[tp % (Region.ready .any ops L).length]? = some j := ⟨_, List.getElem?_eq_getElem hi⟩
    have hmem : j ∈ Region.ready .any ops L := List.mem_of_getElem? hj
    have hgo : Region.linearise.go .any ops (fuel + 1 + (ops.size - m)) tp L [] = j :: Region.linearise.go .any ops (fuel + (ops.size - m)) (tp / (Region.ready .any ops L).length) (L.setIfInBounds j true) [] := by
      rw [Nat.add_right_comm]
      have h0 : Region.linearise.go .any ops (fuel + (ops.size - m) + 1) tp L [] = match (Region.ready .any ops L)[tp % (Region.ready .any ops L).length]? with
        | some i => Region.linearise.go .any ops (fuel + (ops.size - m)) (tp / (Region.ready .any ops L).length) (L.setIfInBounds i true) [i]
        | none => [].reverse := rfl
      rw [h0, hj]
      simp only
      rw [linearise_go_acc]
      rfl
    rw [hgo]
    obtain ⟨hjn, hjL, _⟩ := ready_some I.size hmem
    have hjm : j < m := I.small H hmem (by rw [hc]; omega)
    obtain ⟨mt1, t1, w1, r1, I1, s1⟩ := I.step H he c1 c2 hT0 hmem hjm b dfs cs k (Region.linearise.go .any ops (fuel + (ops.size - m)) (tp / (Region.ready .any ops L).length) (L.setIfInBounds j true) [])
    obtain ⟨g1, g2⟩ := getD_set (L := L) (j := j) (by rw [I.size]; exact hjn)
    have hc1 : cnt (fun i => !(L.setIfInBounds j true).getD i true) m = fuel := by
      have := cnt_one (p := fun i => !L.getD i true) (q := fun i => !(L.setIfInBounds j true).getD i true) (i := j) (by simp [hjL]) (by simp [g1]) (fun i hi => by simp only [g2 i hi]) hjm
      omega
    obtain ⟨L', mt', t', w', r', I', hall, s2⟩ := Inv.run he c1 c2 hT0 b dfs cs k fuel _ _ mt1 t1 w1 r1 I1 hc1
    exact ⟨L', mt', t', w', r', I', hall, s1.trans s2⟩
/-- A region whose order is open ends as in the order of the text. -/
theorem Pre.draw_ok (he : EnvTy E) (c1 : CallOK E call) (c2 : RoundOK E round) {w0 w : World} {r : Inj} {t : Array Value} (hT : TmR r glob (x.Tm 0) t) (ht : t.size = N) (hr : Rel w0 r (x.Mm 0) w) (hfr : Fresh r (x.Nx 0) (x.Nx m))
    (b : Frame) (dfs : List Deferred) (cs : List Frame) (k : List Item) (tp : Nat) :
    ∃ t' w' r', (∀ s s' : St, s.next = x.Nx 0 → s'.next = x.Nx m → s'.mem = x.Mm m → Goes w0 r s s' r' w') ∧ TmR r' glob (x.Tm m) t' ∧ t'.size = N ∧ SlR r' (fun _ => True) (dsAt ops.toList m) (x.Rh m) (x.Tm m) t' ∧ (∀ d, d ∉ dstL ops.toList → t'[d]? = t[d]?) ∧
      Steps E.P (lone (frm b t dfs (.inRegion ops (Region.linearise .any ops tp) :: k)) cs w) (lone (frm b t' dfs (.inRegion ops (List.range' m (ops.size - m)) :: k)) cs w') := by
  have hL : ∀ i, i < ops.size → (Array.replicate ops.size false).getD i true = false := fun i hi => by
    rw [Array.getD_eq_getD_getElem?, Array.getElem?_replicate, if_pos hi]; rfl
  have I0 : Inv ops x m N w0 r t (Array.replicate ops.size false) (x.Mm 0) t w r := by
    refine ⟨by simp, hr, fun j _ hj => hL j hj, fun l => ?_, fun b h1 h2 h3 => ?_, fun i o d hi hl => ?_, fun _ _ => rfl, ht, Inj.le_refl r, fun _ h => .inl h, fun _ h => .inl h, fun j hj hl => ?_⟩
    · rw [memD_high (j := 0) (Nat.zero_le _)]
      · rfl
      · intro i _ hi hd; rw [hL i (Nat.lt_of_lt_of_le hi H.len)] at hd; cases hd
    · obtain ⟨a1, a2⟩ := hfr b h1 h2
      rcases h3 with h3 | h3
      · exact absurd a1 h3
      · exact absurd a2 h3
    · rw [hL i (Array.getElem?_eq_some_iff.1 hi).1] at hl; cases hl
    · rw [hL j (Nat.lt_of_lt_of_le hj H.len)] at hl; cases hl
  have hc : cnt (fun i => !(Array.replicate ops.size false).getD i true) m = m := by
    rw [cnt_congr (q := fun _ => true) fun i hi => by rw [hL i (Nat.lt_of_lt_of_le hi H.len)]; rfl]
    exact cnt_all _
  obtain ⟨L', mt', t', w', r', I, hall, s⟩ := Inv.run H he c1 c2 (w0 := w0) (r0 := r) (t0 := t) hT b dfs cs k m tp _ _ _ _ _ I0 hc
  have hfuel : m + (ops.size - m) = ops.size := by have := H.len; omega
  rw [hfuel] at s
  have hmem : ∀ l, T.get (x.Mm m) l = T.get mt' l := fun l => by
    rw [I.mem l]
    exact (memD_low H (Nat.le_refl _) fun i hi _ => hall i hi).symm
  have hT' : TmR r' glob (x.Tm m) t' := by
    intro y v e
    rcases H.tm (Nat.le_refl _) e with ⟨q, oq, a1, a2, a3, a4, a5⟩ | ⟨a1, a2⟩
    · rw [a5]
      exact ⟨a4, I.slot q oq y a2 (hall q a1) a3⟩
    · obtain ⟨p1, v', p2, p3⟩ := hT y v a1
      refine ⟨p1, v', ?_, p3.mono I.le⟩
      rw [I.keep y]
      · exact p2
      · intro i oi hoi hLi hdi
        have hi0 : i < ops.size := (Array.getElem?_eq_some_iff.1 hoi).1
        rcases Nat.lt_or_ge i m with h | h
        · rw [a2 i oi h hoi hdi] at p1
          cases p1
        · rw [I.off i h hi0] at hLi; cases hLi
  refine ⟨t', w', r', fun s s' e1 e2 e3 => ⟨I.le, by rw [e1, e2]; exact H.nx (Nat.zero_le _) (Nat.le_refl _), fun b hb => by rw [e1, e2]; exact I.domB b hb, fun b hb => by rw [e1, e2]; exact I.domE b hb, ?_⟩, hT', I.tsz, ⟨fun p d v _ e1 e2 => ?_, fun y v _ e => (hT' y v e).2⟩, fun d hd => I.keep d fun i o ho _ hx => hd (mem_dstL (by rw [Array.mem_toList_iff]; exact Array.mem_of_getElem? ho) hx), s⟩
  · rw [e3]
    exact I.rel.less fun l c e => by rw [← hmem l]; exact e
  · obtain ⟨q, oq, a1, a2, a3, a4⟩ := (H.ds (Nat.le_refl m)).2.1 p d e1
    rw [a4] at e2
    cases e2
    exact I.slot q oq d a2 (hall q a1) a3
end
end Go.Proofs.YtkgncjlgmnbfoaaGreatDoor.Am
