/- Regions whose order is open: what is ordered behind what, how an order is drawn; how the evaluator's run of such a region lies before us. -/
import Derived.Test.YtkgncjlgmnbfoaaGreatDoorAmReg
import Derived.Orders
namespace Go.Proofs.YtkgncjlgmnbfoaaGreatDoor.Am
open Go.RowKit

/-! ### What is ordered behind what -/
def Bf (ops : Array Oper) (j i : Nat) : Prop := ∃ b, (Region.before ops)[j]? = some b ∧ b.testBit i = true
theorem testBit_pow (i k : Nat) : (2 ^ k).testBit i = decide (i = k) := by
  rw [Nat.testBit_two_pow]
  by_cases h : k = i
  · simp [h]
  · simp [h]; exact fun e => h e.symm
theorem edges_fold (acc : Array Nat) (i : Nat) : ∀ (l : List Edge) (s : Nat), (l.foldl (fun s e => if Region.binds .any e then s ||| 2 ^ e.on ||| acc.getD e.on 0 else s) s).testBit i = true →
    s.testBit i = true ∨ ∃ e ∈ l, Region.binds .any e = true ∧ (i = e.on ∨ (acc.getD e.on 0).testBit i = true)
  | [], s, h => .inl h
  | e :: l, s, h => by
    rcases edges_fold acc i l _ h with h | ⟨e', h1, h2⟩
    · replace h : (if Region.binds .any e = true then s ||| 2 ^ e.on ||| acc.getD e.on 0 else s).testBit i = true := h
      by_cases hb : Region.binds .any e = true
      · rw [if_pos hb, Nat.testBit_or, Nat.testBit_or, testBit_pow] at h
        simp only [Bool.or_eq_true, decide_eq_true_eq] at h
        rcases h with (h | h) | h
        · exact .inl h
        · exact .inr ⟨e, List.mem_cons_self, hb, .inl h⟩
        · exact .inr ⟨e, List.mem_cons_self, hb, .inr h⟩
      · rw [if_neg hb] at h
        exact .inl h
    · exact .inr ⟨e', List.mem_cons_of_mem _ h1, h2⟩
noncomputable def befOne (acc : Array Nat) (o : Oper) : Nat := o.after.foldl (fun s e => if Region.binds .any e then s ||| 2 ^ e.on ||| acc.getD e.on 0 else s) 0
theorem befOne_bit {acc : Array Nat} {o : Oper} {i : Nat} (h : (befOne acc o).testBit i = true) : ∃ e ∈ o.after, Region.binds .any e = true ∧ (i = e.on ∨ (acc.getD e.on 0).testBit i = true) := by
  unfold befOne at h
  rw [← Array.foldl_toList] at h
  rcases edges_fold acc i _ _ h with h | ⟨e, h1, h2⟩
  · simp at h
  · exact ⟨e, by simpa using h1, h2⟩
theorem before_fold : ∀ (l : List Oper) (acc : Array Nat), (l.foldl (fun acc o => acc.push (befOne acc o)) acc).size = acc.size + l.length ∧
    (∀ j, j < acc.size → (l.foldl (fun acc o => acc.push (befOne acc o)) acc)[j]? = acc[j]?) ∧
    ∀ q o, l[q]? = some o → ∃ acc', acc'.size = acc.size + q ∧ (∀ j, j < acc'.size → (l.foldl (fun acc o => acc.push (befOne acc o)) acc)[j]? = acc'[j]?) ∧ (l.foldl (fun acc o => acc.push (befOne acc o)) acc)[acc.size + q]? = some (befOne acc' o)
  | [], acc => ⟨by simp, fun _ _ => rfl, fun q o h => by simp at h⟩
  | o :: l, acc => by
    obtain ⟨h1, h2, h3⟩ := before_fold l (acc.push (befOne acc o))
    simp only [List.foldl_cons]
    refine ⟨by rw [h1]; simp; omega, fun j hj => ?_, fun q x hx => ?_⟩
    · rw [h2 j (by simp; omega), Array.getElem?_push, if_neg (by omega)]
    · cases q with
      | zero =>
        simp at hx
        subst hx
        refine ⟨acc, rfl, fun j hj => ?_, ?_⟩
        · rw [h2 j (by simp; omega), Array.getElem?_push, if_neg (by omega)]
        · rw [Nat.add_zero, h2 acc.size (by simp), Array.getElem?_push, if_pos rfl]
      | succ q =>
        obtain ⟨acc', k1, k2, k3⟩ := h3 q x (by simpa using hx)
        refine ⟨acc', by rw [k1]; simp; omega, k2, ?_⟩
        rw [← k3]
        congr 1
        simp
        omega
theorem before_eq (ops : Array Oper) : Region.before ops = ops.toList.foldl (fun acc o => acc.push (befOne acc o)) #[] := by
  unfold Region.before
  rw [← Array.foldl_toList]
  rfl
theorem Bf_edge {ops : Array Oper} {j i : Nat} (h : Bf ops j i) : ∃ o e, ops[j]? = some o ∧ e ∈ o.after ∧ Region.binds .any e = true ∧ (i = e.on ∨ Bf ops e.on i) := by
  obtain ⟨b, h1, h2⟩ := h
  rw [before_eq] at h1
  obtain ⟨k1, k2, k3⟩ := before_fold ops.toList #[]
  have hj : j < ops.toList.length := by
    have := (Array.getElem?_eq_some_iff.1 h1).1
    rw [k1] at this
    simpa using this
  obtain ⟨acc', q1, q2, q3⟩ := k3 j ops.toList[j] (List.getElem?_eq_getElem hj)
  rw [show (#[] : Array Nat).size + j = j by simp] at q3
  rw [q3] at h1
  cases h1
  obtain ⟨e, p1, p2, p3⟩ := befOne_bit h2
  refine ⟨ops.toList[j], e, by rw [← Array.getElem?_toList]; exact List.getElem?_eq_getElem hj, p1, p2, ?_⟩
  rcases p3 with p3 | p3
  · exact .inl p3
  · refine .inr ?_
    have he : e.on < acc'.size := by
      rcases Nat.lt_or_ge e.on acc'.size with h | h
      · exact h
      · rw [Array.getD_eq_getD_getElem?, Array.getElem?_eq_none h] at p3
        simp at p3
    refine ⟨acc'.getD e.on 0, ?_, p3⟩
    rw [before_eq, q2 e.on he, Array.getD_eq_getD_getElem?, Array.getElem?_eq_getElem he]
    rfl
theorem befL_size (ops : Array Oper) : (Region.before ops).toList.length = ops.size := by
  rw [before_eq]
  have := (before_fold ops.toList #[]).1
  simpa using this

/-! ### How many are left -/
def cnt (p : Nat → Bool) : Nat → Nat
  | 0 => 0
  | n + 1 => cnt p n + if p n then 1 else 0
theorem cnt_zero {p : Nat → Bool} : ∀ {n : Nat}, cnt p n = 0 → ∀ i, i < n → p i = false
  | 0, _, i, h => absurd h (Nat.not_lt_zero _)
  | n + 1, h, i, hi => by
    simp only [cnt] at h
    by_cases e : i = n
    · subst e
      cases hp : p i with
      | false => rfl
      | true => rw [hp] at h; simp at h
    · exact cnt_zero (n := n) (by omega) i (by omega)
theorem cnt_pos {p : Nat → Bool} : ∀ {n : Nat}, 0 < cnt p n → ∃ i, i < n ∧ p i = true ∧ ∀ j, j < i → p j = false
  | 0, h => absurd h (Nat.lt_irrefl _)
  | n + 1, h => by
    by_cases h0 : 0 < cnt p n
    · obtain ⟨i, h1, h2, h3⟩ := cnt_pos h0
      exact ⟨i, by omega, h2, h3⟩
    · have h1 : cnt p n = 0 := by omega
      cases hp : p n with
      | true => exact ⟨n, by omega, hp, fun j hj => cnt_zero h1 j hj⟩
      | false => simp [cnt, h1, hp] at h
theorem cnt_all (n : Nat) : cnt (fun _ => true) n = n := by
  induction n with
  | zero => rfl
  | succ n ih => simp [cnt, ih]
theorem cnt_congr {p q : Nat → Bool} : ∀ {n : Nat}, (∀ i, i < n → p i = q i) → cnt p n = cnt q n
  | 0, _ => rfl
  | n + 1, h => by simp only [cnt]; rw [cnt_congr (n := n) fun i hi => h i (by omega), h n (by omega)]
theorem cnt_one {p q : Nat → Bool} {i : Nat} (hp : p i = true) (hq : q i = false) (h : ∀ j, j ≠ i → p j = q j) : ∀ {n : Nat}, i < n → cnt p n = cnt q n + 1
  | 0, hi => absurd hi (Nat.not_lt_zero _)
  | n + 1, hi => by
    simp only [cnt]
    by_cases e : i = n
    · subst e
      rw [cnt_congr (n := i) fun j hj => h j (by omega), hp, hq]
      simp
    · rw [cnt_one hp hq h (n := n) (by omega), h n (fun x => e x.symm)]
      omega

/-! ### The evaluator's run -/
theorem apartO_def {α : Type} (m : M α) (s : St) : apartO m s = match m ⟨s.mem, s.next, s.next, [], [], s.cx⟩ with
    | .some a s1 => (match s1.cx with | .no => .some (a, ⟨s.next, s1.next, s1.rd, s1.wr⟩) ⟨s1.mem, s1.next, s.lim, s.rd, s.wr, .no⟩ | _ => .none)
    | _ => .none := by
  obtain ⟨mem, next, lim, rd, wr, cx⟩ := s
  unfold apartO
  simp only
  cases m ⟨mem, next, next, [], [], cx⟩ with
  | none => rfl
  | some a s1 => obtain ⟨mem', next', lim', rd', wr', cx'⟩ := s1; cases cx' <;> rfl
  | pan c s1 => rfl
/-- An operation of such a region, as it ran. -/
structure TrAt (m : M Value) (mem : T Cell) (nx : Nat) (v : Value) (mem1 : T Cell) (nx1 : Nat) (Rd Wr : Nat → Prop) (lr lw : List Nat) : Prop where
  run : LocG m ⟨mem, nx, nx, [], [], .no⟩ (.inl v) ⟨mem1, nx1, nx, lr, lw, .no⟩ Rd Wr lr lw
  ird : ∀ l, Rd l → l < nx → l ∈ lr
  iwr : ∀ l, Wr l → l < nx → l ∈ lw
theorem apartO_run {m : M Value} (hm : Loc m) {s s' : St} {o : Out (Value × OpLog)} (hs : s.cx = .no) (h : apartO m s = rOf o s') :
    ∃ v mem1 nx1 Rd Wr lr lw, o = .inl (v, ⟨s.next, nx1, lr, lw⟩) ∧ s' = ⟨mem1, nx1, s.lim, s.rd, s.wr, .no⟩ ∧ TrAt m s.mem s.next v mem1 nx1 Rd Wr lr lw ∧ (Bnd s → LocG (apartO m) s o s' Rd Wr [] []) := by
  rw [apartO_def] at h
  cases e : m ⟨s.mem, s.next, s.next, [], [], s.cx⟩ with
  | none => rw [e] at h; exact (rOf_none h).elim
  | pan c s1 => rw [e] at h; exact (rOf_none h).elim
  | some v s1 =>
    rw [e] at h
    rw [hs] at e
    obtain ⟨mem1, nx1, lim1, lr, lw, cx1⟩ := s1
    cases cx1 with
    | cx a b => exact (rOf_none h).elim
    | no =>
      obtain ⟨rfl, rfl⟩ := rOf_inl h
      obtain ⟨Rd, Wr, dr, dw, g, i1, i2⟩ := hm.at' _ (.inl v) _ e (Nat.le_refl _)
      have e1 : lr = dr := by have := g.rd; simpa using this
      have e2 : lw = dw := by have := g.wr; simpa using this
      have e3 : lim1 = s.next := g.lim
      subst e1
      subst e2
      subst e3
      refine ⟨v, mem1, nx1, Rd, Wr, lr, lw, rfl, rfl, ⟨g, i1, i2⟩, fun hb => ⟨rfl, rfl, g.nxt, rfl, ?_, g.rlt, g.wlt, g.old, fun t e1 e2 e3 e4 => ?_⟩⟩
      · exact Nat.le_trans hb g.nxt
      · obtain ⟨t', q1, q2, q3, q4, q5, q6, q7, q8⟩ := g.any ⟨t.mem, t.next, t.next, [], [], .no⟩ e1 e1 rfl e4
        obtain ⟨tm, tn, tl, tr, tw, tc⟩ := t'
        simp only [List.append_nil] at q2 q3 q4 q5 q6
        subst q2
        subst q4
        subst q5
        subst q6
        refine ⟨⟨tm, tn, t.lim, t.rd, t.wr, .no⟩, ?_, rfl, e2, rfl, rfl, rfl, q7, q8⟩
        rw [apartO_def, e3, hs, q1]
        simp only [rOf, e1]
theorem opsDraw_cons (call round : CallT) (g : Option (Nat × Bool)) (d : Option Nat) (k : Bool) (f : OpT) (l : List COp) (acc : List OpLog) (rho : Rho) (tm : T Value) :
    opsDraw call round (⟨g, d, k, f⟩ :: l) acc rho tm = M.bind (apartO (wantG g rho (f call round rho tm))) fun p => opsDraw call round l (p.2 :: acc) (pushV d p.1 rho) (keepT d k p.1 tm) := by
  show M.bind (apartO (wantG g rho (f call round rho tm))) (fun p => keepV d k p.1 tm fun tm => opsDraw call round l (p.2 :: acc) (pushV d p.1 rho) tm) = _
  congr
  funext p
  rw [keepV_eq]

/-- The run in whole, by number. -/
structure Tra where
  V : Nat → Value
  Mm : Nat → T Cell
  Nx : Nat → Nat
  Rh : Nat → Rho
  Tm : Nat → T Value
  Rd : Nat → Nat → Prop
  Wr : Nat → Nat → Prop
  lr : Nat → List Nat
  lw : Nat → List Nat
def Tra.log (x : Tra) (i : Nat) : OpLog := ⟨x.Nx i, x.Nx (i + 1), x.lr i, x.lw i⟩
def sh {α : Type} (a : α) (f : Nat → α) : Nat → α
  | 0 => a
  | i + 1 => f i
structure TraOK (call round : CallT) (cops : List COp) (x : Tra) : Prop where
  at' : ∀ i c, cops[i]? = some c → TrAt (wantG c.guard (x.Rh i) (c.run call round (x.Rh i) (x.Tm i))) (x.Mm i) (x.Nx i) (x.V i) (x.Mm (i + 1)) (x.Nx (i + 1)) (x.Rd i) (x.Wr i) (x.lr i) (x.lw i) ∧
    x.Rh (i + 1) = pushV c.slot (x.V i) (x.Rh i) ∧ x.Tm (i + 1) = keepT c.slot c.keep (x.V i) (x.Tm i)
theorem opsDraw_tra {call round : CallT} : ∀ (cops : List COp) (acc : List OpLog) (rho : Rho) (tm : T Value) (s : St) (o : Out ((Rho × T Value) × List OpLog)) (s' : St),
    (∀ c ∈ cops, ∀ rho tm, Loc (wantG c.guard rho (c.run call round rho tm))) → s.cx = .no → opsDraw call round cops acc rho tm s = rOf o s' →
    ∃ x : Tra, TraOK call round cops x ∧ x.Mm 0 = s.mem ∧ x.Nx 0 = s.next ∧ x.Rh 0 = rho ∧ x.Tm 0 = tm ∧ o = .inl ((x.Rh cops.length, x.Tm cops.length), ((List.range cops.length).map x.log).reverse ++ acc) ∧
      s' = ⟨x.Mm cops.length, x.Nx cops.length, s.lim, s.rd, s.wr, .no⟩
  | [], acc, rho, tm, s, o, s', hl, hs, h => by
    obtain ⟨rfl, rfl⟩ := rOf_inl (show R.some ((rho, tm), acc) s = rOf o s' from h)
    refine ⟨⟨fun _ => undef, fun _ => s'.mem, fun _ => s'.next, fun _ => rho, fun _ => tm, fun _ _ => False, fun _ _ => False, fun _ => [], fun _ => []⟩, ⟨fun i c hc => by simp at hc⟩, rfl, rfl, rfl, rfl, rfl, ?_⟩
    obtain ⟨a, b, c, d, e, f⟩ := s'
    simp only at hs
    rw [hs]
  | ⟨g, d, k, f⟩ :: l, acc, rho, tm, s, o, s', hl, hs, h => by
    rw [opsDraw_cons] at h
    have hm : Loc (wantG g rho (f call round rho tm)) := hl _ List.mem_cons_self rho tm
    rcases bind_rOf h with ⟨p, s1, e1, e2⟩ | ⟨ch, e1, rfl⟩
    · obtain ⟨v, mem1, nx1, Rd, Wr, lr, lw, q1, rfl, q3, _⟩ := apartO_run hm hs (o := .inl p) e1
      cases q1
      obtain ⟨x, k1, k2, k3, k4, k5, k6, k7⟩ := opsDraw_tra l _ _ _ _ o s' (fun c hc => hl c (List.mem_cons_of_mem _ hc)) rfl e2
      refine ⟨⟨sh v x.V, sh s.mem x.Mm, sh s.next x.Nx, sh rho x.Rh, sh tm x.Tm, sh Rd x.Rd, sh Wr x.Wr, sh lr x.lr, sh lw x.lw⟩, ⟨fun i c hc => ?_⟩, rfl, rfl, rfl, rfl, ?_, ?_⟩
      · cases i with
        | zero =>
          simp at hc
          subst hc
          simp only [sh, k2, k3, k4, k5]
          exact ⟨q3, trivial, trivial⟩
        | succ i => exact k1.at' i c (by simpa using hc)
      · rw [k6]
        simp only [List.length_cons, List.range_succ_eq_map, List.map_cons, List.map_map, List.reverse_cons, List.append_assoc, List.singleton_append]
        congr 2
        simp only [Tra.log, sh, k3]
        rfl
      · rw [k7]; rfl
    · obtain ⟨v, mem1, nx1, Rd, Wr, lr, lw, q1, _⟩ := apartO_run hm hs (o := .inr ch) e1
      cases q1
/-- .. and what it touched, in whole. -/
theorem opsDraw_loc {call round : CallT} : ∀ (cops : List COp) (acc : List OpLog) (rho : Rho) (tm : T Value) (s : St) (o : Out ((Rho × T Value) × List OpLog)) (s' : St),
    (∀ c ∈ cops, ∀ rho tm, Loc (wantG c.guard rho (c.run call round rho tm))) → s.cx = .no → Bnd s → opsDraw call round cops acc rho tm s = rOf o s' →
    ∃ Rd Wr tm' es, o = .inl (tm', es) ∧ LocG (opsDraw call round cops acc rho tm) s o s' Rd Wr [] [] ∧ (∀ g ∈ acc, g ∈ es) ∧ (∀ l, Rd l → l < s.next → ∃ g ∈ es, l ∈ g.rd) ∧ (∀ l, Wr l → l < s.next → ∃ g ∈ es, l ∈ g.wr)
  | [], acc, rho, tm, s, o, s', hl, hs, hb, h => by
    obtain ⟨rfl, rfl⟩ := rOf_inl (show R.some ((rho, tm), acc) s = rOf o s' from h)
    refine ⟨fun _ => False, fun _ => False, (rho, tm), acc, rfl, ⟨rfl, rfl, Nat.le_refl _, rfl, hb, fun _ e => e.elim, fun _ e => e.elim, fun _ _ => rfl, fun t e1 e2 e3 _ => ⟨t, rfl, e1, e2, e3, rfl, rfl, fun _ e => e.elim, fun _ _ => rfl⟩⟩, fun g e => e, fun _ e => e.elim, fun _ e => e.elim⟩
  | ⟨g, d, k, f⟩ :: l, acc, rho, tm, s, o, s', hl, hs, hb, h => by
    rw [opsDraw_cons] at h ⊢
    have hm : Loc (wantG g rho (f call round rho tm)) := hl _ List.mem_cons_self rho tm
    rcases bind_rOf h with ⟨p, s1, e1, e2⟩ | ⟨ch, e1, rfl⟩
    · obtain ⟨v, mem1, nx1, Rd, Wr, lr, lw, q1, rfl, q3, q4⟩ := apartO_run hm hs (o := .inl p) e1
      cases q1
      have g1 := q4 hb
      obtain ⟨Rd2, Wr2, tm', es, k1, k2, k3, k4, k5⟩ := opsDraw_loc l _ _ _ _ o s' (fun c hc => hl c (List.mem_cons_of_mem _ hc)) rfl g1.bnd e2
      refine ⟨_, _, tm', es, k1, g1.seq k2 (fun t t1 q => by unfold M.bind; rw [q]; rfl), fun g hg => k3 g (List.mem_cons_of_mem _ hg), fun l e x => ?_, fun l e x => ?_⟩
      · rcases e with e | e
        · exact ⟨_, k3 _ List.mem_cons_self, q3.ird l e x⟩
        · exact k4 l e (Nat.lt_of_lt_of_le x g1.nxt)
      · rcases e with e | e
        · exact ⟨_, k3 _ List.mem_cons_self, q3.iwr l e x⟩
        · exact k5 l e (Nat.lt_of_lt_of_le x g1.nxt)
    · obtain ⟨v, mem1, nx1, Rd, Wr, lr, lw, q1, _⟩ := apartO_run hm hs (o := .inr ch) e1
      cases q1
theorem addL_eq (lim : Nat) (base : List Nat) : ∀ (l : List Nat), addL lim l base = addL lim l [] ++ base
  | [] => rfl
  | a :: l => by
    have h : ∀ b, addL lim (a :: l) b = notes a lim (addL lim l b) := fun _ => rfl
    rw [h, h, addL_eq lim base l, notes_app, notes_app (l := addL lim l []), List.append_assoc]
theorem addL_mem {lim x : Nat} (hx : x < lim) : ∀ {l base : List Nat}, (x ∈ l ∨ x ∈ base) → x ∈ addL lim l base
  | [], base, h => h.elim (fun h => by cases h) id
  | a :: l, base, h => by
    show x ∈ notes a lim (addL lim l base)
    rw [notes_eq]
    rcases h with h | h
    · rcases List.mem_cons.1 h with rfl | h
      · rw [if_pos hx]; exact List.mem_cons_self
      · split
        · exact List.mem_cons_of_mem _ (addL_mem hx (.inl h))
        · exact addL_mem hx (.inl h)
    · split
      · exact List.mem_cons_of_mem _ (addL_mem hx (.inr h))
      · exact addL_mem hx (.inr h)
theorem rdsL_eq (lim : Nat) (base : List Nat) : ∀ (l : List OpLog), rdsL lim l base = rdsL lim l [] ++ base
  | [] => rfl
  | g :: l => by
    show addL lim g.rd (rdsL lim l base) = addL lim g.rd (rdsL lim l []) ++ base
    rw [addL_eq, rdsL_eq lim base l, addL_eq (base := rdsL lim l []), List.append_assoc]
theorem wrsL_eq (lim : Nat) (base : List Nat) : ∀ (l : List OpLog), wrsL lim l base = wrsL lim l [] ++ base
  | [] => rfl
  | g :: l => by
    show addL lim g.wr (wrsL lim l base) = addL lim g.wr (wrsL lim l []) ++ base
    rw [addL_eq, wrsL_eq lim base l, addL_eq (base := wrsL lim l []), List.append_assoc]
theorem rdsL_mem {lim x : Nat} (hx : x < lim) : ∀ {l : List OpLog} {g : OpLog}, g ∈ l → x ∈ g.rd → x ∈ rdsL lim l []
  | g' :: l, g, h, e => by
    show x ∈ addL lim g'.rd (rdsL lim l [])
    rcases List.mem_cons.1 h with rfl | h
    · exact addL_mem hx (.inl e)
    · exact addL_mem hx (.inr (rdsL_mem hx h e))
theorem wrsL_mem {lim x : Nat} (hx : x < lim) : ∀ {l : List OpLog} {g : OpLog}, g ∈ l → x ∈ g.wr → x ∈ wrsL lim l []
  | g' :: l, g, h, e => by
    show x ∈ addL lim g'.wr (wrsL lim l [])
    rcases List.mem_cons.1 h with rfl | h
    · exact addL_mem hx (.inl e)
    · exact addL_mem hx (.inr (wrsL_mem hx h e))
end Go.Proofs.YtkgncjlgmnbfoaaGreatDoor.Am
