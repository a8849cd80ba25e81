/- slices.Sorted(maps.Keys(m)) of a disk's files, as contracts within the evaluator: a new slice of the keys, sorted, whatever order the map is gone through in. -/
import Derived.Test.YtapojfiplajfaaaGreatDoorWnn12
import Derived.Test.YtapojfiplajfaaaGreatDoorWnn11
import Derived.Test.YtapojfiplajfaaaGreatDoorWnn13
namespace Go.Proofs.YtapojfiplajfaaaGreatDoor.Am
open Go.RowKit Go.Maps Go.Sort Go.Shelf

theorem insert_perm {H : Type} (x : Lit × DataW H) : ∀ l : List (Lit × DataW H), (DataW.insert x l).Perm (x :: l)
  | [] => .refl _
  | y :: l => by
    unfold DataW.insert
    split
    · exact .refl _
    · exact ((insert_perm x l).cons y).trans (.swap x y l)
theorem foldr_perm {H : Type} : ∀ l : List (Lit × DataW H), (l.foldr DataW.insert []).Perm l
  | [] => .refl _
  | x :: l => (insert_perm x _).trans ((foldr_perm l).cons x)

/-- The keys of a map that is laid so, sorted. -/
theorem sorted_calls (Bm b : Nat) (es : Array MapEntry) (clock : Nat) (ks : List (List UInt8)) (w : World) (hBm : Bm < w.heap.size) (hm : w.cell? ⟨Bm, 0, none⟩ = some (.map (some b))) (hb : w.heap[b]? = some (.map es clock))
    (hst : MapKept.Stamped es clock) (hk : es.toList.map (·.key) = ks.map encStr) (hl : ∀ k ∈ ks, k.length ≤ maxLen) (hn : ks.length ≤ 1000000) :
    Calls Tryz.prog 91 #[.func (.func 144) #[] #[.pointer (some ⟨Bm, 0, none⟩)]] w fun e w' => ∃ v, e = .returned v ∧
      w'.ownsRow w.heap.size 9 1 v ((ks.mergeSort leB).map encStr).length ((ks.mergeSort leB).map encStr) ∧ (v = .slice none 0 0 ↔ (ks.mergeSort leB).map encStr = []) ∧ Below w.heap.size w w' := by
  have hlen : es.size = ks.length := by
    have := congrArg List.length hk
    simpa using this
  have hR : ∀ x ∈ es.toList, ∃ k ∈ ks, x.key = encStr k := fun x hx => by
    have h1 : x.key ∈ es.toList.map (·.key) := List.mem_map_of_mem hx
    rw [hk] at h1
    obtain ⟨k, h2, h3⟩ := List.mem_map.1 h1
    exact ⟨k, h2, h3.symm⟩
  have hkey : ∀ k ∈ ks, keyOf Tryz.prog 9 (encStr k) = some (.string k) := fun k hk => by
    have h1 : (⟨k.toArray⟩ : ByteArray).size ≤ maxLen := by
      show k.toArray.size ≤ maxLen
      simpa using hl k hk
    have := WideMaps.keyOf_string_mk (P := Tryz.prog) (k := 9) Tryz.underlying9 h1
    simpa using this
  have hrd : ∀ x ∈ es.toList, ∀ k ∈ ks, x.key = encStr k → WideElems.rd (H := Nat) Tryz.prog 9 (fun _ => some (.nil, [])) x = some (.string k, .nil) := fun x hx k h1 h2 => by
    unfold WideElems.rd
    rw [h2, hkey k h1]
    rfl
  have F : WideElems.Fit (H := Nat) Tryz.prog 9 (fun _ => some (.nil, [])) es clock := ⟨by rw [hlen]; exact Nat.le_trans hn (by decide), hst, fun x hx => by
    obtain ⟨k, h1, h2⟩ := hR x hx
    exact ⟨_, hrd x hx k h1 h2⟩⟩
  have hown : w.ownsMap (H := Nat) Tryz.prog 9 (fun _ => some (.nil, [])) b es.size (.map ((es.toList.map (WideElems.rg Tryz.prog 9 (fun _ => some (.nil, [])))).foldr DataW.insert [])) := ⟨es, clock, hb, F, Nat.le_refl _, rfl⟩
  have hperm : (strKeys (.map ((es.toList.map (WideElems.rg (H := Nat) Tryz.prog 9 (fun _ => some (.nil, [])))).foldr DataW.insert []))).Perm ks := by
    show (List.map _ _).Perm ks
    refine ((foldr_perm _).map _).trans ?_
    have : ((es.toList.map (WideElems.rg (H := Nat) Tryz.prog 9 (fun _ => some (.nil, [])))).map fun p => Go.strOf p.1).map encStr = ks.map encStr := by
      rw [← hk, List.map_map, List.map_map]
      refine List.map_congr_left fun x hx => ?_
      obtain ⟨k, h1, h2⟩ := hR x hx
      show encStr (Go.strOf (WideElems.rg _ _ _ x).1) = x.key
      rw [WideElems.rg_of (hrd x hx k h1 h2), h2]
      rfl
    have h2 : ∀ a c : List (List UInt8), a.map encStr = c.map encStr → a = c := fun a c h => by
      refine List.ext_getElem? fun i => ?_
      have := congrArg (·[i]?) h
      simp only [List.getElem?_map] at this
      cases e1 : a[i]? <;> cases e2 : c[i]? <;> rw [e1, e2] at this <;> simp at this ⊢
      exact this
    rw [h2 _ _ this]
  have hsz : Maps.size (DataW.map ((es.toList.map (WideElems.rg (H := Nat) Tryz.prog 9 (fun _ => some (.nil, [])))).foldr DataW.insert [])) = ks.length := by
    rw [Maps.size_eq, (foldr_perm _).length_eq, List.length_map, Array.length_toList, hlen]
  have hseq := AnyZ.keys_gives (ρ := Tryz.keys92_ren) { Tryz.keys92 with } Fence.wide 2 trivial rfl (by omega) Bm b es.size _ w hBm hm hown
  have hcalls := AnyZ.sorted_in Tryz.sorted91 Fence.wide 5 trivial trivial trivial trivial rfl (by omega) (Tryz.sorts91 _) (enters_of Tryz.func143 (by kernel_rfl) rfl) 144 #[.pointer (some ⟨Bm, 0, none⟩)] trivial (enters_of Tryz.func144 (by kernel_rfl) rfl) _ _ (by rw [hsz]; exact Nat.le_trans hn (by decide)) (by rw [hsz]; omega) w hseq
  refine (callsIn_wide.1 hcalls).mono ?_
  rintro e w' ⟨v, ss, rfl, hS, hrow, hnil, hbl⟩
  have hs : ss.mergeSort leB = ks.mergeSort leB := mergeSort_of_perm (hS.trans hperm)
  have hll : ss.length = ((ks.mergeSort leB).map encStr).length := by rw [← hs]; simp
  refine ⟨v, rfl, ?_, ?_, hbl⟩
  · rw [← hll, ← hs]
    exact hrow
  · rw [hnil, ← hs]
    constructor
    · rintro rfl
      simp
    · intro h
      have := congrArg List.length h
      simpa using this

/-! ### In the evaluator -/
def lexLe : List UInt8 → List UInt8 → Bool
  | [], _ => true
  | _ :: _, [] => false
  | a :: x, b :: y => Nat.blt a.toNat b.toNat || (Nat.beq a.toNat b.toNat && lexLe x y)
theorem lexLe_eq : ∀ x y : List UInt8, lexLe x y = leB x y
  | [], y => by simp [lexLe, leB]
  | a :: x, [] => by simp [lexLe, leB]
  | a :: x, b :: y => by
    have ih := lexLe_eq x y
    unfold lexLe
    rw [ih]
    unfold leB
    rw [Bool.eq_iff_iff]
    simp only [Bool.or_eq_true, Bool.and_eq_true, decide_eq_true_eq, List.cons_le_cons_iff]
    constructor
    · rintro (h | ⟨h, k⟩)
      · exact .inl (UInt8.lt_iff_toNat_lt.2 (blt_lt h))
      · exact .inr ⟨UInt8.toNat_inj.1 (Nat.eq_of_beq_eq_true h), k⟩
    · rintro (h | ⟨h, k⟩)
      · exact .inl (Nat.ble_eq_true_of_le (UInt8.lt_iff_toNat_lt.1 h))
      · exact .inr ⟨by rw [h]; exact Nat.beq_refl _, k⟩
def insB (x : List UInt8) : List (List UInt8) → List (List UInt8)
  | [] => [x]
  | y :: l => if lexLe x y then x :: y :: l else y :: insB x l
def sortB (l : List (List UInt8)) : List (List UInt8) := l.foldr insB []
theorem leB_trans (a b c : List UInt8) (h1 : leB a b = true) (h2 : leB b c = true) : leB a c = true := by simp only [leB, decide_eq_true_eq] at *; exact List.le_trans h1 h2
theorem leB_total (a b : List UInt8) : (leB a b || leB b a) = true := by simp only [leB, Bool.or_eq_true, decide_eq_true_eq]; exact List.le_total a b
theorem insB_perm (x : List UInt8) : ∀ l, (insB x l).Perm (x :: l)
  | [] => .refl _
  | y :: l => by
    unfold insB
    split
    · exact .refl _
    · exact ((insB_perm x l).cons y).trans (.swap x y l)
theorem sortB_perm : ∀ l, (sortB l).Perm l
  | [] => .refl _
  | x :: l => (insB_perm x _).trans ((sortB_perm l).cons x)
theorem insB_sorted (x : List UInt8) : ∀ l : List (List UInt8), l.Pairwise (fun a b => leB a b = true) → (insB x l).Pairwise (fun a b => leB a b = true)
  | [], _ => by unfold insB; exact List.pairwise_singleton _ _
  | y :: l, h => by
    obtain ⟨h1, h2⟩ := List.pairwise_cons.1 h
    unfold insB
    split
    · rename_i hx
      rw [lexLe_eq] at hx
      refine List.pairwise_cons.2 ⟨fun z hz => ?_, h⟩
      rcases List.mem_cons.1 hz with rfl | hz
      · exact hx
      · exact leB_trans _ _ _ hx (h1 z hz)
    · rename_i hx
      rw [lexLe_eq] at hx
      have hyx : leB y x = true := by
        have := leB_total x y
        rw [Bool.or_eq_true] at this
        rcases this with h | h
        · exact absurd h hx
        · exact h
      refine List.pairwise_cons.2 ⟨fun z hz => ?_, insB_sorted x l h2⟩
      rcases List.mem_cons.1 ((insB_perm x l).mem_iff.1 hz) with rfl | hz
      · exact hyx
      · exact h1 z hz
theorem sortB_sorted : ∀ l : List (List UInt8), (sortB l).Pairwise (fun a b => leB a b = true)
  | [] => .nil
  | x :: l => insB_sorted x _ (sortB_sorted l)
theorem sortB_eq (l : List (List UInt8)) : sortB l = l.mergeSort leB := by
  refine List.Perm.eq_of_pairwise (le := fun a b => leB a b = true) (fun a b _ _ h1 h2 => ?_) (sortB_sorted l) (List.pairwise_mergeSort leB_trans leB_total l) ((sortB_perm l).trans (List.mergeSort_perm l leB).symm)
  simp only [leB, decide_eq_true_eq] at h1 h2
  exact List.le_antisymm h1 h2

def strKey (v : Value) : Option (List UInt8) := match v with
  | .string s => some s.data.toList
  | _ => none
def keysB : List MapEntry → Option (List (List UInt8))
  | [] => some []
  | e :: l => match strKey e.key, keysB l with
    | some k, some ks => some (k :: ks)
    | _, _ => none
def memB (k : List UInt8) : List (List UInt8) → Bool
  | [] => false
  | x :: l => (lexLe x k && lexLe k x) || memB k l
def distB : List (List UInt8) → Bool
  | [] => true
  | k :: l => !memB k l && distB l
def shortB : List (List UInt8) → Nat → Bool
  | [], _ => true
  | k :: l, n => Nat.ble k.length n && shortB l n
theorem keysB_some : ∀ {es : List MapEntry} {ks : List (List UInt8)}, keysB es = some ks → es.map (·.key) = ks.map encStr
  | [], ks, h => by cases h; rfl
  | e :: l, ks, h => by
    unfold keysB at h
    split at h
    · rename_i k ks' h1 h2
      cases h
      have : e.key = encStr k := by
        unfold strKey at h1
        split at h1
        · rename_i s hs
          cases h1
          rw [hs]
        · cases h1
      rw [List.map_cons, List.map_cons, keysB_some h2, this]
    · cases h
theorem memB_false {k : List UInt8} : ∀ {l : List (List UInt8)}, memB k l = false → k ∉ l
  | [], _ => by simp
  | x :: l, h => by
    unfold memB at h
    rw [Bool.or_eq_false_iff] at h
    intro hm
    rcases List.mem_cons.1 hm with rfl | hm
    · have h1 := h.1
      rw [lexLe_eq] at h1
      have : leB k k = true := by simp [leB]
      rw [this] at h1
      cases h1
    · exact memB_false h.2 hm
theorem distB_nodup : ∀ {l : List (List UInt8)}, distB l = true → l.Nodup
  | [], _ => List.nodup_nil
  | k :: l, h => by
    unfold distB at h
    rw [Bool.and_eq_true, Bool.not_eq_true'] at h
    exact List.nodup_cons.2 ⟨memB_false h.1, distB_nodup h.2⟩
theorem shortB_le : ∀ {l : List (List UInt8)} {n : Nat}, shortB l n = true → ∀ k ∈ l, k.length ≤ n
  | [], _, _, k, hk => by cases hk
  | x :: l, n, h, k, hk => by
    unfold shortB at h
    rw [Bool.and_eq_true] at h
    rcases List.mem_cons.1 hk with rfl | hk
    · exact Nat.le_of_ble_eq_true h.1
    · exact shortB_le h.2 k hk

/-- maps.Keys: a function over a new block that holds the map. -/
noncomputable def keysM (k : Nat) (args : List Value) : M Value :=
  match args with
  | [.map m] => M.bind (newL [.map m]) fun b => M.pure (.func (.func k) #[] #[.chan (some b)])
  | _ => M.fail
noncomputable def sortKs (p : List MapEntry × Nat) : M Value :=
  M.on (keysB p.1) fun ks => M.chk (bornsOk p.1 0 p.2 && distB ks && shortB ks 1000000 && Nat.ble ks.length 1000000) (rowM ((sortB ks).map encStr))
/-- slices.Sorted of such a function. -/
noncomputable def sortedM (k : Nat) (args : List Value) : M Value :=
  match args with
  | [.func (.func f) first cap] => (match cap.toList with
    | [.chan (some b)] => M.chk (Nat.beq f k && first.isEmpty) (M.bind (rdV ⟨b, 0, none⟩) fun x => match x with
      | .map (some l) => M.bind (mapAt l) sortKs
      | _ => M.fail)
    | _ => M.fail)
  | _ => M.fail
theorem lo_sortKs (p : List MapEntry × Nat) : Loc (sortKs p) := lo_on _ fun _ks => lo_chk _ (lo_rowM _)
theorem np_sortKs (p : List MapEntry × Nat) : NoPan (sortKs p) := np_on _ fun _ks => np_chk _ (np_rowM _)
theorem lo_sortedM (k : Nat) (args : List Value) : Loc (sortedM k args) := by
  unfold sortedM
  repeat' split
  all_goals first | exact lo_fail | skip
  refine lo_chk _ (lo_bind (lo_rdV _) fun x => ?_)
  split
  · exact lo_bind (lo_mapAt _) lo_sortKs
  · exact lo_fail
theorem np_sortedM (k : Nat) (args : List Value) : NoPan (sortedM k args) := by
  unfold sortedM
  repeat' split
  all_goals first | exact np_fail | skip
  refine np_chk _ (np_bind (np_rdV _) fun x => ?_)
  split
  · exact np_bind (np_mapAt _) np_sortKs
  · exact np_fail
theorem lo_keysM (k : Nat) (args : List Value) : Loc (keysM k args) := by
  unfold keysM
  split
  · exact lo_bind (lo_newL _) fun b => lo_pure _
  · exact lo_fail
theorem np_keysM (k : Nat) (args : List Value) : NoPan (keysM k args) := by
  unfold keysM
  split
  · exact np_bind (np_newL _) fun b => np_pure _
  · exact np_fail
theorem VR.map_ex {r : Inj} {m : Option Nat} {v' : Value} (h : VR r (.map m) v') : ∃ m', v' = .map m' := by
  rcases h.map_inv with ⟨_, rfl⟩ | ⟨l, l', d, _, rfl, _⟩ <;> exact ⟨_, rfl⟩
theorem orc_keys : OrcOK Tryz.prog 92 (keysM 144) :=
  orc_con Tryz.func92 (by kernel_rfl) (by kernel_rfl) (lo_keysM _) (np_keysM _) (by
    intro w0 w r args args' s s' v e hr hfr ha
    unfold keysM at e
    split at e
    · rename_i m
      obtain ⟨m', l', rfl, q1, q2⟩ := ha.inv
      have := q2.inv_nil
      subst this
      obtain ⟨m'', rfl⟩ := q1.map_ex
      obtain ⟨b, s1, e1, e2⟩ := bind_some e
      obtain ⟨rfl, rfl⟩ := pure_some e2
      refine ⟨_, callsIn_wide.1 (Tryz.maps_Keys_92 m'' w), ?_⟩
      rintro e w' ⟨rfl, rfl⟩
      obtain ⟨rfl, g2, g3, g4, g5⟩ := newL_ok (vs' := [.map m'']) e1 hr hfr (.cons q1 .nil) (c := #[.map m'']) 104 (fun i v h => by simpa using h)
      refine ⟨_, _, rfl, ?_, g2, g4, g5⟩
      refine .func rfl rfl (fun i v v' e => by simp at e) rfl (fun i v v' e1 e2 => ?_)
      have hi : i = 0 := by
        rcases Nat.eq_zero_or_pos i with h | h
        · exact h
        · rw [Array.getElem?_eq_none (by simp; omega)] at e1; cases e1
      subst hi
      simp at e1 e2
      subst e1 e2
      exact .iter (Inj.add_self _ _ _)
    · cases e)
theorem orc_sorted : OrcOK Tryz.prog 91 (sortedM 144) :=
  orc_con Tryz.func91 (by kernel_rfl) (by kernel_rfl) (lo_sortedM _) (np_sortedM _) (by
    intro w0 w r args args' s s' v e hr hfr ha
    unfold sortedM at e
    split at e
    case h_2 => cases e
    rename_i f first cap
    obtain ⟨v1, l', rfl, q1, q2⟩ := ha.inv
    have := q2.inv_nil
    subst this
    obtain ⟨b, hcap⟩ : ∃ b, cap.toList = [.chan (some b)] := by
      rcases hl : cap.toList with _ | ⟨c0, _ | ⟨c1, rest⟩⟩
      · rw [hl] at e; cases e
      · rw [hl] at e
        cases c0 with
        | chan o =>
          cases o with
          | some b => exact ⟨b, rfl⟩
          | none => cases e
        | _ => cases e
      · rw [hl] at e
        cases c0 with
        | chan o => cases o <;> cases e
        | _ => cases e
    rw [hcap] at e
    replace e : M.chk (Nat.beq f 144 && first.isEmpty) (M.bind (rdV ⟨b, 0, none⟩) fun x => match x with
      | .map (some l) => M.bind (mapAt l) sortKs
      | _ => M.fail) s = .some v s' := e
    obtain ⟨hck, ee⟩ := chk_some e
    clear e
    rw [Bool.and_eq_true] at hck
    obtain ⟨f', a', c', rfl, q3, q4, q5⟩ := q1.func_inv
    have hf : f = 144 := Nat.eq_of_beq_eq_true hck.1
    subst hf
    cases f' with
    | yield l => simp only [FnR] at q3
    | method t => simp only [FnR] at q3
    | via t m => simp only [FnR] at q3
    | methodOf t m => simp only [FnR] at q3
    | func f' =>
      simp only [FnR] at q3
      subst q3
      have ha' : a' = #[] := by
        have h1 : first = #[] := by simpa using hck.2
        rw [h1] at q4
        have := q4.inv_nil
        simpa using this
      rw [hcap] at q5
      obtain ⟨p', t', hc', q6, q7⟩ := q5.inv
      have := q7.inv_nil
      subst this
      have hc2 : c' = #[p'] := by
        have := congrArg List.toArray hc'
        simpa using this
      subst ha' hc2
      cases q6 with
      | @iter b0 b' hbk =>
        obtain ⟨x, s1, e1, e⟩ := bind_some ee
        obtain ⟨x', k1, k2, k3⟩ := rdV_ok (a' := ⟨b', 0, none⟩) e1 hr ⟨b, 0, b', 0, rfl, rfl, hbk⟩
        obtain ⟨l, rfl⟩ : ∃ l, x = .map (some l) := by
          cases x with
          | map o =>
            cases o with
            | some l => exact ⟨l, rfl⟩
            | none => cases e
          | _ => cases e
        replace e : M.bind (mapAt l) sortKs s1 = .some v s' := e
        rcases k2.map_inv with ⟨k, _⟩ | ⟨l0, lm, dm, j1, j2, j3⟩
        · cases k
        cases j1
        subst j2
        obtain ⟨p, s2, e2, e⟩ := bind_some e
        obtain ⟨m1, m2⟩ := mapAt_some e2
        rw [k3.1] at m1
        obtain ⟨es', n1, n2⟩ := hr.mapObj m1 j3
        unfold sortKs at e
        obtain ⟨ks, hks, e⟩ := on_some e
        obtain ⟨hck2, e⟩ := chk_some e
        rw [Bool.and_eq_true, Bool.and_eq_true, Bool.and_eq_true] at hck2
        obtain ⟨⟨⟨c1, c2⟩, c3⟩, c4⟩ := hck2
        have hkk : es'.toList.map (·.key) = ks.map encStr := by
          rw [← keysB_some hks]
          refine List.ext_getElem? fun i => ?_
          rw [List.getElem?_map, List.getElem?_map]
          cases e1 : p.1[i]? with
          | none =>
            have : es'.toList[i]? = none := by
              rw [List.getElem?_eq_none_iff] at e1 ⊢
              rw [← n2.1]
              exact e1
            rw [this]
          | some x =>
            obtain ⟨hi, _⟩ := List.getElem?_eq_some_iff.1 e1
            have hi' : i < es'.toList.length := by rw [← n2.1]; exact hi
            rw [List.getElem?_eq_getElem hi']
            have h3 := (n2.2 i x _ e1 (List.getElem?_eq_getElem hi')).2.1
            show some (es'.toList[i].key) = some x.key
            rw [h3]
        have hst : MapKept.Stamped es' p.2 := by
          refine ⟨fun x hx => ?_, ?_, ?_⟩
          · have hm : x.born ∈ es'.toList.map (·.born) := List.mem_map_of_mem hx
            rw [n2.borns] at hm
            obtain ⟨y, hy, he⟩ := List.mem_map.1 hm
            have he : y.born = x.born := he
            rw [← he]
            exact (bornsOk_lt c1 y hy).2
          · rw [n2.borns]; exact bornsOk_nodup c1
          · rw [hkk]
            exact (distB_nodup c2).map encStr fun a b hne h => hne (encStr_inj h)
        have h0 : b' < w.heap.size := (hr.dom _ _ _ hbk).2
        have hcalls := sorted_calls b' lm es' p.2 ks w h0 k1 n1 hst hkk (fun k hk => Nat.le_trans (shortB_le c3 k hk) (by decide)) (Nat.le_of_ble_eq_true c4)
        rw [sortB_eq] at e
        have hs12 := k3.trans m2
        refine ⟨_, hcalls, ?_⟩
        rintro e4 w' ⟨v', rfl, hrow, hnil, hbl⟩
        obtain ⟨r', g1, g2, g3, g4⟩ := rowM_ok (vs' := (ks.mergeSort leB).map encStr) e (by rw [hs12.1]; exact hr) (by rw [hs12.2.1]; exact hfr) ⟨rfl, fun i v v' e1 e2 => by rw [e1] at e2; cases e2; rw [List.getElem?_map] at e1; obtain ⟨a, _, rfl⟩ := Option.map_eq_some_iff.1 e1; exact .of_plain rfl⟩ hbl hrow hnil
        refine ⟨v', r', rfl, g1, ?_, g3.trans hs12.2.2.1, g4.trans hs12.2.2.2⟩
        have hg2 := Goes.trans (.same hs12 hr) g2
        exact hg2)
end Go.Proofs.YtapojfiplajfaaaGreatDoor.Am
