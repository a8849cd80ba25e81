/- slices.Sorted(maps.Keys(m)) at a second map keyed by ints, as contracts within the evaluator. -/
import Derived.Test.YtapojfiplajfaaaGreatDoorWnn15
namespace Go.Proofs.YtapojfiplajfaaaGreatDoor.Am
open Go.RowKit Go.Maps Go.Sort Go.Shelf
/-- The keys of a map that is laid so, sorted. -/
theorem sortedI_callsJ (Bm b : Nat) (es : Array MapEntry) (clock : Nat) (ks : List Int) (w : World) (hBm : Bm < w.heap.size) (hm : w.cell? ⟨Bm, 0, none⟩ = some (.map (some b))) (hb : w.heap[b]? = some (.map es clock))
    (hst : MapKept.Stamped es clock) (hk : es.toList.map (·.key) = ks.map encZ) (hl : ∀ k ∈ ks, (Lit.int .i64 k).wf = true) (hn : ks.length ≤ 1000000) :
    Calls Tryz.prog 120 #[.func (.func 440) #[] #[.pointer (some ⟨Bm, 0, none⟩)]] w fun e w' => ∃ v, e = .returned v ∧
      w'.ownsRow w.heap.size 3 1 v ((ks.mergeSort leI).map encZ).length ((ks.mergeSort leI).map encZ) ∧ (v = .slice none 0 0 ↔ (ks.mergeSort leI).map encZ = []) ∧ Below w.heap.size w w' := by
  have hlen : es.size = ks.length := by
    have := congrArg List.length hk
    simpa using this
  have hR : ∀ x ∈ es.toList, ∃ k ∈ ks, x.key = encZ k := fun x hx => by
    have h1 : x.key ∈ es.toList.map (·.key) := List.mem_map_of_mem hx
    rw [hk] at h1
    obtain ⟨k, h2, h3⟩ := List.mem_map.1 h1
    exact ⟨k, h2, h3.symm⟩
  have hkey : ∀ k ∈ ks, keyOf Tryz.prog 3 (encZ k) = some (.int .i64 k) := fun k hk => Maps.keyOf_int_mk Tryz.underlying3 (hl k hk)
  have hrd : ∀ x ∈ es.toList, ∀ k ∈ ks, x.key = encZ k → WideElems.rd (H := Nat) Tryz.prog 3 (fun _ => some (.nil, [])) x = some (.int .i64 k, .nil) := fun x hx k h1 h2 => by
    unfold WideElems.rd
    rw [h2, hkey k h1]
    rfl
  have F : WideElems.Fit (H := Nat) Tryz.prog 3 (fun _ => some (.nil, [])) es clock := ⟨by rw [hlen]; exact Nat.le_trans hn (by decide), hst, fun x hx => by
    obtain ⟨k, h1, h2⟩ := hR x hx
    exact ⟨_, hrd x hx k h1 h2⟩⟩
  have hown : w.ownsMap (H := Nat) Tryz.prog 3 (fun _ => some (.nil, [])) b es.size (.map ((es.toList.map (WideElems.rg Tryz.prog 3 (fun _ => some (.nil, [])))).foldr DataW.insert [])) := ⟨es, clock, hb, F, Nat.le_refl _, rfl⟩
  have hperm : (intKeys (.map ((es.toList.map (WideElems.rg (H := Nat) Tryz.prog 3 (fun _ => some (.nil, [])))).foldr DataW.insert []))).Perm ks := by
    show (List.map _ _).Perm ks
    refine ((foldr_perm _).map _).trans ?_
    have : ((es.toList.map (WideElems.rg (H := Nat) Tryz.prog 3 (fun _ => some (.nil, [])))).map fun p => Go.intOf p.1).map encZ = ks.map encZ := by
      rw [← hk, List.map_map, List.map_map]
      refine List.map_congr_left fun x hx => ?_
      obtain ⟨k, h1, h2⟩ := hR x hx
      show encZ (Go.intOf (WideElems.rg _ _ _ x).1) = x.key
      rw [WideElems.rg_of (hrd x hx k h1 h2), h2]
      rfl
    have h2 : ∀ a c : List Int, a.map encZ = c.map encZ → a = c := fun a c h => by
      refine List.ext_getElem? fun i => ?_
      have := congrArg (·[i]?) h
      simp only [List.getElem?_map] at this
      cases e1 : a[i]? <;> cases e2 : c[i]? <;> rw [e1, e2] at this <;> simp at this ⊢
      exact this
    rw [h2 _ _ this]
  have hsz : Maps.size (DataW.map ((es.toList.map (WideElems.rg (H := Nat) Tryz.prog 3 (fun _ => some (.nil, [])))).foldr DataW.insert [])) = ks.length := by
    rw [Maps.size_eq, (foldr_perm _).length_eq, List.length_map, Array.length_toList, hlen]
  have hseq := AnyZI.keys_gives (ρ := Tryz.keys426_ren) { Tryz.keys426 with } Fence.wide 2 trivial rfl (by omega) Bm b es.size _ w hBm hm hown
  have hcalls := AnyZI.sorted_in Tryz.sorted120 Fence.wide 5 trivial trivial trivial trivial rfl (by omega) (Tryz.sorts120 _) (enters_of Tryz.func171 (by kernel_rfl) rfl) 440 #[.pointer (some ⟨Bm, 0, none⟩)] trivial (enters_of Tryz.func440 (by kernel_rfl) rfl) _ _ (by rw [hsz]; exact Nat.le_trans hn (by decide)) (by rw [hsz]; omega) w hseq
  refine (callsIn_wide.1 hcalls).mono ?_
  rintro e w' ⟨v, ss, rfl, hS, hrow, hnil, hbl⟩
  have hs : ss.mergeSort leI = ks.mergeSort leI := mergeSort_of_perm_i (hS.trans hperm)
  have hll : ss.length = ((ks.mergeSort leI).map encZ).length := by rw [← hs]; simp
  refine ⟨v, rfl, ?_, ?_, hbl⟩
  · rw [← hll, ← hs]
    exact hrow
  · rw [hnil, ← hs]
    constructor
    · rintro rfl
      simp
    · intro h
      have := congrArg List.length h
      simpa using this

theorem orc_keysJ : OrcOK Tryz.prog 426 (keysM 440) :=
  orc_con Tryz.func426 (by kernel_rfl) (by kernel_rfl) (lo_keysM _) (np_keysM _) (by
    intro w0 w r args args' s s' v e hr hfr ha
    unfold keysM at e
    split at e
    · rename_i m
      obtain ⟨m', l', rfl, q1, q2⟩ := ha.inv
      have := q2.inv_nil
      subst this
      obtain ⟨m'', rfl⟩ := q1.map_ex
      obtain ⟨b, s1, e1, e2⟩ := bind_some e
      obtain ⟨rfl, rfl⟩ := pure_some e2
      refine ⟨_, callsIn_wide.1 (Tryz.maps_Keys_426 m'' w), ?_⟩
      rintro e w' ⟨rfl, rfl⟩
      obtain ⟨rfl, g2, g3, g4, g5⟩ := newL_ok (vs' := [.map m'']) e1 hr hfr (.cons q1 .nil) (c := #[.map m'']) 137 (fun i v h => by simpa using h)
      refine ⟨_, _, rfl, ?_, g2, g4, g5⟩
      refine .func rfl rfl (fun i v v' e => by simp at e) rfl (fun i v v' e1 e2 => ?_)
      have hi : i = 0 := by
        rcases Nat.eq_zero_or_pos i with h | h
        · exact h
        · rw [Array.getElem?_eq_none (by simp; omega)] at e1; cases e1
      subst hi
      simp at e1 e2
      subst e1 e2
      exact .iter (Inj.add_self _ _ _)
    · cases e)
theorem orc_sortedJ : OrcOK Tryz.prog 120 (sortedIM 440) :=
  orc_con Tryz.func120 (by kernel_rfl) (by kernel_rfl) (lo_sortedIM _) (np_sortedIM _) (by
    intro w0 w r args args' s s' v e hr hfr ha
    unfold sortedIM at e
    split at e
    case h_2 => cases e
    rename_i f first cap
    obtain ⟨v1, l', rfl, q1, q2⟩ := ha.inv
    have := q2.inv_nil
    subst this
    obtain ⟨b, hcap⟩ : ∃ b, cap.toList = [.chan (some b)] := by
      rcases hl : cap.toList with _ | ⟨c0, _ | ⟨c1, rest⟩⟩
      · rw [hl] at e; cases e
      · rw [hl] at e
        cases c0 with
        | chan o =>
          cases o with
          | some b => exact ⟨b, rfl⟩
          | none => cases e
        | _ => cases e
      · rw [hl] at e
        cases c0 with
        | chan o => cases o <;> cases e
        | _ => cases e
    rw [hcap] at e
    replace e : M.chk (Nat.beq f 440 && first.isEmpty) (M.bind (rdV ⟨b, 0, none⟩) fun x => match x with
      | .map (some l) => M.bind (mapAt l) sortKsI
      | _ => M.fail) s = .some v s' := e
    obtain ⟨hck, ee⟩ := chk_some e
    clear e
    rw [Bool.and_eq_true] at hck
    obtain ⟨f', a', c', rfl, q3, q4, q5⟩ := q1.func_inv
    have hf : f = 440 := Nat.eq_of_beq_eq_true hck.1
    subst hf
    cases f' with
    | yield l => simp only [FnR] at q3
    | method t => simp only [FnR] at q3
    | via t m => simp only [FnR] at q3
    | methodOf t m => simp only [FnR] at q3
    | func f' =>
      simp only [FnR] at q3
      subst q3
      have ha' : a' = #[] := by
        have h1 : first = #[] := by simpa using hck.2
        rw [h1] at q4
        have := q4.inv_nil
        simpa using this
      rw [hcap] at q5
      obtain ⟨p', t', hc', q6, q7⟩ := q5.inv
      have := q7.inv_nil
      subst this
      have hc2 : c' = #[p'] := by
        have := congrArg List.toArray hc'
        simpa using this
      subst ha' hc2
      cases q6 with
      | @iter b0 b' hbk =>
        obtain ⟨x, s1, e1, e⟩ := bind_some ee
        obtain ⟨x', k1, k2, k3⟩ := rdV_ok (a' := ⟨b', 0, none⟩) e1 hr ⟨b, 0, b', 0, rfl, rfl, hbk⟩
        obtain ⟨l, rfl⟩ : ∃ l, x = .map (some l) := by
          cases x with
          | map o =>
            cases o with
            | some l => exact ⟨l, rfl⟩
            | none => cases e
          | _ => cases e
        replace e : M.bind (mapAt l) sortKsI s1 = .some v s' := e
        rcases k2.map_inv with ⟨k, _⟩ | ⟨l0, lm, dm, j1, j2, j3⟩
        · cases k
        cases j1
        subst j2
        obtain ⟨p, s2, e2, e⟩ := bind_some e
        obtain ⟨m1, m2⟩ := mapAt_some e2
        rw [k3.1] at m1
        obtain ⟨es', n1, n2⟩ := hr.mapObj m1 j3
        unfold sortKsI at e
        obtain ⟨ks, hks, e⟩ := on_some e
        obtain ⟨hck2, e⟩ := chk_some e
        rw [Bool.and_eq_true, Bool.and_eq_true, Bool.and_eq_true] at hck2
        obtain ⟨⟨⟨c1, c2⟩, c3⟩, c4⟩ := hck2
        have hkk : es'.toList.map (·.key) = ks.map encZ := by
          rw [← keysI_some hks]
          refine List.ext_getElem? fun i => ?_
          rw [List.getElem?_map, List.getElem?_map]
          cases e1 : p.1[i]? with
          | none =>
            have : es'.toList[i]? = none := by
              rw [List.getElem?_eq_none_iff] at e1 ⊢
              rw [← n2.1]
              exact e1
            rw [this]
          | some x =>
            obtain ⟨hi, _⟩ := List.getElem?_eq_some_iff.1 e1
            have hi' : i < es'.toList.length := by rw [← n2.1]; exact hi
            rw [List.getElem?_eq_getElem hi']
            have h3 := (n2.2 i x _ e1 (List.getElem?_eq_getElem hi')).2.1
            show some (es'.toList[i].key) = some x.key
            rw [h3]
        have hst : MapKept.Stamped es' p.2 := by
          refine ⟨fun x hx => ?_, ?_, ?_⟩
          · have hm : x.born ∈ es'.toList.map (·.born) := List.mem_map_of_mem hx
            rw [n2.borns] at hm
            obtain ⟨y, hy, he⟩ := List.mem_map.1 hm
            have he : y.born = x.born := he
            rw [← he]
            exact (bornsOk_lt c1 y hy).2
          · rw [n2.borns]; exact bornsOk_nodup c1
          · rw [hkk]
            exact (distI_nodup c2).map encZ fun a b hne h => hne (encZ_inj h)
        have h0 : b' < w.heap.size := (hr.dom _ _ _ hbk).2
        have hcalls := sortedI_callsJ b' lm es' p.2 ks w h0 k1 n1 hst hkk (wfI_wf c3) (Nat.le_of_ble_eq_true c4)
        rw [sortI_eq] at e
        have hs12 := k3.trans m2
        refine ⟨_, hcalls, ?_⟩
        rintro e4 w' ⟨v', rfl, hrow, hnil, hbl⟩
        obtain ⟨r', g1, g2, g3, g4⟩ := rowM_ok (vs' := (ks.mergeSort leI).map encZ) e (by rw [hs12.1]; exact hr) (by rw [hs12.2.1]; exact hfr) ⟨rfl, fun i v v' e1 e2 => by rw [e1] at e2; cases e2; rw [List.getElem?_map] at e1; obtain ⟨a, _, rfl⟩ := Option.map_eq_some_iff.1 e1; exact .of_plain rfl⟩ hbl hrow hnil
        refine ⟨v', r', rfl, g1, ?_, g3.trans hs12.2.2.1, g4.trans hs12.2.2.2⟩
        have hg2 := Goes.trans (.same hs12 hr) g2
        exact hg2)
end Go.Proofs.YtapojfiplajfaaaGreatDoor.Am
