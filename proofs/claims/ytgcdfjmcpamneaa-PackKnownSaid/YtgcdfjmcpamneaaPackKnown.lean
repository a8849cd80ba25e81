/- The Go law PackKnown answers true, from every world: the evaluator's run of it, checked by the kernel. Conditions: none. -/
import Derived.Test.YtgcdfjmcpamneaaRows
import Derived.Test.YtgcdfjmcpamneaaAmExt
import Derived.Test.YtgcdfjmcpamneaaShaOrc
import Derived.WalkKit
import Derived.ProofKit
import Derived.OpenShut
import Derived.ChangeSame
namespace Go.Proofs.Ytgcdfjmcpamneaa.packKnown
open Go.ChangeShapes Go.WideShapes Go.ChangeAt Go.RowKit

theorem own : ownKnob Try.prog.godebug = none := by kernel_rfl
noncomputable def env0 : Am.Env := Am.envOf Try.prog .E .E
theorem env0_ok : Am.EnvOK env0 := Am.envOf_ok Try.prog (by kernel_rfl)
/-- What each byte does to a sum: the table that guard.words makes. -/
noncomputable def words : Value := .agg (List.toArray [.int .u32 (.ofNat (nat_lit 0)), .int .u32 (.ofNat (nat_lit 1996959894)), .int .u32 (.ofNat (nat_lit 3993919788)), .int .u32 (.ofNat (nat_lit 2567524794)), .int .u32 (.ofNat (nat_lit 124634137)), .int .u32 (.ofNat (nat_lit 1886057615)), .int .u32 (.ofNat (nat_lit 3915621685)), .int .u32 (.ofNat (nat_lit 2657392035)), .int .u32 (.ofNat (nat_lit 249268274)), .int .u32 (.ofNat (nat_lit 2044508324)), .int .u32 (.ofNat (nat_lit 3772115230)), .int .u32 (.ofNat (nat_lit 2547177864)), .int .u32 (.ofNat (nat_lit 162941995)), .int .u32 (.ofNat (nat_lit 2125561021)), .int .u32 (.ofNat (nat_lit 3887607047)), .int .u32 (.ofNat (nat_lit 2428444049)), .int .u32 (.ofNat (nat_lit 498536548)), .int .u32 (.ofNat (nat_lit 1789927666)), .int .u32 (.ofNat (nat_lit 4089016648)), .int .u32 (.ofNat (nat_lit 2227061214)), .int .u32 (.ofNat (nat_lit 450548861)), .int .u32 (.ofNat (nat_lit 1843258603)), .int .u32 (.ofNat (nat_lit 4107580753)), .int .u32 (.ofNat (nat_lit 2211677639)), .int .u32 (.ofNat (nat_lit 325883990)), .int .u32 (.ofNat (nat_lit 1684777152)), .int .u32 (.ofNat (nat_lit 4251122042)), .int .u32 (.ofNat (nat_lit 2321926636)), .int .u32 (.ofNat (nat_lit 335633487)), .int .u32 (.ofNat (nat_lit 1661365465)), .int .u32 (.ofNat (nat_lit 4195302755)), .int .u32 (.ofNat (nat_lit 2366115317)), .int .u32 (.ofNat (nat_lit 997073096)), .int .u32 (.ofNat (nat_lit 1281953886)), .int .u32 (.ofNat (nat_lit 3579855332)), .int .u32 (.ofNat (nat_lit 2724688242)), .int .u32 (.ofNat (nat_lit 1006888145)), .int .u32 (.ofNat (nat_lit 1258607687)), .int .u32 (.ofNat (nat_lit 3524101629)), .int .u32 (.ofNat (nat_lit 2768942443)), .int .u32 (.ofNat (nat_lit 901097722)), .int .u32 (.ofNat (nat_lit 1119000684)), .int .u32 (.ofNat (nat_lit 3686517206)), .int .u32 (.ofNat (nat_lit 2898065728)), .int .u32 (.ofNat (nat_lit 853044451)), .int .u32 (.ofNat (nat_lit 1172266101)), .int .u32 (.ofNat (nat_lit 3705015759)), .int .u32 (.ofNat (nat_lit 2882616665)), .int .u32 (.ofNat (nat_lit 651767980)), .int .u32 (.ofNat (nat_lit 1373503546)), .int .u32 (.ofNat (nat_lit 3369554304)), .int .u32 (.ofNat (nat_lit 3218104598)), .int .u32 (.ofNat (nat_lit 565507253)), .int .u32 (.ofNat (nat_lit 1454621731)), .int .u32 (.ofNat (nat_lit 3485111705)), .int .u32 (.ofNat (nat_lit 3099436303)), .int .u32 (.ofNat (nat_lit 671266974)), .int .u32 (.ofNat (nat_lit 1594198024)), .int .u32 (.ofNat (nat_lit 3322730930)), .int .u32 (.ofNat (nat_lit 2970347812)), .int .u32 (.ofNat (nat_lit 795835527)), .int .u32 (.ofNat (nat_lit 1483230225)), .int .u32 (.ofNat (nat_lit 3244367275)), .int .u32 (.ofNat (nat_lit 3060149565)), .int .u32 (.ofNat (nat_lit 1994146192)), .int .u32 (.ofNat (nat_lit 31158534)), .int .u32 (.ofNat (nat_lit 2563907772)), .int .u32 (.ofNat (nat_lit 4023717930)), .int .u32 (.ofNat (nat_lit 1907459465)), .int .u32 (.ofNat (nat_lit 112637215)), .int .u32 (.ofNat (nat_lit 2680153253)), .int .u32 (.ofNat (nat_lit 3904427059)), .int .u32 (.ofNat (nat_lit 2013776290)), .int .u32 (.ofNat (nat_lit 251722036)), .int .u32 (.ofNat (nat_lit 2517215374)), .int .u32 (.ofNat (nat_lit 3775830040)), .int .u32 (.ofNat (nat_lit 2137656763)), .int .u32 (.ofNat (nat_lit 141376813)), .int .u32 (.ofNat (nat_lit 2439277719)), .int .u32 (.ofNat (nat_lit 3865271297)), .int .u32 (.ofNat (nat_lit 1802195444)), .int .u32 (.ofNat (nat_lit 476864866)), .int .u32 (.ofNat (nat_lit 2238001368)), .int .u32 (.ofNat (nat_lit 4066508878)), .int .u32 (.ofNat (nat_lit 1812370925)), .int .u32 (.ofNat (nat_lit 453092731)), .int .u32 (.ofNat (nat_lit 2181625025)), .int .u32 (.ofNat (nat_lit 4111451223)), .int .u32 (.ofNat (nat_lit 1706088902)), .int .u32 (.ofNat (nat_lit 314042704)), .int .u32 (.ofNat (nat_lit 2344532202)), .int .u32 (.ofNat (nat_lit 4240017532)), .int .u32 (.ofNat (nat_lit 1658658271)), .int .u32 (.ofNat (nat_lit 366619977)), .int .u32 (.ofNat (nat_lit 2362670323)), .int .u32 (.ofNat (nat_lit 4224994405)), .int .u32 (.ofNat (nat_lit 1303535960)), .int .u32 (.ofNat (nat_lit 984961486)), .int .u32 (.ofNat (nat_lit 2747007092)), .int .u32 (.ofNat (nat_lit 3569037538)), .int .u32 (.ofNat (nat_lit 1256170817)), .int .u32 (.ofNat (nat_lit 1037604311)), .int .u32 (.ofNat (nat_lit 2765210733)), .int .u32 (.ofNat (nat_lit 3554079995)), .int .u32 (.ofNat (nat_lit 1131014506)), .int .u32 (.ofNat (nat_lit 879679996)), .int .u32 (.ofNat (nat_lit 2909243462)), .int .u32 (.ofNat (nat_lit 3663771856)), .int .u32 (.ofNat (nat_lit 1141124467)), .int .u32 (.ofNat (nat_lit 855842277)), .int .u32 (.ofNat (nat_lit 2852801631)), .int .u32 (.ofNat (nat_lit 3708648649)), .int .u32 (.ofNat (nat_lit 1342533948)), .int .u32 (.ofNat (nat_lit 654459306)), .int .u32 (.ofNat (nat_lit 3188396048)), .int .u32 (.ofNat (nat_lit 3373015174)), .int .u32 (.ofNat (nat_lit 1466479909)), .int .u32 (.ofNat (nat_lit 544179635)), .int .u32 (.ofNat (nat_lit 3110523913)), .int .u32 (.ofNat (nat_lit 3462522015)), .int .u32 (.ofNat (nat_lit 1591671054)), .int .u32 (.ofNat (nat_lit 702138776)), .int .u32 (.ofNat (nat_lit 2966460450)), .int .u32 (.ofNat (nat_lit 3352799412)), .int .u32 (.ofNat (nat_lit 1504918807)), .int .u32 (.ofNat (nat_lit 783551873)), .int .u32 (.ofNat (nat_lit 3082640443)), .int .u32 (.ofNat (nat_lit 3233442989)), .int .u32 (.ofNat (nat_lit 3988292384)), .int .u32 (.ofNat (nat_lit 2596254646)), .int .u32 (.ofNat (nat_lit 62317068)), .int .u32 (.ofNat (nat_lit 1957810842)), .int .u32 (.ofNat (nat_lit 3939845945)), .int .u32 (.ofNat (nat_lit 2647816111)), .int .u32 (.ofNat (nat_lit 81470997)), .int .u32 (.ofNat (nat_lit 1943803523)), .int .u32 (.ofNat (nat_lit 3814918930)), .int .u32 (.ofNat (nat_lit 2489596804)), .int .u32 (.ofNat (nat_lit 225274430)), .int .u32 (.ofNat (nat_lit 2053790376)), .int .u32 (.ofNat (nat_lit 3826175755)), .int .u32 (.ofNat (nat_lit 2466906013)), .int .u32 (.ofNat (nat_lit 167816743)), .int .u32 (.ofNat (nat_lit 2097651377)), .int .u32 (.ofNat (nat_lit 4027552580)), .int .u32 (.ofNat (nat_lit 2265490386)), .int .u32 (.ofNat (nat_lit 503444072)), .int .u32 (.ofNat (nat_lit 1762050814)), .int .u32 (.ofNat (nat_lit 4150417245)), .int .u32 (.ofNat (nat_lit 2154129355)), .int .u32 (.ofNat (nat_lit 426522225)), .int .u32 (.ofNat (nat_lit 1852507879)), .int .u32 (.ofNat (nat_lit 4275313526)), .int .u32 (.ofNat (nat_lit 2312317920)), .int .u32 (.ofNat (nat_lit 282753626)), .int .u32 (.ofNat (nat_lit 1742555852)), .int .u32 (.ofNat (nat_lit 4189708143)), .int .u32 (.ofNat (nat_lit 2394877945)), .int .u32 (.ofNat (nat_lit 397917763)), .int .u32 (.ofNat (nat_lit 1622183637)), .int .u32 (.ofNat (nat_lit 3604390888)), .int .u32 (.ofNat (nat_lit 2714866558)), .int .u32 (.ofNat (nat_lit 953729732)), .int .u32 (.ofNat (nat_lit 1340076626)), .int .u32 (.ofNat (nat_lit 3518719985)), .int .u32 (.ofNat (nat_lit 2797360999)), .int .u32 (.ofNat (nat_lit 1068828381)), .int .u32 (.ofNat (nat_lit 1219638859)), .int .u32 (.ofNat (nat_lit 3624741850)), .int .u32 (.ofNat (nat_lit 2936675148)), .int .u32 (.ofNat (nat_lit 906185462)), .int .u32 (.ofNat (nat_lit 1090812512)), .int .u32 (.ofNat (nat_lit 3747672003)), .int .u32 (.ofNat (nat_lit 2825379669)), .int .u32 (.ofNat (nat_lit 829329135)), .int .u32 (.ofNat (nat_lit 1181335161)), .int .u32 (.ofNat (nat_lit 3412177804)), .int .u32 (.ofNat (nat_lit 3160834842)), .int .u32 (.ofNat (nat_lit 628085408)), .int .u32 (.ofNat (nat_lit 1382605366)), .int .u32 (.ofNat (nat_lit 3423369109)), .int .u32 (.ofNat (nat_lit 3138078467)), .int .u32 (.ofNat (nat_lit 570562233)), .int .u32 (.ofNat (nat_lit 1426400815)), .int .u32 (.ofNat (nat_lit 3317316542)), .int .u32 (.ofNat (nat_lit 2998733608)), .int .u32 (.ofNat (nat_lit 733239954)), .int .u32 (.ofNat (nat_lit 1555261956)), .int .u32 (.ofNat (nat_lit 3268935591)), .int .u32 (.ofNat (nat_lit 3050360625)), .int .u32 (.ofNat (nat_lit 752459403)), .int .u32 (.ofNat (nat_lit 1541320221)), .int .u32 (.ofNat (nat_lit 2607071920)), .int .u32 (.ofNat (nat_lit 3965973030)), .int .u32 (.ofNat (nat_lit 1969922972)), .int .u32 (.ofNat (nat_lit 40735498)), .int .u32 (.ofNat (nat_lit 2617837225)), .int .u32 (.ofNat (nat_lit 3943577151)), .int .u32 (.ofNat (nat_lit 1913087877)), .int .u32 (.ofNat (nat_lit 83908371)), .int .u32 (.ofNat (nat_lit 2512341634)), .int .u32 (.ofNat (nat_lit 3803740692)), .int .u32 (.ofNat (nat_lit 2075208622)), .int .u32 (.ofNat (nat_lit 213261112)), .int .u32 (.ofNat (nat_lit 2463272603)), .int .u32 (.ofNat (nat_lit 3855990285)), .int .u32 (.ofNat (nat_lit 2094854071)), .int .u32 (.ofNat (nat_lit 198958881)), .int .u32 (.ofNat (nat_lit 2262029012)), .int .u32 (.ofNat (nat_lit 4057260610)), .int .u32 (.ofNat (nat_lit 1759359992)), .int .u32 (.ofNat (nat_lit 534414190)), .int .u32 (.ofNat (nat_lit 2176718541)), .int .u32 (.ofNat (nat_lit 4139329115)), .int .u32 (.ofNat (nat_lit 1873836001)), .int .u32 (.ofNat (nat_lit 414664567)), .int .u32 (.ofNat (nat_lit 2282248934)), .int .u32 (.ofNat (nat_lit 4279200368)), .int .u32 (.ofNat (nat_lit 1711684554)), .int .u32 (.ofNat (nat_lit 285281116)), .int .u32 (.ofNat (nat_lit 2405801727)), .int .u32 (.ofNat (nat_lit 4167216745)), .int .u32 (.ofNat (nat_lit 1634467795)), .int .u32 (.ofNat (nat_lit 376229701)), .int .u32 (.ofNat (nat_lit 2685067896)), .int .u32 (.ofNat (nat_lit 3608007406)), .int .u32 (.ofNat (nat_lit 1308918612)), .int .u32 (.ofNat (nat_lit 956543938)), .int .u32 (.ofNat (nat_lit 2808555105)), .int .u32 (.ofNat (nat_lit 3495958263)), .int .u32 (.ofNat (nat_lit 1231636301)), .int .u32 (.ofNat (nat_lit 1047427035)), .int .u32 (.ofNat (nat_lit 2932959818)), .int .u32 (.ofNat (nat_lit 3654703836)), .int .u32 (.ofNat (nat_lit 1088359270)), .int .u32 (.ofNat (nat_lit 936918000)), .int .u32 (.ofNat (nat_lit 2847714899)), .int .u32 (.ofNat (nat_lit 3736837829)), .int .u32 (.ofNat (nat_lit 1202900863)), .int .u32 (.ofNat (nat_lit 817233897)), .int .u32 (.ofNat (nat_lit 3183342108)), .int .u32 (.ofNat (nat_lit 3401237130)), .int .u32 (.ofNat (nat_lit 1404277552)), .int .u32 (.ofNat (nat_lit 615818150)), .int .u32 (.ofNat (nat_lit 3134207493)), .int .u32 (.ofNat (nat_lit 3453421203)), .int .u32 (.ofNat (nat_lit 1423857449)), .int .u32 (.ofNat (nat_lit 601450431)), .int .u32 (.ofNat (nat_lit 3009837614)), .int .u32 (.ofNat (nat_lit 3294710456)), .int .u32 (.ofNat (nat_lit 1567103746)), .int .u32 (.ofNat (nat_lit 711928724)), .int .u32 (.ofNat (nat_lit 3020668471)), .int .u32 (.ofNat (nat_lit 3272380065)), .int .u32 (.ofNat (nat_lit 1510334235)), .int .u32 (.ofNat (nat_lit 755167117))])
theorem words_run : Am.valR (Am.callF env0 1000000 60 [] Am.st0) = some words := by kernel_rfl
theorem words_plain : Am.plain words = true := by kernel_rfl
noncomputable def env1 : Am.Env := Am.envOf Try.prog (Am.T.set (Am.T.set .E 59 (Am.nextM)) 60 (Am.closedM words)) .E
theorem env1_ok : Am.EnvOK env1 := Am.envOf_all Try.prog (by kernel_rfl) (((Am.OrcT.E _).set (Am.orc_next)).set (Am.orc_closed env0_ok (by kernel_rfl) (by kernel_rfl) words_run words_plain)) (Am.ExtT.E _)
theorem run : Am.valR (Am.callF env1 1000000 5 [] Am.st0) = some (.bool true) := by kernel_rfl
theorem walk (w : World) : Calls Try.prog 5 #[] w fun e w' => e = .returned (.bool true) ∧ Below w.heap.size w w' := Am.calls_of env1_ok (by kernel_rfl) (by kernel_rfl) run rfl w

/-- Of what lay there nothing has turned: the row's last step. -/
theorem post_kept {H : Type} {enc : TypeId × Value → H} {P : Program} {f : Func} {s : ChangeSpec} {apart fresh handsOn again : Bool} {W W' : World} {args : Array Value} {v : Value} {ds gs : List (DataW H)} {before pa pv : List MemPlace}
    (hW : DataW.Whole enc P f.params.toList s.vars apart W args.toList ds gs before)
    (hr : ∀ (b : Nat) (sp : Nat → Bool) (hd : Bool), DataW.TrodAll enc P W' b sp hd f.resultTypes.toList (v.resultList f.resultTypes.size) (s.fn H (ds ++ gs)).results [])
    (ha : ∀ sp : Nat → Bool, (∀ p ∈ before, sp p.block = true) → DataW.TrodAll enc P W' 0 sp true f.params.toList args.toList (s.fn H (ds ++ gs)).args pa)
    (hv : ∀ sp : Nat → Bool, (∀ p ∈ before, sp p.block = true) → DataW.TrodVars enc P W' sp s.vars (s.fn H (ds ++ gs)).vars pv)
    (hps : before = pa ++ pv) (hb : Below W.heap.size W W')
    (hok : ∀ (j : Nat) (t : TypeId) (r : Value), f.resultTypes[j]? = some t → (v.resultList f.resultTypes.size)[j]? = some r → Value.okWide P W' .any 0 t r) :
    s.post enc P f apart fresh handsOn again W args v W' := by
  have lt : ∀ p ∈ before, p.block < W.heap.size := fun p hp => hW.lt p hp
  have lo : ∀ p ∈ before, (fun b => decide (b < W.heap.size)) p.block = true := fun p hp => by simpa using lt p hp
  refine ⟨ds, gs, before, [], pa, pv, hW, hr _ _ _, ha _ lo, hv _ lo, World.keptBut_mono (fun p hp => ⟨hp, ?_⟩) (hb.frame (· ∈ before)), fun _ => ?_⟩
  · rw [hps, List.mem_append] at hp
    exact Or.inr hp
  · obtain ⟨_, _, _, _, _, hz, hn⟩ := hW
    refine ⟨hok, _, _, ([] ++ pa) ++ pv, ⟨[] ++ pa, pv, trodAll_append (ha _ (fun _ _ => rfl)) (hr _ _ _), hv _ (fun _ _ => rfl), rfl, ?_, ?_⟩, ?_⟩
    · intro b off hp
      have hin : MemPlace.cell b off ∈ before := by rw [hps]; simpa using hp
      rw [hb.frozen (lt _ hin)]
      exact hz b off hin
    · intro h
      have := hn h
      rw [hps] at this
      simpa using this
    · intro p hp _
      rw [hps]
      simpa using hp

set_option maxRecDepth 100000 in
theorem lifted (os : Os) (started : os.Started) (H : Type) (enc : TypeId × Value → H) :
    ReturnsInHanded {} Try.checked os 5 .any (Rows.packKnownSpec.pre6 enc Try.prog Try.f5 Rows.packKnownRow.domain false) (Rows.packKnownSpec.post enc Try.prog Try.f5 false true false false) := by
  refine returnsInHanded_of_change (C := Try.checked) own started (by kernel_rfl) Try.func5
    (ChangeSpec.witness6 (enc := enc) (C := Try.checked) false ⟨#[], #[], []⟩ 8 (by kernel_rfl) (by kernel_rfl) (by kernel_rfl) (by kernel_rfl)) ?_
  intro W base args ds gs before hval0 hW hcnd _
  have hW' := hW
  obtain ⟨p, q, hA0, hV, rfl, hfz, hnd⟩ := hW
  have hA : DataW.TrodAll enc Try.prog W 0 (fun _ => true) true Try.f5.params.toList args.toList ds p := hA0
  rw [Try.params5] at hA
  obtain ⟨rfl, rfl, rfl⟩ := trodAll_none hA
  obtain ⟨rfl, rfl⟩ := trodVars_none hV
  clear hA0 hval0
  simp only [List.append_nil] at hW'
  refine (walk W).mono fun e W' ⟨he, hg⟩ => ?_
  subst he
  exact ⟨_, rfl, post_kept (pa := []) (pv := []) hW' (fun _ _ _ => (trodAll_cons_mk (shut_bool Try.underlying4 _) trodAll_mk0)) (fun sp _ => rfl) (fun _ _ => rfl) rfl
    hg (ok_one (by kernel_rfl) rfl (okWide_bool_mk Try.underlying4 _))⟩

theorem over : Rows.packKnownRow.holds Try.pinned (OpenSpec.ofChange Rows.packKnownSpec) :=
  OpenClaim.holds_of_wide 5 Try.f5 rfl rfl rfl rfl rfl rfl rfl ⟨rfl, rfl, rfl, rfl, rfl⟩ rfl rfl rfl rfl rfl (by kernel_rfl) Try.func5 (by kernel_rfl)
    (of_decide_eq_true (by kernel_rfl)) (by unfold Func.isWrapper; first | (rw [if_pos (by decide +kernel)]; kernel_rfl) | (rw [if_neg (by decide +kernel)]; exact ⟨rfl, rfl⟩))
    (fun os started H enc _ => lifted os started H enc)

/-- The statement. -/
theorem proved : Rows.PackKnownSaid :=
  over
#print axioms proved
end Go.Proofs.Ytgcdfjmcpamneaa.packKnown
