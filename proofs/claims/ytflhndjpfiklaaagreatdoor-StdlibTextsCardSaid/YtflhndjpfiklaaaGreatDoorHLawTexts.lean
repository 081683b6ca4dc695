/- The statement StdlibTexts of the seat's rows and its tied card, proved out of the walk of the law. Conditions: the row's own (the listed variables read as laid; the walk reads none of them). -/
import Derived.Test.YtflhndjpfiklaaaGreatDoorCards
import Derived.Test.YtflhndjpfiklaaaGreatDoorTie
import Derived.Test.YtflhndjpfiklaaaGreatDoorHStdU
import Derived.Test.YtflhndjpfiklaaaGreatDoorHOpen
import Derived.Test.YtflhndjpfiklaaaGreatDoorHTeJ1
import Derived.Test.YtflhndjpfiklaaaGreatDoorHTeJ2
import Derived.Test.YtflhndjpfiklaaaGreatDoorHTeJ3
import Derived.Test.YtflhndjpfiklaaaGreatDoorHTeJ4
import Derived.ChangeSame
import Derived.ChangeMaps5
namespace Go.Proofs.YtflhndjpfiklaaaGreatDoor.stdlibTexts
set_option linter.unusedSimpArgs false
set_option linter.unusedVariables false
open Go.RowKit Go.ChangeShapes Go.WideShapes Go.ChangeAt Go.Proofs.YtflhndjpfiklaaaGreatDoor.H
set_option maxRecDepth 100000 in
theorem lifted (os : Os) (started : os.Started) (H : Type) (enc : TypeId × Value → H) :
    ReturnsInHanded {} Tryz.checked os 3 .any (fun w args => (Rows.stdlibTextsSpec.pre enc Tryz.prog Tryz.f3 Rows.stdlibTextsRow.domain false w args ∧ laidMetH Tryz.prog Rows.stdlibTextsRow.laid w) ∧ sizedMet enc Tryz.prog Tryz.f3 (OpenSpec.ofChange Rows.stdlibTextsSpec) false w args)
      (Rows.stdlibTextsSpec.post enc Tryz.prog Tryz.f3 false true false false) := by
  refine returnsInHanded_of_change_and (C := Tryz.checked) (X := fun w _ => laidMetH Tryz.prog Rows.stdlibTextsRow.laid w) (fun _ _ _ hh h => h.of_heap hh) ownH started (by kernel_rfl) Tryz.func3
    (ChangeSpec.witness_shaped (enc := enc) (C := Tryz.checked) (os := os) (X := fun w _ => laidMetH Tryz.prog Rows.stdlibTextsRow.laid w) false (World.laidAll Tryz.prog os Rows.stdlibTextsRow.laid) #[.string ⟨#[]⟩, .string ⟨#[]⟩, .int .i64 0] 8 (World.laidAll_os _ _ _)
      (World.shaped_of_ZipB (by kernel_rfl) (by kernel_rfl)) (by kernel_rfl) (by kernel_rfl) (by kernel_rfl)
      (by rw [MakeChecks.laidMetH_plain _ _ _ (by kernel_rfl)]; exact laidMet_laidAll _ (by kernel_rfl) (by kernel_rfl))) ?_
  intro W base args ds gs before hval0 hW hc hsz0 hL _
  have hsz : (DataW.weightsEach Tryz.prog (Tryz.f3.params.toList ++ Rows.stdlibTextsSpec.plain.varTypes Tryz.prog) (ds ++ gs)).all (· ≤ reachBytes) = true := hsz0
  have hval : ∀ (j : Nat) t v, Tryz.f3.params[j]? = some t → args[j]? = some v → Value.okWide Tryz.prog W .any base t v := hval0
  have hW' := hW
  obtain ⟨p, q, hA0, hV, rfl, _, _⟩ := hW
  have hA : DataW.TrodAll enc Tryz.prog W 0 (fun _ => true) true Tryz.f3.params.toList args.toList ds p := hA0
  rw [Tryz.params3] at hA hval hsz
  obtain ⟨v0, vs0, d0, ds0, p0, q0, hargs, rfl, rfl, h0, r0⟩ := trodAll_cons hA
  obtain ⟨v1, vs1, d1, ds1, p1, q1, rfl, rfl, rfl, h1, r1⟩ := trodAll_cons r0
  obtain ⟨v2, vs2, d2, ds2, p2, q2, rfl, rfl, rfl, h2, r2⟩ := trodAll_cons r1
  obtain ⟨rfl, rfl, rfl⟩ := trodAll_nil r2
  obtain rfl : args = #[v0, v1, v2] := by cases args; simp_all
  obtain ⟨rfl, rfl⟩ := trodVars_none hV
  have lt0 := all_ltH h0
  have lt1 := all_ltH h1
  have b0 := fun {W' : World} (bel : Below W.heap.size W W') => Below.trod laidOutH (by kernel_rfl) (of_decide_eq_true (by kernel_rfl)) h0 bel lt0
  have b1 := fun {W' : World} (bel : Below W.heap.size W W') => Below.trod laidOutH (by kernel_rfl) (of_decide_eq_true (by kernel_rfl)) h1 bel lt1
  obtain ⟨s, rfl, -⟩ := Go.ChangeMaps.open_string Tryz.underlying9 (hval 0 9 v0 rfl rfl) h0
  obtain ⟨t, rfl, -⟩ := Go.ChangeMaps.open_string Tryz.underlying9 (hval 1 9 v1 rfl rfl) h1
  obtain ⟨x1, rfl, rfl, rfl, w1⟩ := open_int Tryz.underlying3 (hval 2 3 v2 rfl rfl) h2
  have rx : -9223372036854775808 ≤ x1 ∧ x1 ≤ 9223372036854775807 := (show IntKind.i64.min ≤ x1 ∧ x1 ≤ IntKind.i64.max by simpa only [Lit.wf, Bool.and_eq_true, decide_eq_true_eq] using w1)
  clear hA0 hval0 hsz0 hsz
  refine (law_Texts s t x1 rx.1 rx.2 W).mono fun e W' ⟨he, bel0⟩ => ?_
  have bel : Below W.heap.size W W' := bel0
  subst he
  exact ⟨_, rfl, _, _, _, [], _, [], hW', trodAll_mk1 (shut_bool Tryz.underlying4 _), (trodAll_cons_mk (b0 bel) (trodAll_cons_mk (b1 bel) (trodAll_cons_mk (shut_int Tryz.underlying3 w1) trodAll_mk0))), rfl, bel.frame _, fun h => by cases h⟩
set_option maxRecDepth 100000 in
theorem joined : joinedFacts Tryz.pinned.checked.prog 3 Tryz.f3 Rows.stdlibTextsSpec Rows.stdlibTextsRow = true := by
  unfold joinedFacts
  exact (andT (andT (andT (andT (andT (andT (andT (andT (andT (andT (andT (andT (andT (andT (andT (andT (andT (andT (andT (andT (andT (andT (andT (andT (andT (andT (andT (andT (andT (andT (andT j0 j1) j2) j3) j4) j5) j6) j7) j8) j9) j10) j11) j12) j13) j14) j15) j16) j17) j18) j19) j20) j21) j22) j23) j24) j25) j26) j27) j28) j29) j30) j31)
theorem over : Rows.stdlibTextsRow.holds Tryz.pinned (OpenSpec.ofChange Rows.stdlibTextsSpec) :=
  OpenClaim.holds_of_wide 3 Tryz.f3 rfl rfl rfl rfl rfl rfl rfl ⟨rfl, rfl, rfl, rfl, rfl⟩ rfl rfl rfl rfl rfl named Tryz.func3 joined inst wrap
    (fun os started H enc _ => lifted os started H enc)
theorem card : Rows.StdlibTextsCardSaid :=
  Claim7.holds_tied_plain_at .later [] [.data, .data, .data, .data, .sentinel, .sentinel, .pinned, .pinned] true (true, "48e836ae7eb301d4ce59a17f6c55d2674c8aa08d03df5dab146653d69543344f") true over (fun _ h => by cases h) (by kernel_rfl) (fun _ h => by cases h) stdlibTexts_row_tie rfl ⟨rfl, rfl⟩ (by kernel_rfl) rfl
    (fun f fn hf hfn => by
      obtain rfl : f = 3 := Option.some.inj ((show Tryz.prog.funcNamed "relay/relaylaw09.StdlibTexts" = some 3 by kernel_rfl).symm.trans hf) |>.symm
      obtain rfl : fn = Tryz.f3 := (Option.some.inj (Tryz.func3.symm.trans hfn)).symm
      exact ⟨by kernel_rfl, fun j t ht => by
        rw [Tryz.params3] at ht
        have hm : t ∈ [9, 9, 3] := by simpa using Array.mem_of_getElem? ht
        have hall : ([9, 9, 3].all fun u => !Tryz.prog.wantsStandIn u) = true := by kernel_rfl
        exact (show Tryz.prog.wantsStandIn t = false by simpa using List.all_eq_true.1 hall t hm)⟩)
    (by kernel_rfl)
end Go.Proofs.YtflhndjpfiklaaaGreatDoor.stdlibTexts
namespace Go.Proofs.YtflhndjpfiklaaaGreatDoor
/-- The card, under a short name, for the claim. -/
theorem stdlibTexts_holds : Rows.StdlibTextsCardSaid := stdlibTexts.card
end Go.Proofs.YtflhndjpfiklaaaGreatDoor
