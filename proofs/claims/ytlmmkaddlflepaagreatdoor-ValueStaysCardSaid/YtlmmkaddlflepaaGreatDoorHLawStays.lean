/- The statement ValueStays of the seat's rows and its tied card, proved out of the walk of the law. Conditions: the row's own (the listed variables read as laid). -/
import Derived.Test.YtlmmkaddlflepaaGreatDoorCards
import Derived.Test.YtlmmkaddlflepaaGreatDoorTie
import Derived.Test.YtlmmkaddlflepaaGreatDoorHStaysW
import Derived.Test.YtlmmkaddlflepaaGreatDoorHRow
import Derived.Stop.Joined
import Derived.SevenTiedAt
namespace Go.Proofs.YtlmmkaddlflepaaGreatDoor.valueStays
set_option linter.unusedSimpArgs false
set_option linter.unusedVariables false
open Go.RowKit Go.ChangeShapes Go.WideShapes Go.ChangeAt Go.Proofs.YtlmmkaddlflepaaGreatDoor.Plain Go.Proofs.YtlmmkaddlflepaaGreatDoor.H
set_option maxRecDepth 100000 in
theorem lifted (os : Os) (started : os.Started) (H : Type) (enc : TypeId × Value → H) :
    ReturnsInHanded {} Tryz.checked os 5 .any (fun w args => (Rows.valueStaysSpec.pre enc Tryz.prog Tryz.f5 Rows.valueStaysRow.domain false w args ∧ laidMetH Tryz.prog Rows.valueStaysRow.laid w) ∧ sizedMet enc Tryz.prog Tryz.f5 (OpenSpec.ofChange Rows.valueStaysSpec) false w args)
      (Rows.valueStaysSpec.post enc Tryz.prog Tryz.f5 false true false false) := by
  refine returnsInHanded_of_change_and (C := Tryz.checked) (X := fun w _ => laidMetH Tryz.prog Rows.valueStaysRow.laid w) (fun _ _ _ hh h => h.of_heap hh) ownH started (by kernel_rfl) Tryz.func5
    (ChangeSpec.witness_shaped (enc := enc) (C := Tryz.checked) (os := os) (X := fun w _ => laidMetH Tryz.prog Rows.valueStaysRow.laid w) false (World.laidAll Tryz.prog os Rows.valueStaysRow.laid) #[.int .i64 0, .int .u8 0, .agg #[.int .u8 0, .int .u64 0, .string ByteArray.empty], .agg #[.int .u8 0, .int .u64 0, .string ByteArray.empty]] 8 (World.laidAll_os _ _ _)
      (World.shaped_of_ZipB (by kernel_rfl) (by kernel_rfl)) (by kernel_rfl) (by kernel_rfl) (by kernel_rfl)
      (by rw [MakeChecks.laidMetH_plain _ _ _ (by kernel_rfl)]; exact laidMet_laidAll _ (by kernel_rfl) (by kernel_rfl))) ?_
  intro W base args ds gs before hval0 hW hc hsz0 hL _
  have hsz : (DataW.weightsEach Tryz.prog (Tryz.f5.params.toList ++ Rows.valueStaysSpec.plain.varTypes Tryz.prog) (ds ++ gs)).all (· ≤ reachBytes) = true := hsz0
  have hval : ∀ (j : Nat) t v, Tryz.f5.params[j]? = some t → args[j]? = some v → Value.okWide Tryz.prog W .any base t v := hval0
  rw [MakeChecks.laidMetH_plain _ _ _ (by kernel_rfl)] at hL
  have L : Laid W := laid_of hL
  have hW' := hW
  obtain ⟨p, q, hA0, hV, rfl, _, _⟩ := hW
  have hA : DataW.TrodAll enc Tryz.prog W 0 (fun _ => true) true Tryz.f5.params.toList args.toList ds p := hA0
  rw [Tryz.params5] at hA hval hsz
  obtain ⟨v0, vs0, d0, ds0, p0, q0, hargs, rfl, rfl, h0, r0⟩ := trodAll_cons hA
  obtain ⟨v1, vs1, d1, ds1, p1, q1, rfl, rfl, rfl, h1, r1⟩ := trodAll_cons r0
  obtain ⟨v2, vs2, d2, ds2, p2, q2, rfl, rfl, rfl, h2, r2⟩ := trodAll_cons r1
  obtain ⟨v3, vs3, d3, ds3, p3, q3, rfl, rfl, rfl, h3, r3⟩ := trodAll_cons r2
  obtain ⟨rfl, rfl, rfl⟩ := trodAll_nil r3
  obtain rfl : args = #[v0, v1, v2, v3] := by cases args; simp_all
  obtain ⟨rfl, rfl⟩ := trodVars_none hV
  have lt2 := all_ltH h2
  have lt3 := all_ltH h3
  have b2 := fun {W' : World} (bel : Below W.heap.size W W') => Below.trod laidOutH (by kernel_rfl) (of_decide_eq_true (by kernel_rfl)) h2 bel lt2
  have b3 := fun {W' : World} (bel : Below W.heap.size W W') => Below.trod laidOutH (by kernel_rfl) (of_decide_eq_true (by kernel_rfl)) h3 bel lt3
  obtain ⟨z, rfl, rfl, rfl, wz⟩ := open_int Tryz.underlying3 (hval 0 3 v0 rfl rfl) h0
  obtain ⟨x, rfl, rfl, rfl, wx⟩ := open_int Tryz.underlying22 (hval 1 22 v1 rfl rfl) h1
  obtain ⟨ka, ba, ta, rfl, hs, _, ha0, ha1⟩ := open_value hsz (j := 2) rfl rfl (hval 2 25 v2 rfl rfl) h2
  obtain ⟨kb, bb, tb, rfl, _, _, hb0, hb1⟩ := open_value hsz (j := 3) rfl rfl (hval 3 25 v3 rfl rfl) h3
  clear hA0 hval0 hsz0 hsz
  refine (law_Stays z x ka ba kb bb ta tb ⟨ha0, ha1⟩ ⟨hb0, hb1⟩ hs W L).mono fun e W' ⟨he, bel0⟩ => ?_
  have bel : Below W.heap.size W W' := bel0
  subst he
  exact ⟨_, rfl, _, _, _, [], _, [], hW', trodAll_mk1 (shut_bool Tryz.underlying4 _), (trodAll_cons_mk (shut_int Tryz.underlying3 wz) (trodAll_cons_mk (shut_int Tryz.underlying22 wx) (trodAll_cons_mk (b2 bel) (trodAll_cons_mk (b3 bel) trodAll_mk0)))), rfl, bel.frame _, fun h => by cases h⟩
theorem over : Rows.valueStaysRow.holds Tryz.pinned (OpenSpec.ofChange Rows.valueStaysSpec) :=
  OpenClaim.holds_of_wide 5 Tryz.f5 rfl rfl rfl rfl rfl rfl rfl ⟨rfl, rfl, rfl, rfl, rfl⟩ rfl rfl rfl rfl rfl (by kernel_rfl) Tryz.func5 (by kernel_rfl)
    (of_decide_eq_true (by kernel_rfl)) (by unfold Func.isWrapper; first | (rw [if_pos (by decide +kernel)]; kernel_rfl) | (rw [if_neg (by decide +kernel)]; exact ⟨rfl, rfl⟩))
    (fun os started H enc _ => lifted os started H enc)
theorem card : Rows.ValueStaysCardSaid :=
  Claim7.holds_tied_plain_at .later [] [.data, .data, .data, .data, .sentinel, .sentinel, .pinned, .pinned] true (true, "9efcfcbdb3fc3ca5f69ef3e6e2f4388971957adcdbf5f06ecbc6b67a7254ac7a") true over (fun _ h => by cases h) (by kernel_rfl) (fun _ h => by cases h) valueStays_row_tie rfl ⟨rfl, rfl⟩ (by kernel_rfl) rfl
    (fun f fn hf hfn => by
      obtain rfl : f = 5 := Option.some.inj ((show Tryz.prog.funcNamed "relay/relaylaw01.ValueStays" = some 5 by kernel_rfl).symm.trans hf) |>.symm
      obtain rfl : fn = Tryz.f5 := (Option.some.inj (Tryz.func5.symm.trans hfn)).symm
      exact ⟨by kernel_rfl, fun j t ht => by
        rw [Tryz.params5] at ht
        have hm : t ∈ [3, 22, 25, 25] := by simpa using Array.mem_of_getElem? ht
        have hall : ([3, 22, 25, 25].all fun u => !Tryz.prog.wantsStandIn u) = true := by kernel_rfl
        exact (show Tryz.prog.wantsStandIn t = false by simpa using List.all_eq_true.1 hall t hm)⟩)
    (by kernel_rfl)
end Go.Proofs.YtlmmkaddlflepaaGreatDoor.valueStays
namespace Go.Proofs.YtlmmkaddlflepaaGreatDoor
/-- The card, under a short name, for the claim. -/
theorem valueStays_holds : Rows.ValueStaysCardSaid := valueStays.card
end Go.Proofs.YtlmmkaddlflepaaGreatDoor
