-- by mkprint.py, a program of this session's own
/- The statement ValueOrder of the seat's rows, proved out of its pure statement (its own text) and the walks: for every input, no condition. -/
import Derived.Test.YtlmmkaddlflepaaRows
import Derived.Test.YtlmmkaddlflepaaPOrdSValueOrder
import Derived.Test.YtlmmkaddlflepaaPureValueOrder
import Derived.WalkKit
import Derived.ProofKit
import Derived.OpenShut
import Derived.ShutString
import Derived.ChangeOld
import Derived.Below
import Derived.SizedLaws
import Derived.Carry
import Derived.Laws.Cover2
namespace Go.Proofs.Ytlmmkaddlflepaa.valueOrder
open Go.ChangeShapes Go.WideShapes Go.ChangeAt Go.RowKit Go.Proofs.Ytlmmkaddlflepaa.POrd Go.Proofs.YtlmmkaddlflepaaW.PrintWords
open Go.ChangeMaps (open_string shut_string)
set_option linter.unusedVariables false
set_option linter.unusedSimpArgs false
theorem own : ownKnob Try.prog.godebug = none := by kernel_rfl
theorem laidOut : laidOutB Try.prog = true := by kernel_rfl
set_option maxRecDepth 100000 in
theorem lifted (os : Os) (started : os.Started) (H : Type) (enc : TypeId × Value → H) :
    ReturnsInHanded {} Try.checked os 8 .any (Rows.valueOrderSpec.pre6 enc Try.prog Try.f8 Rows.valueOrderRow.domain false) (Rows.valueOrderSpec.post enc Try.prog Try.f8 false true false false) := by
  refine returnsInHanded_of_change_sized (C := Try.checked) own started (by kernel_rfl) Try.func8
    (ChangeSpec.witness6 (enc := enc) (C := Try.checked) false ⟨#[], #[.agg #[.int .u8 0, .int .u64 0, .string ByteArray.empty], .agg #[.int .u8 0, .int .u64 0, .string ByteArray.empty]], []⟩ 8 (by kernel_rfl) (by kernel_rfl) (by kernel_rfl) (by kernel_rfl)) ?_
  intro W base args ds gs before hval0 hW hcnd hsz0 _
  have hsz : (DataW.weightsEach Try.prog (Try.f8.params.toList ++ Rows.valueOrderSpec.plain.varTypes Try.prog) (ds ++ gs)).all (· ≤ reachBytes) = true := hsz0
  have hval : ∀ (j : Nat) t v, Try.f8.params[j]? = some t → args[j]? = some v → Value.okWide Try.prog W .any base t v := hval0
  have hW' := hW
  obtain ⟨p, q, hA0, hV, rfl, hfz, hnd⟩ := hW
  have hA : DataW.TrodAll enc Try.prog W 0 (fun _ => true) true Try.f8.params.toList args.toList ds p := hA0
  rw [Try.params8] at hA hval hsz
  obtain ⟨v0, vs0, d0, ds0, p0, q0, hargs, rfl, rfl, h0, r0⟩ := trodAll_cons hA
  obtain ⟨v1, vs1, d1, ds1, p1, q1, rfl, rfl, rfl, h1, r1⟩ := trodAll_cons r0
  obtain ⟨rfl, rfl, rfl⟩ := trodAll_nil r1
  obtain rfl : args = #[v0, v1] := by cases args; simp_all
  obtain ⟨rfl, rfl⟩ := trodVars_none hV
  have lt0 := Open.all_lt h0
  have b0 := fun {W' : World} (bel : Below W.heap.size W W') => Below.trod laidOut (by kernel_rfl) (of_decide_eq_true (by kernel_rfl)) h0 bel lt0
  obtain ⟨x0, K0, o0⟩ := Open.opens_val opensS27 h0 (Open.weights_of hsz (j := 0) rfl rfl)
  have e0 := k27_open K0
  obtain rfl := Open.agg_of Try.underlying27 (hval 0 27 v0 rfl rfl) e0
  have lt1 := Open.all_lt h1
  have b1 := fun {W' : World} (bel : Below W.heap.size W W') => Below.trod laidOut (by kernel_rfl) (of_decide_eq_true (by kernel_rfl)) h1 bel lt1
  obtain ⟨x1, K1, o1⟩ := Open.opens_val opensS27 h1 (Open.weights_of hsz (j := 1) rfl rfl)
  have e1 := k27_open K1
  obtain rfl := Open.agg_of Try.underlying27 (hval 1 27 v1 rfl rfl) e1
  clear hA0 hval0 hsz0 hsz
  obtain ⟨k, hp⟩ := Pure.ValueOrder x0.f0 x0.f1 x0.f2 x1.f0 x1.f1 x1.f2 o0.1 o0.2.1 o0.2.2 o1.1 o1.2.1 o1.2.2
  refine (relaylaw01_ValueOrder.calls k x0.f0 x0.f1 x0.f2 x1.f0 x1.f1 x1.f2 true W hp).mono fun e W' ⟨he, bel0⟩ => ?_
  have bel : Below W.heap.size W W' := bel0
  subst he
  exact ⟨_, rfl, _, _, _, [], _, [], hW', trodAll_mk1 (shut_bool Try.underlying4 _), (trodAll_cons_mk (b0 bel) (trodAll_cons_mk (b1 bel) trodAll_mk0)), rfl, bel.frame _, fun h => by cases h⟩
theorem over : Rows.valueOrderRow.holds Try.pinned (OpenSpec.ofChange Rows.valueOrderSpec) :=
  OpenClaim.holds_of_wide 8 Try.f8 rfl rfl rfl rfl rfl rfl rfl ⟨rfl, rfl, rfl, rfl, rfl⟩ rfl rfl rfl rfl rfl (by kernel_rfl) Try.func8 (by kernel_rfl)
    (of_decide_eq_true (by kernel_rfl)) (by unfold Func.isWrapper; first | (rw [if_pos (by decide +kernel)]; kernel_rfl) | (rw [if_neg (by decide +kernel)]; exact ⟨rfl, rfl⟩))
    (fun os started H enc _ => lifted os started H enc)
theorem proved : Rows.ValueOrderSaid := over
end Go.Proofs.Ytlmmkaddlflepaa.valueOrder
namespace Go.Proofs.Ytlmmkaddlflepaa
/-- The row, under a short name, for the claim. -/
theorem valueOrder_holds : Rows.ValueOrderSaid := valueOrder.proved
end Go.Proofs.Ytlmmkaddlflepaa
