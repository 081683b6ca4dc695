/- Arguments of a row opened: a Value, a whole number, a text. Conditions: none beyond the row's own. -/
import Derived.Test.YtflhndjpfiklaaaGreatDoorHPlain
import Derived.Deep.Strs
import Derived.SizedLaws
import Derived.ProofKit
import Derived.OpenShut
import Derived.ShutString
import Derived.LaidMore
import Derived.Lay
import Derived.LaidHandle
import Derived.MakeChecks
import Derived.Lib.SmallJoins
import Derived.Below
import Derived.Carry
import Derived.Stop.Joined
import Derived.SevenTiedAt
import Derived.Test.YtflhndjpfiklaaaGreatDoorRows
namespace Go.Proofs.YtflhndjpfiklaaaGreatDoor.H
set_option linter.unusedSimpArgs false
set_option linter.unusedVariables false
open Go.RowKit Go.ChangeShapes Go.WideShapes Go.ChangeAt Go.Proofs.YtflhndjpfiklaaaGreatDoor.Plain
theorem ownH : ownKnob Tryz.prog.godebug = none := by kernel_rfl
theorem laidOutH : laidOutB Tryz.prog = true := by kernel_rfl
theorem cVal : Tryz.prog.cellsOf 25 = 3 := by kernel_rfl
theorem andT {a b : Bool} (ha : a = true) (hb : b = true) : (a && b) = true := by rw [ha, hb]; rfl
theorem weights_eachH {H : Type} {P : Program} {ts : List TypeId} {l : List (DataW H)} {i : Nat} {t : TypeId} {d : DataW H} (ht : ts[i]? = some t) (hi : l[i]? = some d) {n : Nat} (hn : n ∈ d.weights P t) : n ∈ DataW.weightsEach P ts l := by
  induction ts generalizing l i with
  | nil => simp at ht
  | cons a ts ih =>
    cases l with
    | nil => simp at hi
    | cons b l =>
      cases i with
      | zero =>
        have h1 : a = t := by simpa using ht
        have h2 : b = d := by simpa using hi
        subst h1 h2
        simp [DataW.weightsEach, hn]
      | succ i =>
        simp only [DataW.weightsEach, List.mem_append]
        exact .inr (ih (by simpa using ht) (by simpa using hi))
set_option maxRecDepth 100000 in
theorem open_value {H : Type} {enc : TypeId × Value → H} {W : World} {base : Nat} {ts : List TypeId} {ds : List (DataW H)} {j : Nat} {v : Value} {d : DataW H} {p : List MemPlace}
    (hsz : (DataW.weightsEach Tryz.prog ts ds).all (· ≤ reachBytes) = true) (ht : ts[j]? = some 25) (hd : ds[j]? = some d)
    (hval : Value.okWide Tryz.prog W .any base 25 v) (h : DataW.Trod enc Tryz.prog W 0 (fun _ => true) true 25 v d p) :
    ∃ kd b t, v = .agg #[.int .u8 kd, .int .u64 b, .string t] ∧ t.size ≤ 140737488351232 ∧ (0 ≤ kd ∧ kd ≤ 255) ∧ 0 ≤ b ∧ b < 18446744073709551616 := by
  obtain ⟨v0, v1, v2, y0, y1, y2, n, rfl, hd2, _, h0, h1, h2⟩ := Joins.open_agg3 Tryz.underlying25 (by kernel_rfl) cVal hval h
  obtain ⟨n0, e0, x0, w0⟩ := DataW.trod_int Tryz.underlying22 h0
  obtain ⟨n1, e1, x1, w1⟩ := DataW.trod_int Tryz.underlying23 h1
  obtain ⟨s, e2, x2, _⟩ := DataW.trod_string Tryz.underlying9 h2
  obtain rfl : v0 = .int .u8 n0 := by simpa using e0
  obtain rfl : v1 = .int .u64 n1 := by simpa using e1
  obtain rfl : v2 = .string s := by simpa using e2
  have hs : s.size ≤ 140737488351232 := by
    have hm : s.data.toList.length ∈ d.weights Tryz.prog 25 := by
      subst hd2
      rw [x2]
      simp [DataW.weights, DataW.weightsEach, Tryz.underlying25]
    have := List.all_eq_true.1 hsz _ (weights_eachH ht hd hm)
    rw [Array.length_toList] at this
    exact of_decide_eq_true this
  have r0 : 0 ≤ n0 ∧ n0 ≤ 255 := (show IntKind.u8.min ≤ n0 ∧ n0 ≤ IntKind.u8.max by simpa only [Lit.wf, Bool.and_eq_true, decide_eq_true_eq] using w0)
  have r1 : 0 ≤ n1 ∧ n1 ≤ 18446744073709551615 := (show IntKind.u64.min ≤ n1 ∧ n1 ≤ IntKind.u64.max by simpa only [Lit.wf, Bool.and_eq_true, decide_eq_true_eq] using w1)
  exact ⟨n0, n1, s, rfl, hs, r0, r1.1, by omega⟩
theorem all_ltH {H : Type} {enc : TypeId × Value → H} {P : Program} {w : World} {t : TypeId} {v : Value} {y : DataW H} {p : List MemPlace} (h : DataW.Trod enc P w 0 (fun _ => true) true t v y p) : ∀ x ∈ p, x.block < w.heap.size := by
  obtain ⟨m, hm⟩ := h
  exact DataW.trod_lt m _ _ _ hm
end Go.Proofs.YtflhndjpfiklaaaGreatDoor.H
