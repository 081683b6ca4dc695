/- What a row's conditions give a walk: the laid variables, and an argument that is a Value. Conditions: none beyond the row's own. -/
import Derived.Test.YthkeapopockbkaaDoorHWords
import Derived.ProofKit
import Derived.OpenShut
import Derived.ShutString
import Derived.LaidMore
import Derived.Lay
import Derived.Stop.LaidErr
import Derived.Lib.LaidTab
import Derived.Lib.SmallJoins
import Derived.Below
import Derived.Carry
namespace Go.Proofs.YthkeapopockbkaaDoor.H
set_option linter.unusedSimpArgs false
set_option linter.unusedVariables false
open Go.RowKit Go.ChangeShapes Go.WideShapes Go.ChangeAt Go.Proofs.YthkeapopockbkaaDoor.Plain
theorem ownH : ownKnob Tryd.prog.godebug = none := by kernel_rfl
theorem laidOutH : laidOutB Tryd.prog = true := by kernel_rfl
theorem gTab : Tryd.prog.globalNamed "internal/strconv.uint64pow10" = some 1 := by kernel_rfl
theorem gTabT : (Tryd.prog.globals[1]?).map (·.type) = some 84 := by kernel_rfl
theorem gTZ : Tryd.prog.globalNamed "math/bits.deBruijn64tab" = some 7 := by kernel_rfl
theorem gTZT : (Tryd.prog.globals[7]?).map (·.type) = some 104 := by kernel_rfl
theorem cStr : Tryd.prog.cellsOf 9 = 1 := by kernel_rfl
theorem cU64 : Tryd.prog.cellsOf 23 = 1 := by kernel_rfl
theorem cTab : Tryd.prog.cellsOf 84 = 20 := by kernel_rfl
theorem cVal : Tryd.prog.cellsOf 25 = 3 := by kernel_rfl
theorem cU8 : Tryd.prog.cellsOf 5 = 1 := by kernel_rfl
theorem cTZ : Tryd.prog.cellsOf 104 = 64 := by kernel_rfl
/-- The table of trailing zeros. -/
def tzTab : List Int := [0, 1, 56, 2, 57, 49, 28, 3, 61, 58, 42, 50, 38, 29, 17, 4, 62, 47, 59, 36, 45, 43, 51, 22, 53, 39, 33, 30, 24, 18, 12, 5, 63, 55, 48, 27, 60, 41, 37, 16, 46, 35, 44, 21, 52, 32, 23, 11, 54, 26, 40, 15, 34, 20, 31, 10, 25, 14, 19, 9, 13, 8, 7, 6]
theorem cell_of_var {P : Program} {w : World} {n : String} {cs : Array Value} {g : Nat} (h : w.var? P n = some cs) (hg : P.globalNamed n = some g) : g < w.heap.size ∧ ∀ i, w.cell? ⟨g, i, none⟩ = cs[i]? := by
  unfold World.var? at h
  rw [hg] at h
  simp only [Option.bind_some] at h
  cases hc : w.heap[g]? with
  | none => rw [hc] at h; simp at h
  | some o =>
    refine ⟨k_lt hc, fun i => ?_⟩
    rw [hc] at h
    cases o with
    | cells c t f =>
      simp only [Option.bind_some, Option.some.injEq] at h
      subst h
      unfold World.cell?
      simp [hc]
    | _ => simp at h
/-- The two that the walks read, out of a list that lays the tables of bits ahead. -/
theorem laid_of {a0 : String × DataW Unit} {r : List (String × DataW Unit)} {W : World}
    (h : laidMet Tryd.prog (a0 :: ("math/bits.deBruijn64tab", Lib.tabData .u8 tzTab) :: ("internal/strconv.uint64pow10", Lib.tabData .u64 Lib.pow10Tab) :: r) W) : Laid W := by
  have h1 := h.tail
  have h2 := h1.tail
  have z := Lib.tabIs_of_head gTZ gTZT Tryd.underlying104 Tryd.underlying5 cU8 cTZ h1
  obtain ⟨q1, q2⟩ := cell_of_var z gTZ
  exact ⟨Lib.tabIs_of_head gTab gTabT Tryd.underlying84 Tryd.underlying23 cU64 cTab h2, (q2 15).trans rfl, q1⟩
theorem weights_eachH {H : Type} {P : Program} {ts : List TypeId} {l : List (DataW H)} {i : Nat} {t : TypeId} {d : DataW H} (ht : ts[i]? = some t) (hi : l[i]? = some d) {n : Nat} (hn : n ∈ d.weights P t) : n ∈ DataW.weightsEach P ts l := by
  induction ts generalizing l i with
  | nil => simp at ht
  | cons a ts ih =>
    cases l with
    | nil => simp at hi
    | cons b l =>
      cases i with
      | zero =>
        have h1 : a = t := by simpa using ht
        have h2 : b = d := by simpa using hi
        subst h1 h2
        simp [DataW.weightsEach, hn]
      | succ i =>
        simp only [DataW.weightsEach, List.mem_append]
        exact .inr (ih (by simpa using ht) (by simpa using hi))
set_option maxRecDepth 100000 in
theorem open_value {H : Type} {enc : TypeId × Value → H} {W : World} {base : Nat} {ts : List TypeId} {ds : List (DataW H)} {j : Nat} {v : Value} {d : DataW H} {p : List MemPlace}
    (hsz : (DataW.weightsEach Tryd.prog ts ds).all (· ≤ reachBytes) = true) (ht : ts[j]? = some 25) (hd : ds[j]? = some d)
    (hval : Value.okWide Tryd.prog W .any base 25 v) (h : DataW.Trod enc Tryd.prog W 0 (fun _ => true) true 25 v d p) :
    ∃ kd b t, v = .agg #[.int .u8 kd, .int .u64 b, .string t] ∧ t.size ≤ 140737488351232 ∧ (0 ≤ kd ∧ kd ≤ 255) ∧ 0 ≤ b ∧ b < 18446744073709551616 := by
  obtain ⟨v0, v1, v2, y0, y1, y2, n, rfl, hd2, _, h0, h1, h2⟩ := Joins.open_agg3 Tryd.underlying25 (by kernel_rfl) cVal hval h
  obtain ⟨n0, e0, x0, w0⟩ := DataW.trod_int Tryd.underlying22 h0
  obtain ⟨n1, e1, x1, w1⟩ := DataW.trod_int Tryd.underlying23 h1
  obtain ⟨s, e2, x2, _⟩ := DataW.trod_string Tryd.underlying9 h2
  obtain rfl : v0 = .int .u8 n0 := by simpa using e0
  obtain rfl : v1 = .int .u64 n1 := by simpa using e1
  obtain rfl : v2 = .string s := by simpa using e2
  have hs : s.size ≤ 140737488351232 := by
    have hm : s.data.toList.length ∈ d.weights Tryd.prog 25 := by
      subst hd2
      rw [x2]
      simp [DataW.weights, DataW.weightsEach, Tryd.underlying25]
    have := List.all_eq_true.1 hsz _ (weights_eachH ht hd hm)
    rw [Array.length_toList] at this
    exact of_decide_eq_true this
  have r0 : 0 ≤ n0 ∧ n0 ≤ 255 := (show IntKind.u8.min ≤ n0 ∧ n0 ≤ IntKind.u8.max by simpa only [Lit.wf, Bool.and_eq_true, decide_eq_true_eq] using w0)
  have r1 : 0 ≤ n1 ∧ n1 ≤ 18446744073709551615 := (show IntKind.u64.min ≤ n1 ∧ n1 ≤ IntKind.u64.max by simpa only [Lit.wf, Bool.and_eq_true, decide_eq_true_eq] using w1)
  exact ⟨n0, n1, s, rfl, hs, r0, r1.1, by omega⟩
theorem all_ltH {H : Type} {enc : TypeId × Value → H} {P : Program} {w : World} {t : TypeId} {v : Value} {y : DataW H} {p : List MemPlace} (h : DataW.Trod enc P w 0 (fun _ => true) true t v y p) : ∀ x ∈ p, x.block < w.heap.size := by
  obtain ⟨m, hm⟩ := h
  exact DataW.trod_lt m _ _ _ hm
end Go.Proofs.YthkeapopockbkaaDoor.H
