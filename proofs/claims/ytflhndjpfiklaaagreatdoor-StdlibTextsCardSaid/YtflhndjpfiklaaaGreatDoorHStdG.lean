/- Contracts of the closures that say what a function takes and gives. Condition: the blocks that they hold. -/
import Derived.Test.YtflhndjpfiklaaaGreatDoorHStdE
namespace Go.Proofs.YtflhndjpfiklaaaGreatDoor.H
set_option linter.unusedVariables false
set_option linter.unusedSimpArgs false
open Go.RowKit Go.Proofs.YtflhndjpfiklaaaGreatDoor.Plain
set_option maxHeartbeats 3200000
set_option maxRecDepth 100000
attribute [local go_sem] ext_from ext_bits cell_isSome un_neg_float
theorem c_fixed1 (a b n c : Nat) (m : Int) (w : World) (h : w.heap[a]? = some (.cells #[.slice (some ⟨b, 0, none⟩) n c] 53 (0, 0))) : Calls Tryz.prog 85 #[.int .i64 m, .pointer (some ⟨a, 0, none⟩)] w fun e w' => e = .returned (if m = n then .slice (some ⟨b, 0, none⟩) n c else .slice none 0 0) ∧ w' = w := by
  have q0 := k_cv h 0 rfl
  simp only [List.getElem_toArray, List.getElem_cons_succ, List.getElem_cons_zero] at q0
  go_enter Tryz.func85, Tryz.ntmps85
  go_wp2
  all_goals go_ret
  all_goals simp_all
def isRow (k : Int) : Bool := decide (10 ≤ k) && decide (k ≤ 13)
def isWhole (k : Int) : Bool := decide (2 ≤ k) && decide (k ≤ 9)
theorem c_row (k : Int) (w : World) : Calls Tryz.prog 54 #[.int .u8 k] w fun e w' => e = .returned (.bool (isRow k)) ∧ w' = w := by
  unfold isRow
  go_enter Tryz.func54, Tryz.ntmps54
  go_wp2
  all_goals go_ret
  all_goals simp_all
  all_goals (intros; omega)
theorem c_whole (k : Int) (w : World) : Calls Tryz.prog 52 #[.int .u8 k] w fun e w' => e = .returned (.bool (isWhole k)) ∧ w' = w := by
  unfold isWhole
  go_enter Tryz.func52, Tryz.ntmps52
  go_wp2
  all_goals go_ret
  all_goals simp_all
  all_goals (intros; omega)
/-- What a function of a row and a whole number gives. -/
def rowOut (m : Nat) (k0 k1 : Int) : Value := if m = 2 ∧ isRow k0 ∧ isWhole k1 then .tuple #[.int .u8 k0, .bool true] else .tuple #[.int .u8 0, .bool false]
theorem c_kindsRow (o i r c cl m : Nat) (A : Option Addr) (l : Nat) (k0 k1 : Int) (w : World) (ho : w.heap[o]? = some (.cells #[.int .u8 0] 22 (0, 0))) (hi : w.heap[i]? = some (.cells #[.slice (some ⟨r, 0, none⟩) 2 c] 91 (0, 0)))
    (hr : w.heap[r]? = some (.cells #[.func (.func 54) #[] #[], .func (.func 52) #[] #[]] 34 (0, 0))) (hm : m = 2 → A = some ⟨l, 0, none⟩ ∧ w.cell? ⟨l, 0, none⟩ = some (.int .u8 k0) ∧ w.cell? ⟨l, 1, none⟩ = some (.int .u8 k1)) :
    Calls Tryz.prog 91 #[.slice A m cl, .pointer (some ⟨i, 0, none⟩), .pointer (some ⟨o, 0, none⟩)] w fun e w' => e = .returned (rowOut m k0 k1) ∧ w' = w := by
  have q0 := k_cv ho 0 rfl
  have q1 := k_cv hi 0 rfl
  have q2 := k_cv hr 0 rfl
  have q3 := k_cv hr 1 rfl
  simp only [List.getElem_toArray, List.getElem_cons_succ, List.getElem_cons_zero] at q0 q1 q2 q3
  by_cases h2 : m = 2
  · obtain ⟨rfl, p0, p1⟩ := hm h2
    subst h2
    clear hm ho hi hr
    go_enter Tryz.func91, Tryz.ntmps91
    go_wp2
    refine wp_loop_rounds 3 ?_
    repeat any_goals (rw [rounds_succ]; go_wp2_with (first | (go_at_call 54; with_reducible refine (c_row _ _).mono ?_; rintro e w' ⟨rfl, rfl⟩) | (go_at_call 52; with_reducible refine (c_whole _ _).mono ?_; rintro e w' ⟨rfl, rfl⟩)))
    all_goals (go_returns; simp_all [rowOut])
  · clear hm ho hi hr
    go_enter Tryz.func91, Tryz.ntmps91
    go_wp2
    all_goals (go_returns; simp_all [rowOut])
end Go.Proofs.YtflhndjpfiklaaaGreatDoor.H
