/- A result that may be, if it is without a fault: the notion, and its plain laws. No program in sight. Condition: bits are 64. -/
import Derived.Test.YtlmmkaddlflepaaGreatDoorHConv
namespace Go.Proofs.YtlmmkaddlflepaaGreatDoor.H
set_option linter.unusedSimpArgs false
set_option linter.unusedVariables false
open Go.RowKit Go.Proofs.YtlmmkaddlflepaaGreatDoor.Plain
/-- Without a fault it is a value that may be. -/
def StayV (r : Int × Int × ByteArray × Int) : Prop := r.2.2.2 = 0 → mayB r.1 r.2.1 r.2.2.1 = true ∧ 0 ≤ r.2.1 ∧ r.2.1 < 18446744073709551616
/-- And of that kind. -/
def StayK (k : Int) (r : Int × Int × ByteArray × Int) : Prop := StayV r ∧ (r.2.2.2 = 0 → r.1 = k)
theorem stay_bad (k b : Int) (t : ByteArray) (f : Int) (h : f ≠ 0) : StayV (k, b, t, f) := fun e => absurd e h
theorem stayK_bad (k k2 b : Int) (t : ByteArray) (f : Int) (h : f ≠ 0) : StayK k (k2, b, t, f) := ⟨stay_bad _ _ _ _ h, fun e => absurd e h⟩
theorem fits_kind {k b : Int} (h : fitsB k b = true) : k ≠ 18 ∧ k ≠ 19 := by
  unfold fitsB at h
  have := of_decide_eq_true h
  omega
theorem may_of_fits {k b : Int} (h : fitsB k b = true) : mayB k b ⟨#[]⟩ = true := by obtain ⟨a, c⟩ := fits_kind h; exact may_mk a c h
theorem stayK_fits {k b : Int} (f : Int) (h0 : 0 ≤ b) (h1 : b < 18446744073709551616) (h : fitsB k b = true) : StayK k (k, b, ⟨#[]⟩, f) := ⟨fun _ => ⟨may_of_fits h, h0, h1⟩, fun _ => rfl⟩
theorem of_stayK (m : Bool) (s k f : Int) (h0 : 0 ≤ s) (h1 : s < 18446744073709551616) (hf : f ≠ 0) : StayK k (ofV m s k f) := by
  unfold ofV
  split
  · split
    · rename_i c; exact stayK_fits _ (by omega) (by omega) c.2.2
    · exact stayK_bad _ _ _ _ _ hf
  · split
    · rename_i c; exact stayK_fits _ h0 h1 c.2
    · exact stayK_bad _ _ _ _ _ hf
theorem of_stay (m : Bool) (s k f : Int) (h0 : 0 ≤ s) (h1 : s < 18446744073709551616) (hf : f ≠ 0) : StayV (ofV m s k f) := (of_stayK m s k f h0 h1 hf).1
theorem may_lreal (n : Int) : mayB (lrealV n).1 (lrealV n).2.1 ⟨#[]⟩ = true := by
  show mayB 18 (if nanB n = true then 9221120237041090561 else n) ⟨#[]⟩ = true
  unfold mayB
  rw [if_neg (by decide), if_pos empty_toList, if_pos rfl]
  by_cases c : nanB n = true
  · simp [c]
  · simp [c]
theorem lreal_stayK (n : Int) (f : Int) (h0 : 0 ≤ n) (h1 : n < 18446744073709551616) : StayK 18 ((lrealV n).1, (lrealV n).2.1, ⟨#[]⟩, f) := by
  refine ⟨fun _ => ⟨may_lreal n, ?_⟩, fun _ => rfl⟩
  unfold lrealV
  by_cases c : nanB n = true
  · simp [c]
  · simp only [c]; exact ⟨h0, h1⟩
theorem may_bool (n : Bool) : mayB (boolV n).1 (boolV n).2.1 (boolV n).2.2 = true ∧ 0 ≤ (boolV n).2.1 ∧ (boolV n).2.1 < 18446744073709551616 := by cases n <;> exact ⟨by decide +kernel, by decide, by decide⟩
theorem bool_stay (n : Bool) (f : Int) : StayV ((boolV n).1, (boolV n).2.1, (boolV n).2.2, f) := fun _ => may_bool n
theorem k_dr {w : World} {g : Nat} {o : Obj} (h : w.heap[g]? = some o) : w.drew.heap[g]? = some o := h
theorem k_sn {w : World} {g : Nat} {o : Obj} (h : w.heap[g]? = some o) {g' i : Nat} (hg : g' ≠ g) (v : Value) : (w.setCell ⟨g', i, none⟩ v).heap[g]? = some o := by
  simp [World.setCell, Array.getElem?_modify, hg, h]
end Go.Proofs.YtlmmkaddlflepaaGreatDoor.H
