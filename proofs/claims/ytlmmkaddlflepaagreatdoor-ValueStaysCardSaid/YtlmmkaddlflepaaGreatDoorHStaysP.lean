/- What a conversion answers without a fault may be, and is of the kind: the plain part. No program in sight. Condition: bits are 64. -/
import Derived.Test.YtlmmkaddlflepaaGreatDoorHConvV
import Derived.Test.YtlmmkaddlflepaaGreatDoorHStay
namespace Go.Proofs.YtlmmkaddlflepaaGreatDoor.H
set_option linter.unusedSimpArgs false
set_option linter.unusedVariables false
open Go.RowKit Go.Proofs.YtlmmkaddlflepaaGreatDoor.Plain
theorem ite_stayK {k : Int} {c : Prop} [Decidable c] {x y : Int × Int × ByteArray × Int} (hx : StayK k x) (hy : StayK k y) : StayK k (if c then x else y) := by split <;> assumption
theorem conv_stay (k kd b : Int) (t : ByteArray) (h0 : 0 ≤ b) (h1 : b < 18446744073709551616) : StayK k (convV k kd b t) := by
  unfold convV
  split
  · exact stayK_bad _ _ _ _ _ (by decide)
  rename_i c0
  have hm : mayB kd b t = true := by
    cases h : mayB kd b t
    · exact absurd (.inl h) c0
    · rfl
  split
  · rename_i c; subst c; exact ⟨fun _ => ⟨hm, h0, h1⟩, fun _ => rfl⟩
  rename_i cne
  split
  · -- a float
    unfold relV
    split
    · rename_i c; subst c
      split
      · exact stayK_bad _ _ _ _ _ (by decide)
      · split
        · exact stayK_fits 0 (by decide) (by decide) (by decide)
        · exact stayK_fits 0 (by decide) (by decide) (by decide)
    · split
      · unfold relN
        split
        · exact stayK_bad _ _ _ _ _ (by decide)
        · rename_i c; exact of_stayK _ _ _ _ (by omega) (by omega) (by decide)
      · exact stayK_bad _ _ _ _ _ (by decide)
  split
  · split
    · rename_i c; subst c
      unfold txtB
      split
      · exact stayK_fits 0 (by decide) (by decide) (by decide)
      · split
        · exact stayK_fits 0 (by decide) (by decide) (by decide)
        · exact stayK_bad _ _ _ _ _ (by decide)
    · split
      · exact ite_stayK (stayK_bad _ _ _ _ _ (by decide)) (of_stayK _ _ _ _ (dig_rng _).1 (dig_rng _).2 (by decide))
      · exact stayK_bad _ _ _ _ _ (by decide)
  rename_i c18 c19
  have hf := (may_fits hm c18 c19).1
  split
  · unfold timV
    split
    · rename_i c; subst c; exact stayK_fits 0 h0 h1 (by unfold fitsB; simp)
    · split
      · rename_i c; obtain ⟨rfl, rfl⟩ := c
        unfold fitsB at hf
        have := of_decide_eq_true hf
        exact stayK_fits 0 (by omega) (by omega) (by unfold fitsB; simp; omega)
      · split
        · rename_i c; obtain ⟨rfl, rfl⟩ := c
          exact stayK_fits 0 (by omega) (by omega) (by unfold fitsB; simp; omega)
        · exact stayK_bad _ _ _ _ _ (by decide)
  · unfold whoV
    have hn := nm_rng kd b h0 h1
    split
    · rename_i c; subst c
      split
      · exact stayK_fits 0 (by decide) (by decide) (by decide)
      · exact stayK_fits 0 (by decide) (by decide) (by decide)
    · split
      · rename_i c; subst c; exact lreal_stayK _ 0 (by omega) (by have := fo_lt (if sgB kd = true then wrap64 b else b); omega)
      · split
        · exact of_stayK _ _ _ _ hn.1 hn.2 (by decide)
        · split
          · rename_i c; obtain ⟨rfl, _⟩ := c
            unfold textV
            split
            · rename_i c2
              exact ⟨fun _ => ⟨by unfold mayB; simp; omega, Int.le_refl 0, show (0 : Int) < 18446744073709551616 by decide⟩, fun _ => rfl⟩
            · exact stayK_bad _ _ _ _ _ (by decide)
          · split
            · exact of_stayK _ _ _ _ hn.1 hn.2 (by decide)
            · exact stayK_bad _ _ _ _ _ (by decide)
end Go.Proofs.YtlmmkaddlflepaaGreatDoor.H
