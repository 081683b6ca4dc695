/- The standard functions' table and the one over texts joined. Condition: none. -/
import Derived.Test.YtflhndjpfiklaaaGreatDoorHStdY
namespace Go.Proofs.YtflhndjpfiklaaaGreatDoor.H
set_option linter.unusedVariables false
set_option linter.unusedSimpArgs false
open Go.RowKit Go.Proofs.YtflhndjpfiklaaaGreatDoor.Plain
set_option maxHeartbeats 3200000
set_option maxRecDepth 100000
/-- The entry of a function that turns a row round. -/
def RSpec (w : World) (xs : List Value) (i : Nat) (up : Bool) : Prop := ∃ p g d, xs[i * 4 + 1]? = some p ∧ xs[i * 4 + 2]? = some g ∧ xs[i * 4 + 3]? = some d ∧ FixedAt w p 2 ∧ KindsOf w g 0 [.func 54, .func 52] ∧ RotAt w d up
theorem RSpec.kp {L : Nat} {w w' : World} {xs ys : List Value} {i : Nat} {up : Bool} (h : RSpec w xs i up) (hx : ∀ (i : Nat) (v : Value), xs[i]? = some v → ys[i]? = some v) (hk : Kp L w w') (hL : ∃ s, w.heap[L]? = some (.cells #[s] 46 (0, 0))) : RSpec w' ys i up :=
  let ⟨p, g, d, h1, h2, h3, h4, h5, h6⟩ := h
  ⟨p, g, d, hx _ _ h1, hx _ _ h2, hx _ _ h3, h4.kp hk hL, h5.kp hk hL, h6.kp hk hL⟩
theorem RSpec.go {w w' : World} {B L k : Nat} {xs : List Value} {i : Nat} {up : Bool} (h : RSpec w xs i up) (ht : Tab w B L k xs) (hb : Below w.heap.size w w') : RSpec w' xs i up := h.kp (fun _ _ h => h) (Kp.of_below hb) ht.var
theorem kp_grown {w w1 : World} {B L k : Nat} {xs : List Value} {v : Value} (hown : w.ownsRow B 52 4 v k xs) (hg : w.grownBy w1 v.ownBlock) : Kp L w w1 := by
  refine ⟨hg.size, fun g o ho _ ht => (hg.block g (k_lt ho) (fun e => ?_)).trans ho⟩
  rcases hown.2 with ⟨rfl, _⟩ | ⟨g2, cap, cur, rfl, _, e3, _⟩
  · cases e
  · have : g = g2 := Option.some.inj e
    subst this
    rw [e3] at ho
    exact ht cur (0, 0) (Option.some.inj ho).symm
theorem news_own {w : World} {B g n c : Nat} {T : TypeId} {xs : List Value} (h : w.ownsRow B T 4 (.slice (some ⟨g, 0, none⟩) n c) n xs) : ∀ j u, xs[j]? = some u → w.cell? ((⟨g, 0, none⟩ : Addr).add j) = some u := by
  intro j u hu
  rcases h.2 with ⟨e, _⟩ | ⟨g2, cap, cur, e, _, hg, _, _, _, ht⟩
  · cases e
  · cases e
    refine World.news_of_block hg j u ?_
    rw [← ht, List.getElem?_take] at hu
    split at hu
    · exact hu
    · cases hu
theorem TSpec.fns {w : World} {j : Nat} {p g d : Value} (h : TSpec w j p g d) : FnV p ∧ FnV g ∧ FnV d := by
  have A : ∀ {n : Nat} {k : Int} {l : List Fn} {f : Fn}, FixedAt w p n ∧ KindsOf w g k l ∧ d = .func f #[] #[] → FnV p ∧ FnV g ∧ FnV d := by
    rintro n k l f ⟨⟨a, b, c, rfl, _⟩, ⟨o, i, r, c', rfl, _⟩, rfl⟩
    exact ⟨fnv _ _ _, fnv _ _ _, fnv _ _ _⟩
  unfold TSpec at h
  split at h
  all_goals first | exact A h | (obtain ⟨rfl, rfl, rfl⟩ := h; exact ⟨fnv _ _ _, fnv _ _ _, fnv _ _ _⟩) | exact h.elim
theorem NamedT.one {w : World} {xs : List Value} {k : Nat} (h : NamedT w xs k) : ∀ u ∈ xs, u.oneCell' = true := by
  intro u hu
  obtain ⟨i, hi, rfl⟩ := List.mem_iff_getElem.1 hu
  have hl := h.1
  obtain ⟨h1, p, g, d, h2, h3, h4, h5⟩ := h.2 (i / 4) (by omega)
  obtain ⟨⟨a, b, c, rfl⟩, ⟨a', b', c', rfl⟩, ⟨a2, b2, c2, rfl⟩⟩ := h5.fns
  have hg : xs[i]? = some xs[i] := List.getElem?_eq_getElem hi
  have hm : i % 4 = 0 ∨ i % 4 = 1 ∨ i % 4 = 2 ∨ i % 4 = 3 := by omega
  rcases hm with hm | hm | hm | hm
  · rw [show i / 4 * 4 = i by omega, hg] at h1; rw [Option.some.inj h1]; rfl
  · rw [show i / 4 * 4 + 1 = i by omega, hg] at h2; rw [Option.some.inj h2]; rfl
  · rw [show i / 4 * 4 + 2 = i by omega, hg] at h3; rw [Option.some.inj h3]; rfl
  · rw [show i / 4 * 4 + 3 = i by omega, hg] at h4; rw [Option.some.inj h4]; rfl
/-- The whole table. -/
structure Table (w : World) (B : Nat) (v : Value) (xs : List Value) : Prop where
  owns : w.ownsRow B 52 4 v 37 xs
  named : Named xs 37
  rol : RSpec w xs 25 true
  ror : RSpec w xs 26 false
  texts : ∀ j, j < 10 → ∃ p g d, xs[(27 + j) * 4 + 1]? = some p ∧ xs[(27 + j) * 4 + 2]? = some g ∧ xs[(27 + j) * 4 + 3]? = some d ∧ TSpec w j p g d
theorem named_join {w : World} {xs ys : List Value} (h : Named xs 27) (k : NamedT w ys 10) : Named (xs ++ ys) 37 := by
  obtain ⟨h1, h2⟩ := h
  obtain ⟨k1, k2⟩ := k
  refine ⟨by simp [h1, k1], fun j hj => ?_⟩
  rcases Nat.lt_or_ge j 27 with c | c
  · obtain ⟨a, b⟩ := h2 j c
    refine ⟨by rw [List.getElem?_append_left (by omega)]; exact a, fun m m1 m2 => ?_⟩
    rw [List.getElem?_append_left (by omega)]
    exact b m m1 m2
  · obtain ⟨a, p, g, d, b1, b2, b3, b4⟩ := k2 (j - 27) (by omega)
    obtain ⟨f1, f2, f3⟩ := b4.fns
    refine ⟨by rw [List.getElem?_append_right (by omega), show j * 4 - xs.length = (j - 27) * 4 by omega, a, show 27 + (j - 27) = j by omega], fun m m1 m2 => ?_⟩
    rw [List.getElem?_append_right (by omega), show j * 4 + m - xs.length = (j - 27) * 4 + m by omega]
    match m, m1, m2 with
    | 1, _, _ => exact ⟨p, b1, .inl f1⟩
    | 2, _, _ => exact ⟨g, b2, .inl f2⟩
    | 3, _, _ => exact ⟨d, b3, .inl f3⟩
theorem table_join {w : World} {B : Nat} {v : Value} {xs ys : List Value} (ho : w.ownsRow B 52 4 v 37 (xs ++ ys)) (h : Named xs 27) (k : NamedT w ys 10) (h1 : RSpec w xs 25 true) (h2 : RSpec w xs 26 false) : Table w B v (xs ++ ys) := by
  have hx : ∀ (i : Nat) (v : Value), xs[i]? = some v → (xs ++ ys)[i]? = some v := fun i v hv => got_app hv
  refine ⟨ho, named_join h k, ?_, ?_, fun j hj => ?_⟩
  · obtain ⟨p, g, d, a, b, c, e⟩ := h1
    exact ⟨p, g, d, hx _ _ a, hx _ _ b, hx _ _ c, e⟩
  · obtain ⟨p, g, d, a, b, c, e⟩ := h2
    exact ⟨p, g, d, hx _ _ a, hx _ _ b, hx _ _ c, e⟩
  · obtain ⟨_, p, g, d, a, b, c, e⟩ := k.2 j hj
    have hl := h.1
    have hr : ∀ m, (xs ++ ys)[(27 + j) * 4 + m]? = ys[j * 4 + m]? := fun m => by rw [List.getElem?_append_right (by omega), show (27 + j) * 4 + m - xs.length = j * 4 + m by omega]
    exact ⟨p, g, d, (hr 1).trans a, (hr 2).trans b, (hr 3).trans c, e⟩
end Go.Proofs.YtflhndjpfiklaaaGreatDoor.H
