/- The standard functions' table as it grows in memory: words for the walks. Condition: none. -/
import Derived.Test.YtflhndjpfiklaaaGreatDoorHMay
import Derived.WalkSmall
import Derived.Handy
import Derived.OwnWalk
import Derived.OneCell
import Derived.Laws.OwnMore
import Derived.Laws.AppendOwnNone
import Derived.Laws.EntriesVeiled
import Derived.Deep.RegionHeld3
import Derived.Deep.QuietTactic
import Derived.BigQuiet
import Derived.Lib.SmallJoins
namespace Go.Proofs.YtflhndjpfiklaaaGreatDoor.H
set_option linter.unusedVariables false
set_option linter.unusedSimpArgs false
open Go.RowKit Go.Proofs.YtflhndjpfiklaaaGreatDoor.Plain
set_option maxHeartbeats 3200000
set_option maxRecDepth 100000
attribute [local go_sem] ext_from ext_bits cell_isSome un_neg_float
theorem k_cv {w : World} {b : Nat} {cs : Array Value} {t : TypeId} {v : Value} (h : w.heap[b]? = some (.cells cs t (0, 0))) (i : Nat) (hv : cs[i]? = some v) : w.cell? ⟨b, i, none⟩ = some v := (k_cell h i).trans hv
theorem k_fr {w : World} {b : Nat} {cs : Array Value} {t : TypeId} (h : w.heap[b]? = some (.cells cs t (0, 0))) (i : Nat) : w.frozen? ⟨b, i, none⟩ = false := by simp [World.frozen?, h]
theorem k_ot {w : World} {g b i : Nat} {o : Obj} {v : Value} (h : w.heap[g]? = some o) (hne : g ≠ b) : (w.setCell ⟨b, i, none⟩ v).heap[g]? = some o := by rw [Below.heap_setCell _ _ _ _ hne]; exact h
theorem own_below {B : Nat} {e : TypeId} {k : Nat} {v : Value} {n : Nat} {xs : List Value} {w w' : World} (h : w.ownsRow B e k v n xs) (hb : Below w.heap.size w w') : w'.ownsRow B e k v n xs := by
  obtain ⟨h1, h2⟩ := h
  refine ⟨h1, ?_⟩
  rcases h2 with h2 | ⟨g, cap, cur, e1, e2, e3, e4⟩
  · exact .inl h2
  · exact .inr ⟨g, cap, cur, e1, e2, k_go e3 hb, e4⟩
theorem own_shape {w : World} {B n size : Nat} {T : TypeId} {v : Value} {xs : List Value} (h : w.ownsRow B T size v n xs) : ∃ a c, v = .slice a n c := by
  rcases h.2 with ⟨rfl, rfl⟩ | ⟨g, cap, cur, rfl, _⟩
  · exact ⟨none, 0, rfl⟩
  · exact ⟨_, cap, rfl⟩
theorem add_pl (g j : Nat) : (⟨g, 0, none⟩ : Addr).add j = ⟨g, j, none⟩ := by
  unfold Addr.add
  split
  · rename_i h; subst h; rfl
  · simp
/-- The table as it grows: the variable that holds it, and what it owns: k entries. -/
def Tab (w : World) (B L k : Nat) (xs : List Value) : Prop :=
  B ≤ L ∧ ∃ v, w.heap[L]? = some (.cells #[v] 46 (0, 0)) ∧ w.ownsRow B 52 4 v k xs
/-- What is neither a row of the table nor its variable is as it was. -/
structure Kp (L : Nat) (w w' : World) : Prop where
  size : w.heap.size ≤ w'.heap.size
  block : ∀ g o, w.heap[g]? = some o → g ≠ L → (∀ cs fr, o ≠ .cells cs 52 fr) → w'.heap[g]? = some o
theorem Kp.refl (L : Nat) (w : World) : Kp L w w := ⟨Nat.le_refl _, fun _ _ h _ _ => h⟩
theorem Kp.trans {L : Nat} {a b c : World} (h : Kp L a b) (k : Kp L b c) : Kp L a c := ⟨Nat.le_trans h.size k.size, fun g o ho hL ht => k.block g o (h.block g o ho hL ht) hL ht⟩
theorem Kp.of_below {L : Nat} {w w' : World} (h : Below w.heap.size w w') : Kp L w w' := ⟨h.size, fun g o ho _ _ => k_go ho h⟩
theorem Kp.keep {L : Nat} {w w' : World} (h : Kp L w w') {g : Nat} {cs : Array Value} {t : TypeId} {fr : Nat × Nat} (hg : w.heap[g]? = some (.cells cs t fr)) (hL : g ≠ L) (ht : t ≠ 52) : w'.heap[g]? = some (.cells cs t fr) :=
  h.block g _ hg hL (fun cs' fr' e => by cases e; exact ht rfl)
theorem Tab.go {w w' : World} {B L k : Nat} {xs : List Value} (h : Tab w B L k xs) (hb : Below w.heap.size w w') : Tab w' B L k xs := by
  obtain ⟨h1, v, h2, h3⟩ := h
  exact ⟨h1, v, k_go h2 hb, own_below h3 hb⟩
/-- A function value. -/
def FnV (v : Value) : Prop := ∃ f a c, v = .func f a c
end Go.Proofs.YtflhndjpfiklaaaGreatDoor.H
