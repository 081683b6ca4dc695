/- Contracts of the functions of layer 1 on kinds and bits, of the program and of the document: what kinds are which, widths, which bits may be. No condition but that bits are 64. -/
import Derived.Test.YtmnaeoljpajomaaProg
import Derived.Test.YtmnaeoljpajomaaHPlain
import Derived.WalkKit
import Derived.WalkLawsBesides
import Derived.WalkSpells
import Derived.BigCall
import Derived.BigGuard
import Derived.Laws.Externs
import Derived.Laws.Cover2
import Derived.Laws.FloatArith
import Derived.Lib.Hide
import Derived.Below
import Derived.Deep.Light
namespace Go.Proofs.Ytmnaeoljpajomaa.H
set_option linter.unusedSimpArgs false
set_option linter.unusedVariables false
open Go.RowKit Go.Proofs.Ytmnaeoljpajomaa.Plain
set_option maxHeartbeats 3200000
set_option maxRecDepth 100000
theorem ext_from (n : Nat) : n + 0 = n := rfl
theorem ext_bits (n : Nat) : n + 0 = n := rfl
theorem cell_isSome (w : World) (p q : Addr) (x : Value) : ((w.setCell p x).cell? q).isSome = (w.cell? q).isSome := by
  cases h : w.cell? q with
  | some v =>
    obtain ⟨v', h'⟩ := RowKit.cell?_setCell_some (p := p) (x := x) h
    rw [h']; rfl
  | none =>
    by_cases e : p = q
    · subst e
      unfold World.cell? at h
      simp only [World.setCell, World.cell?, Array.getElem?_modify, if_true]
      cases hh : w.heap[p.block]? with
      | none => simp
      | some x =>
        rw [hh] at h
        cases x <;> simp_all
    · rw [World.cell?_setCell_other _ _ _ _ e, h]
theorem un_neg_float (k : FloatKind) (b : Nat) : Op.unary .neg (.float k b) = pure (.float k (Op.negFloat k b)) := rfl
attribute [local go_sem] ext_from ext_bits cell_isSome un_neg_float
theorem bcell {W w1 : World} (hb : Below W.heap.size W w1) : (∀ b o, b < W.heap.size → w1.cell? ⟨b, o, none⟩ = W.cell? ⟨b, o, none⟩) ∧ (∀ b o, b < W.heap.size → w1.frozen? ⟨b, o, none⟩ = W.frozen? ⟨b, o, none⟩) :=
  ⟨fun b o h => hb.cell (p := ⟨b, o, none⟩) h, fun b o h => hb.frozen (p := ⟨b, o, none⟩) h⟩
theorem b_al {w W : World} (h : Below w.heap.size w W) (o : Obj) : Below w.heap.size w (W.alloc o) := h.alloc h.size o
theorem b_st {w W : World} (h : Below w.heap.size w W) {g j : Nat} (hg : w.heap.size ≤ g) (v : Value) : Below w.heap.size w (W.setCell ⟨g, j, none⟩ v) := h.setCell hg _
theorem b_dr {w W : World} (h : Below w.heap.size w W) : Below w.heap.size w W.drew := h.drew
theorem b_go {w W W2 : World} (h : Below w.heap.size w W) (k : Below W.heap.size W W2) : Below w.heap.size w W2 := h.trans (k.mono h.size)
theorem k_new {w : World} {o : Obj} {n : Nat} (h : n = w.heap.size) : (w.alloc o).heap[n]? = some o := by rw [h]; exact (MapKept.heap_alloc w o).1
theorem k_lt {w : World} {g : Nat} {o : Obj} (h : w.heap[g]? = some o) : g < w.heap.size := by
  rcases Nat.lt_or_ge g w.heap.size with c | c
  · exact c
  · rw [Array.getElem?_eq_none c] at h; cases h
theorem k_al {w : World} {g : Nat} {o : Obj} (h : w.heap[g]? = some o) (o' : Obj) : (w.alloc o').heap[g]? = some o := (Below.heap_alloc w o' g (k_lt h)).trans h
theorem k_go {w w1 : World} {g : Nat} {o : Obj} (h : w.heap[g]? = some o) (hb : Below w.heap.size w w1) : w1.heap[g]? = some o := (hb.block g (k_lt h)).trans h
theorem k_cell {w : World} {g : Nat} {T : TypeId} {cs : Array Value} (h : w.heap[g]? = some (.cells cs T (0, 0))) (i : Nat) : w.cell? ⟨g, i, none⟩ = cs[i]? := cell_of_row w g i cs T (0, 0) h
theorem set2 {w1 : World} {g : Nat} {x0 x1 : Value} {T : TypeId} (h : w1.heap[g]? = some (.cells #[x0, x1] T (0, 0))) (y0 y1 : Value) :
    ((w1.setCell ⟨g, 0, none⟩ y0).setCell ⟨g, 1, none⟩ y1).cell? ⟨g, 0, none⟩ = some y0 ∧ ((w1.setCell ⟨g, 0, none⟩ y0).setCell ⟨g, 1, none⟩ y1).cell? ⟨g, 1, none⟩ = some y1 := by
  have c0 : w1.cell? ⟨g, 0, none⟩ = some x0 := k_cell h 0
  have c1 : w1.cell? ⟨g, 1, none⟩ = some x1 := k_cell h 1
  exact ⟨(World.cell?_setCell_other _ _ _ _ (by simp)).trans (World.cell?_setCell_same _ _ _ c0), World.cell?_setCell_same _ _ _ ((World.cell?_setCell_other _ _ _ _ (by simp)).trans c1)⟩
theorem set3 {w1 : World} {g : Nat} {x0 x1 x2 : Value} {T : TypeId} (h : w1.heap[g]? = some (.cells #[x0, x1, x2] T (0, 0))) (y0 y1 y2 : Value) :
    (((w1.setCell ⟨g, 0, none⟩ y0).setCell ⟨g, 1, none⟩ y1).setCell ⟨g, 2, none⟩ y2).cell? ⟨g, 0, none⟩ = some y0 ∧ (((w1.setCell ⟨g, 0, none⟩ y0).setCell ⟨g, 1, none⟩ y1).setCell ⟨g, 2, none⟩ y2).cell? ⟨g, 1, none⟩ = some y1 ∧
      (((w1.setCell ⟨g, 0, none⟩ y0).setCell ⟨g, 1, none⟩ y1).setCell ⟨g, 2, none⟩ y2).cell? ⟨g, 2, none⟩ = some y2 := by
  have c0 : w1.cell? ⟨g, 0, none⟩ = some x0 := k_cell h 0
  have c1 : w1.cell? ⟨g, 1, none⟩ = some x1 := k_cell h 1
  have c2 : w1.cell? ⟨g, 2, none⟩ = some x2 := k_cell h 2
  refine ⟨(World.cell?_setCell_other _ _ _ _ (by simp)).trans ((World.cell?_setCell_other _ _ _ _ (by simp)).trans (World.cell?_setCell_same _ _ _ c0)), (World.cell?_setCell_other _ _ _ _ (by simp)).trans (World.cell?_setCell_same _ _ _ ((World.cell?_setCell_other _ _ _ _ (by simp)).trans c1)), ?_⟩
  exact World.cell?_setCell_same _ _ _ ((World.cell?_setCell_other _ _ _ _ (by simp)).trans ((World.cell?_setCell_other _ _ _ _ (by simp)).trans c2))
theorem ret_bool {a b : Bool} (h : a = b) : Ending.returned (.bool a) = Ending.returned (.bool b) := by rw [h]
theorem ret_int {k : IntKind} {a b : Int} (h : a = b) : Ending.returned (.int k a) = Ending.returned (.int k b) := by rw [h]
def sgB (k : Int) : Bool := decide (2 ≤ k ∧ k ≤ 5)
def unB (k : Int) : Bool := decide (6 ≤ k ∧ k ≤ 9)
def whB (k : Int) : Bool := decide (2 ≤ k ∧ k ≤ 9)
def rowB (k : Int) : Bool := decide (10 ≤ k ∧ k ≤ 13)
def timeB (k : Int) : Bool := decide (14 ≤ k ∧ k ≤ 17)
def elB (k : Int) : Bool := decide (1 ≤ k ∧ k ≤ 19)
/-- The document's width: nought of kinds without one. -/
def rWidthV (k : Int) : Int := if 2 ≤ k ∧ k ≤ 13 then widthV k else 0
end Go.Proofs.Ytmnaeoljpajomaa.H
