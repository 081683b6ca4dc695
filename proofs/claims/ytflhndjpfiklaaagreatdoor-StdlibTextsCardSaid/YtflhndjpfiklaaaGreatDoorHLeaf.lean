/- Contracts of the functions of layer 1 on kinds and bits, of the program and of the document: what kinds are which, widths, which bits may be. No condition but that bits are 64. -/
import Derived.Test.YtflhndjpfiklaaaGreatDoorProg
import Derived.Test.YtflhndjpfiklaaaGreatDoorHPlain
import Derived.WalkKit
import Derived.WalkLawsBesides
import Derived.WalkSpells
import Derived.BigCall
import Derived.BigGuard
import Derived.Laws.Externs
import Derived.Laws.Cover2
import Derived.Laws.FloatArith
import Derived.Lib.Hide
import Derived.Below
import Derived.Deep.Light
namespace Go.Proofs.YtflhndjpfiklaaaGreatDoor.H
set_option linter.unusedSimpArgs false
set_option linter.unusedVariables false
open Go.RowKit Go.Proofs.YtflhndjpfiklaaaGreatDoor.Plain
set_option maxHeartbeats 3200000
set_option maxRecDepth 100000
theorem ext_from (n : Int) (w : World) : (callFunc 68 #[.int .u64 n]).run Tryz.prog w = .ok (.value (.float .f64 n.toNat)) w := by
  rw [run_callFunc_extern (e := Extern.MathFloatBits.float64frombits) Tryz.func68 (by kernel_rfl) (by kernel_rfl) (by kernel_rfl) (by kernel_rfl)]
  rfl
theorem ext_bits (n : Nat) (w : World) : (callFunc 132 #[.float .f64 n]).run Tryz.prog w = .ok (.value (.int .u64 (Int.ofNat n))) w := by
  rw [run_callFunc_extern (e := Extern.MathFloatBits.float64bits) Tryz.func132 (by kernel_rfl) (by kernel_rfl) (by kernel_rfl) (by kernel_rfl)]
  rfl
theorem cell_isSome (w : World) (p q : Addr) (x : Value) : ((w.setCell p x).cell? q).isSome = (w.cell? q).isSome := by
  cases h : w.cell? q with
  | some v =>
    obtain ⟨v', h'⟩ := RowKit.cell?_setCell_some (p := p) (x := x) h
    rw [h']; rfl
  | none =>
    by_cases e : p = q
    · subst e
      unfold World.cell? at h
      simp only [World.setCell, World.cell?, Array.getElem?_modify, if_true]
      cases hh : w.heap[p.block]? with
      | none => simp
      | some x =>
        rw [hh] at h
        cases x <;> simp_all
    · rw [World.cell?_setCell_other _ _ _ _ e, h]
theorem un_neg_float (k : FloatKind) (b : Nat) : Op.unary .neg (.float k b) = pure (.float k (Op.negFloat k b)) := rfl
attribute [local go_sem] ext_from ext_bits cell_isSome un_neg_float
theorem bcell {W w1 : World} (hb : Below W.heap.size W w1) : (∀ b o, b < W.heap.size → w1.cell? ⟨b, o, none⟩ = W.cell? ⟨b, o, none⟩) ∧ (∀ b o, b < W.heap.size → w1.frozen? ⟨b, o, none⟩ = W.frozen? ⟨b, o, none⟩) :=
  ⟨fun b o h => hb.cell (p := ⟨b, o, none⟩) h, fun b o h => hb.frozen (p := ⟨b, o, none⟩) h⟩
theorem b_al {w W : World} (h : Below w.heap.size w W) (o : Obj) : Below w.heap.size w (W.alloc o) := h.alloc h.size o
theorem b_st {w W : World} (h : Below w.heap.size w W) {g j : Nat} (hg : w.heap.size ≤ g) (v : Value) : Below w.heap.size w (W.setCell ⟨g, j, none⟩ v) := h.setCell hg _
theorem b_dr {w W : World} (h : Below w.heap.size w W) : Below w.heap.size w W.drew := h.drew
theorem b_go {w W W2 : World} (h : Below w.heap.size w W) (k : Below W.heap.size W W2) : Below w.heap.size w W2 := h.trans (k.mono h.size)
theorem k_new {w : World} {o : Obj} {n : Nat} (h : n = w.heap.size) : (w.alloc o).heap[n]? = some o := by rw [h]; exact (MapKept.heap_alloc w o).1
theorem k_lt {w : World} {g : Nat} {o : Obj} (h : w.heap[g]? = some o) : g < w.heap.size := by
  rcases Nat.lt_or_ge g w.heap.size with c | c
  · exact c
  · rw [Array.getElem?_eq_none c] at h; cases h
theorem k_al {w : World} {g : Nat} {o : Obj} (h : w.heap[g]? = some o) (o' : Obj) : (w.alloc o').heap[g]? = some o := (Below.heap_alloc w o' g (k_lt h)).trans h
theorem k_go {w w1 : World} {g : Nat} {o : Obj} (h : w.heap[g]? = some o) (hb : Below w.heap.size w w1) : w1.heap[g]? = some o := (hb.block g (k_lt h)).trans h
theorem k_cell {w : World} {g : Nat} {T : TypeId} {cs : Array Value} (h : w.heap[g]? = some (.cells cs T (0, 0))) (i : Nat) : w.cell? ⟨g, i, none⟩ = cs[i]? := cell_of_row w g i cs T (0, 0) h
theorem set2 {w1 : World} {g : Nat} {x0 x1 : Value} {T : TypeId} (h : w1.heap[g]? = some (.cells #[x0, x1] T (0, 0))) (y0 y1 : Value) :
    ((w1.setCell ⟨g, 0, none⟩ y0).setCell ⟨g, 1, none⟩ y1).cell? ⟨g, 0, none⟩ = some y0 ∧ ((w1.setCell ⟨g, 0, none⟩ y0).setCell ⟨g, 1, none⟩ y1).cell? ⟨g, 1, none⟩ = some y1 := by
  have c0 : w1.cell? ⟨g, 0, none⟩ = some x0 := k_cell h 0
  have c1 : w1.cell? ⟨g, 1, none⟩ = some x1 := k_cell h 1
  exact ⟨(World.cell?_setCell_other _ _ _ _ (by simp)).trans (World.cell?_setCell_same _ _ _ c0), World.cell?_setCell_same _ _ _ ((World.cell?_setCell_other _ _ _ _ (by simp)).trans c1)⟩
theorem set3 {w1 : World} {g : Nat} {x0 x1 x2 : Value} {T : TypeId} (h : w1.heap[g]? = some (.cells #[x0, x1, x2] T (0, 0))) (y0 y1 y2 : Value) :
    (((w1.setCell ⟨g, 0, none⟩ y0).setCell ⟨g, 1, none⟩ y1).setCell ⟨g, 2, none⟩ y2).cell? ⟨g, 0, none⟩ = some y0 ∧ (((w1.setCell ⟨g, 0, none⟩ y0).setCell ⟨g, 1, none⟩ y1).setCell ⟨g, 2, none⟩ y2).cell? ⟨g, 1, none⟩ = some y1 ∧
      (((w1.setCell ⟨g, 0, none⟩ y0).setCell ⟨g, 1, none⟩ y1).setCell ⟨g, 2, none⟩ y2).cell? ⟨g, 2, none⟩ = some y2 := by
  have c0 : w1.cell? ⟨g, 0, none⟩ = some x0 := k_cell h 0
  have c1 : w1.cell? ⟨g, 1, none⟩ = some x1 := k_cell h 1
  have c2 : w1.cell? ⟨g, 2, none⟩ = some x2 := k_cell h 2
  refine ⟨(World.cell?_setCell_other _ _ _ _ (by simp)).trans ((World.cell?_setCell_other _ _ _ _ (by simp)).trans (World.cell?_setCell_same _ _ _ c0)), (World.cell?_setCell_other _ _ _ _ (by simp)).trans (World.cell?_setCell_same _ _ _ ((World.cell?_setCell_other _ _ _ _ (by simp)).trans c1)), ?_⟩
  exact World.cell?_setCell_same _ _ _ ((World.cell?_setCell_other _ _ _ _ (by simp)).trans ((World.cell?_setCell_other _ _ _ _ (by simp)).trans c2))
theorem ret_bool {a b : Bool} (h : a = b) : Ending.returned (.bool a) = Ending.returned (.bool b) := by rw [h]
theorem ret_int {k : IntKind} {a b : Int} (h : a = b) : Ending.returned (.int k a) = Ending.returned (.int k b) := by rw [h]
def sgB (k : Int) : Bool := decide (2 ≤ k ∧ k ≤ 5)
def unB (k : Int) : Bool := decide (6 ≤ k ∧ k ≤ 9)
def whB (k : Int) : Bool := decide (2 ≤ k ∧ k ≤ 9)
def rowB (k : Int) : Bool := decide (10 ≤ k ∧ k ≤ 13)
def timeB (k : Int) : Bool := decide (14 ≤ k ∧ k ≤ 17)
def elB (k : Int) : Bool := decide (1 ≤ k ∧ k ≤ 19)
theorem v_signed (k : Int) (w : World) : Calls Tryz.prog 77 #[.int .u8 k] w fun e w' => e = .returned (.bool (sgB k)) ∧ w = w' := by
  go_enter Tryz.func77, Tryz.ntmps77
  go_wp2
  all_goals (go_ret; refine ⟨ret_bool ?_, rfl⟩; rw [Bool.eq_iff_iff]; simp [sgB, *] <;> omega)
theorem v_unsigned (k : Int) (w : World) : Calls Tryz.prog 131 #[.int .u8 k] w fun e w' => e = .returned (.bool (unB k)) ∧ w = w' := by
  go_enter Tryz.func131, Tryz.ntmps131
  go_wp2
  all_goals (go_ret; refine ⟨ret_bool ?_, rfl⟩; rw [Bool.eq_iff_iff]; simp [unB, *] <;> omega)
theorem v_whole (k : Int) (w : World) : Calls Tryz.prog 72 #[.int .u8 k] w fun e w' => e = .returned (.bool (whB k)) ∧ w = w' := by
  go_enter Tryz.func72, Tryz.ntmps72
  go_wp2
  all_goals (go_ret; refine ⟨ret_bool ?_, rfl⟩; rw [Bool.eq_iff_iff]; simp [whB, *] <;> omega)
theorem v_row (k : Int) (w : World) : Calls Tryz.prog 73 #[.int .u8 k] w fun e w' => e = .returned (.bool (rowB k)) ∧ w = w' := by
  go_enter Tryz.func73, Tryz.ntmps73
  go_wp2
  all_goals (go_ret; refine ⟨ret_bool ?_, rfl⟩; rw [Bool.eq_iff_iff]; simp [rowB, *] <;> omega)
theorem v_timed (k : Int) (w : World) : Calls Tryz.prog 80 #[.int .u8 k] w fun e w' => e = .returned (.bool (timeB k)) ∧ w = w' := by
  go_enter Tryz.func80, Tryz.ntmps80
  go_wp2
  all_goals (go_ret; refine ⟨ret_bool ?_, rfl⟩; rw [Bool.eq_iff_iff]; simp [timeB, *] <;> omega)
theorem v_known (k : Int) (w : World) : Calls Tryz.prog 69 #[.int .u8 k] w fun e w' => e = .returned (.bool (elB k)) ∧ w = w' := by
  go_enter Tryz.func69, Tryz.ntmps69
  go_wp2
  all_goals (go_ret; refine ⟨ret_bool ?_, rfl⟩; rw [Bool.eq_iff_iff]; simp [elB, *] <;> omega)
theorem r_signed (k : Int) (w : World) : Calls Tryz.prog 17 #[.int .u8 k] w fun e w' => e = .returned (.bool (sgB k)) ∧ w = w' := by
  go_enter Tryz.func17, Tryz.ntmps17
  go_wp2
  all_goals (go_ret; refine ⟨ret_bool ?_, rfl⟩; rw [Bool.eq_iff_iff]; simp [sgB, *] <;> omega)
theorem r_unsigned (k : Int) (w : World) : Calls Tryz.prog 127 #[.int .u8 k] w fun e w' => e = .returned (.bool (unB k)) ∧ w = w' := by
  go_enter Tryz.func127, Tryz.ntmps127
  go_wp2
  all_goals (go_ret; refine ⟨ret_bool ?_, rfl⟩; rw [Bool.eq_iff_iff]; simp [unB, *] <;> omega)
theorem r_integer (k : Int) (w : World) : Calls Tryz.prog 65 #[.int .u8 k] w fun e w' => e = .returned (.bool (whB k)) ∧ w = w' := by
  go_enter Tryz.func65, Tryz.ntmps65
  go_wp2
  all_goals (go_ret; refine ⟨ret_bool ?_, rfl⟩; rw [Bool.eq_iff_iff]; simp [whB, *] <;> omega)
theorem r_row (k : Int) (w : World) : Calls Tryz.prog 10 #[.int .u8 k] w fun e w' => e = .returned (.bool (rowB k)) ∧ w = w' := by
  go_enter Tryz.func10, Tryz.ntmps10
  go_wp2
  all_goals (go_ret; refine ⟨ret_bool ?_, rfl⟩; rw [Bool.eq_iff_iff]; simp [rowB, *] <;> omega)
theorem r_time (k : Int) (w : World) : Calls Tryz.prog 16 #[.int .u8 k] w fun e w' => e = .returned (.bool (timeB k)) ∧ w = w' := by
  go_enter Tryz.func16, Tryz.ntmps16
  go_wp2
  all_goals (go_ret; refine ⟨ret_bool ?_, rfl⟩; rw [Bool.eq_iff_iff]; simp [timeB, *] <;> omega)
theorem r_elem (k : Int) (w : World) : Calls Tryz.prog 126 #[.int .u8 k] w fun e w' => e = .returned (.bool (elB k)) ∧ w = w' := by
  go_enter Tryz.func126, Tryz.ntmps126
  go_wp2
  all_goals (go_ret; refine ⟨ret_bool ?_, rfl⟩; rw [Bool.eq_iff_iff]; simp [elB, *] <;> omega)
/-- The document's width: nought of kinds without one. -/
def rWidthV (k : Int) : Int := if 2 ≤ k ∧ k ≤ 13 then widthV k else 0
theorem v_width (k : Int) (w : World) : Calls Tryz.prog 130 #[.int .u8 k] w fun e w' => e = .returned (.int .u64 (widthV k)) ∧ w = w' := by
  go_enter Tryz.func130, Tryz.ntmps130
  go_wp2
  all_goals (go_ret; refine ⟨ret_int ?_, rfl⟩; simp only [beq_iff_eq, beq_eq_false_iff_ne] at *; simp [widthV, *])
theorem r_width (k : Int) (w : World) : Calls Tryz.prog 15 #[.int .u8 k] w fun e w' => e = .returned (.int .i64 (rWidthV k)) ∧ w = w' := by
  go_enter Tryz.func15, Tryz.ntmps15
  go_wp2
  all_goals (go_ret; refine ⟨ret_int ?_, rfl⟩; simp only [beq_iff_eq, beq_eq_false_iff_ne] at *; simp [rWidthV, widthV, *] <;> omega)
theorem v_fits (k b : Int) (h0 : 0 ≤ b) (h1 : b < 18446744073709551616) (w : World) : Calls Tryz.prog 70 #[.int .u8 k, .int .u64 b] w fun e w' => e = .returned (.bool (fitsB k b)) ∧ w = w' := by
  have H1 := Lib.hid h1
  clear h1
  go_enter Tryz.func70, Tryz.ntmps70
  go_wp2
  all_goals (go_ret; refine ⟨ret_bool ?_, rfl⟩; go_light)
  all_goals (have h1 := H1.out; simp only [beq_iff_eq, beq_eq_false_iff_ne] at *; (try rw [Int.tmod_eq_emod_of_nonneg h0]); rw [Bool.eq_iff_iff]; simp [fitsB, *] <;> omega)
end Go.Proofs.YtflhndjpfiklaaaGreatDoor.H
