/- Plain facts for VmNothing: cells and values as lists, and what cells begin with. No program in sight; no condition. -/
import Derived.Test.YtccdgjjoeamnjaaGreatDoorHLeaf
namespace Go.Proofs.YtccdgjjoeamnjaaGreatDoor.Plain
set_option linter.unusedSimpArgs false
set_option linter.unusedVariables false
open Go.RowKit
/-- A value: kind, bits, text. -/
abbrev Val := Int × Int × ByteArray
/-- A cell, its kind and its first value by name, the rest as it lies. -/
structure CellD where
  k : Int
  sb : Bool
  lo : Int
  hi : Int
  mx : Int
  ik : Int
  ib : Int
  it : ByteArray
  kp : Bool
  dir : Int
  ad : ByteArray
/-- A cell's row in memory. -/
def CellD.row (d : CellD) : List Value := [.int .u8 d.k, .bool d.sb, .int .i64 d.lo, .int .i64 d.hi, .int .i64 d.mx, .int .u8 d.ik, .int .u64 d.ib, .string d.it, .bool d.kp, .int .i64 d.dir, .string d.ad]
def CellD.init (d : CellD) : Val := (d.ik, d.ib, d.it)
/-- Is a value of a cell's kind, and may it be? -/
def keptB (k : Int) (v : Val) : Bool := v.1 == k && (v.1 == 20 || mayB v.1 v.2.1 v.2.2)
/-- The value nought of a kind. -/
def zeroV (k : Int) : Val := if 1 ≤ k ∧ k ≤ 19 then (k, 0, ⟨#[]⟩) else (0, 0, ⟨#[]⟩)
/-- What a cell begins with. -/
def initV (d : CellD) : Val := if keptB d.k d.init = true then d.init else if d.k = 20 then (20, 0, ⟨#[]⟩) else zeroV d.k
def vcells (v : Val) : List Value := [.int .u8 v.1, .int .u64 v.2.1, .string v.2.2]
/-- Values side by side. -/
def flat (l : List Val) : List Value := l.flatMap vcells
theorem flat_len (l : List Val) : (flat l).length = l.length * 3 := by
  induction l with
  | nil => rfl
  | cons v l ih =>
    have e : flat (v :: l) = vcells v ++ flat l := by simp [flat]
    rw [e, List.length_append, ih]
    simp [vcells]
    omega
theorem flat_app (l m : List Val) : flat (l ++ m) = flat l ++ flat m := by simp [flat]
theorem flat_one (v : Val) : flat [v] = vcells v := by simp [flat]
theorem flat_get (l : List Val) (i : Nat) (v : Val) (h : l[i]? = some v) (j : Nat) (hj : j < 3) : (flat l)[i * 3 + j]? = (vcells v)[j]? := by
  induction l generalizing i with
  | nil => simp at h
  | cons x l ih =>
    have e : flat (x :: l) = vcells x ++ flat l := by simp [flat]
    have hx : (vcells x).length = 3 := rfl
    rw [e]
    cases i with
    | zero =>
      have h2 : x = v := by simpa using h
      subst h2
      rw [List.getElem?_append_left (by omega)]
      simp
    | succ i =>
      rw [List.getElem?_append_right (by omega), hx]
      have := ih i (by simpa using h)
      rw [show (i + 1) * 3 + j - 3 = i * 3 + j by omega]
      exact this
theorem flat_one_cell (l : List Val) : ∀ u ∈ flat l, u.oneCell' = true := by
  intro u hu
  obtain ⟨v, _, hv⟩ := List.mem_flatMap.1 hu
  simp [vcells] at hv
  rcases hv with rfl | rfl | rfl <;> rfl
/-- Bits of 64. -/
def OkV (v : Val) : Prop := 0 ≤ v.2.1 ∧ v.2.1 < 18446744073709551616
def OkD (d : CellD) : Prop := OkV d.init
theorem row_one (d : CellD) : ∀ u ∈ d.row, u.oneCell' = true := by
  intro u hu
  simp [CellD.row] at hu
  rcases hu with rfl | rfl | rfl | rfl | rfl | rfl | rfl | rfl | rfl | rfl | rfl <;> rfl
theorem ok_init {d : CellD} (h : OkD d) : OkV (initV d) := by
  unfold initV
  split
  · exact h
  · split
    · exact ⟨Int.le_refl 0, (by decide : (0 : Int) < 18446744073709551616)⟩
    · unfold zeroV
      split <;> exact ⟨Int.le_refl 0, (by decide : (0 : Int) < 18446744073709551616)⟩
/-- Are all values of their cells' kinds? -/
def allKept (ds : List CellD) : Bool := ds.all fun d => keptB d.k (initV d)
/-- The fault ahead of a run of one code that only returns; nought: none. -/
def faultV (now base : Int) (ds : List CellD) : Int :=
  if now < 0 ∨ now > 4611686018427387904 then 8 else if allKept ds = false then 8 else if base < 0 ∨ base > ds.length then 9 else 0
end Go.Proofs.YtccdgjjoeamnjaaGreatDoor.Plain
