/- What a row gives a walk where all that came in is of small bulk: codes, and the sizes of their parts. Condition: the bulk. -/
import Derived.Test.YtmnaeoljpajomaaRows
import Derived.Test.YtmnaeoljpajomaaHBRow
import Derived.JoinedCond
namespace Go.Proofs.Ytmnaeoljpajomaa.H
set_option linter.unusedSimpArgs false
set_option linter.unusedVariables false
open Go.RowKit Go.ChangeShapes Go.WideShapes Go.ChangeAt Go.Deep Go.Proofs.Ytmnaeoljpajomaa.Plain
theorem bulk_one {H : Type} (d : DataW H) : 1 ≤ Rows.uptoBulk d := by
  cases d with
  | lit l => cases l <;> simp [Rows.uptoBulk]
  | nil => simp [Rows.uptoBulk]
  | ptr d => simp [Rows.uptoBulk]
  | slice elems spare => simp [Rows.uptoBulk]
  | agg parts => simp [Rows.uptoBulk]
  | iface t d => simp [Rows.uptoBulk]
  | map entries => simp [Rows.uptoBulk]
  | held h => simp [Rows.uptoBulk]
theorem bulk_sum {H α : Type} {sz : α → Nat} : ∀ (ds : List α) (D : Nat → DataW H), (∀ (i : Nat) d, ds[i]? = some d → sz d ≤ Rows.uptoBulk (D i)) → (ds.map sz).sum ≤ Rows.uptoBulkAll ((List.range ds.length).map D)
  | [], D, h => by simp
  | d :: ds, D, h => by
    rw [List.length_cons, List.range_succ_eq_map, List.map_cons, List.map_cons, List.sum_cons, List.map_map]
    have h1 := h 0 d rfl
    have h2 := bulk_sum ds (fun i => D (i + 1)) (fun i d' hd => h (i + 1) d' (by simpa using hd))
    simp only [Rows.uptoBulkAll]
    exact Nat.add_le_add h1 h2
set_option maxRecDepth 100000 in
/-- A slice of rows that came in: its bulk is no less than its parts' sizes. -/
theorem open_rowsU {α : Type} {row : α → List Value} {k : Nat} (hk : 0 < k) (hr : ∀ d, (row d).length = k) {H : Type} {enc : TypeId × Value → H} {W : World} {T E : TypeId} {fuel : Nat} {v : Value} {x : DataW H × List MemPlace} (hT : Try.prog.underlying T = some (.slice E)) (hc : Try.prog.cellsOf E = k) {Pr : α → Prop} {sz : α → Nat}
    (hone : ∀ {fuel cs y}, DataW.trod enc Try.prog W 0 (fun _ => true) true fuel E cs = some y → ∃ d : α, cs = row d ∧ Pr d ∧ sz d ≤ Rows.uptoBulk y.1) (h : DataW.trod enc Try.prog W 0 (fun _ => true) true fuel T [v] = some x) :
    ∃ (ao : Option Addr) (n c : Nat) (ds : List α), v = .slice ao n c ∧ n ≤ c ∧ ds.length = n ∧ Sl W ao n k (ds.flatMap row) ∧ (∀ d ∈ ds, Pr d) ∧ (ds.map sz).sum + 1 ≤ Rows.uptoBulk x.1 := by
  rcases open_slice hT h with ⟨hcs, hx⟩ | ⟨a, len, cap, m, n', D, Pl, hcs, _, hlc, hmx, hmm, rfl, hall⟩
  · obtain rfl : v = .slice none 0 0 := by simpa using hcs
    exact ⟨none, 0, 0, [], rfl, Nat.le_refl _, rfl, ⟨by simp, (fun _ => rfl), (fun a ha => by cases ha)⟩, (fun d hd => by cases hd), bulk_one _⟩
  · obtain rfl : v = .slice (some a) len cap := by simpa using hcs
    rw [hc] at hall
    simp at hmm
    subst hmm
    obtain ⟨ds, hl, hS, hP⟩ := rows_sl (Pr := fun i d => Pr d ∧ sz d ≤ Rows.uptoBulk (D i)) hk hr len (fun i hi => by
      obtain ⟨cs', q1, q2⟩ := hall i (by omega)
      obtain ⟨d, rfl, hd⟩ := hone q2
      exact ⟨_, q1, d, rfl, hd⟩)
    have hs := bulk_sum (sz := sz) ds D (fun i d hd => (hP i d hd).2)
    rw [hl] at hs
    refine ⟨some a, len, _, ds, rfl, hlc, hl, hS, fun d hd => ?_, ?_⟩
    · obtain ⟨i, hi, e⟩ := List.mem_iff_getElem.1 hd
      exact (hP i d (by rw [← e]; exact List.getElem?_eq_getElem hi)).1
    · simp only [Rows.uptoBulk]
      omega
theorem sum_ones {α : Type} (l : List α) : (l.map fun _ => 1).sum = l.length := by
  induction l with
  | nil => rfl
  | cons x l ih => simp [ih]; omega
/-- A code's parts. -/
def szF (f : FlatD) : Nat := f.ops.length + f.loops.length + 1
set_option maxRecDepth 100000 in
theorem flat_oneU {H : Type} {enc : TypeId × Value → H} {W : World} {fuel : Nat} {cs : List Value} {x : DataW H × List MemPlace} (h : DataW.trod enc Try.prog W 0 (fun _ => true) true fuel 32 cs = some x) : ∃ f : FlatD, cs = f.row ∧ (FlatOk W f ∧ f.ln ≤ f.lc) ∧ szF f ≤ Rows.uptoBulk x.1 := by
  obtain ⟨y0, y1, y2, y3, y4, y5, y6, y7, n, hxe, hl, h0, h1, h2, h3, h4, h5, h6, h7⟩ := trod_struct8 Try.underlying32 h
  obtain ⟨c0, c1, c2, c3, c4, c5, c6, c7, rfl⟩ := eightC (hl.trans cFlat)
  simp [cInt, cStr, cOps, cLoops] at h0 h1 h2 h3 h4 h5 h6 h7
  obtain ⟨s0, q0, _, _⟩ := DataW.trod_string Try.underlying9 h0
  obtain ⟨n1, q1, _, _⟩ := DataW.trod_int Try.underlying3 h1
  obtain ⟨n2, q2, _, _⟩ := DataW.trod_int Try.underlying3 h2
  obtain ⟨n3, q3, _, _⟩ := DataW.trod_int Try.underlying3 h3
  obtain ⟨n4, q4, _, _⟩ := DataW.trod_int Try.underlying3 h4
  obtain ⟨n5, q5, _, _⟩ := DataW.trod_int Try.underlying3 h5
  obtain ⟨ao, on, oc, ops, rfl, hoc, hol, hoS, _, hob⟩ := open_rowsU (row := OpD.row) (k := 10) (Pr := fun _ => True) (sz := fun _ => 1) (by decide) OpD.len Try.underlying29 cOp (fun hh => by obtain ⟨d, e⟩ := op_one hh; exact ⟨d, e, trivial, bulk_one _⟩) h6
  obtain ⟨lo, ln, lc, loops, rfl, hlc, hll, hlS, _, hlb⟩ := open_rowsU (row := LoopD.row) (k := 3) (Pr := fun _ => True) (sz := fun _ => 1) (by decide) LoopD.len Try.underlying30 cLoop (fun hh => by obtain ⟨d, e⟩ := loop_one hh; exact ⟨d, e, trivial, bulk_one _⟩) h7
  (try simp only [List.cons.injEq, and_true] at q0 q1 q2 q3 q4 q5)
  subst q0 q1 q2 q3 q4 q5
  refine ⟨⟨s0, n1, n2, n3, n4, n5, ao, on, oc, lo, ln, lc, ops, loops⟩, rfl, ⟨⟨⟨hol, hoS⟩, ⟨hll, hlS⟩⟩, hlc⟩, ?_⟩
  rw [sum_ones] at hob hlb
  rw [hxe]
  simp only [Rows.uptoBulk, Rows.uptoBulkAll]
  unfold szF
  dsimp only
  omega
theorem sum_mem {α : Type} {sz : α → Nat} : ∀ (l : List α) (x : α), x ∈ l → sz x ≤ (l.map sz).sum
  | y :: l, x, h => by
    rw [List.map_cons, List.sum_cons]
    rcases List.mem_cons.1 h with rfl | h
    · omega
    · have := sum_mem (sz := sz) l x h
      omega
theorem sum_len {α : Type} {sz : α → Nat} (h1 : ∀ x, 1 ≤ sz x) : ∀ (l : List α), l.length ≤ (l.map sz).sum
  | [] => Nat.le_refl _
  | y :: l => by
    rw [List.map_cons, List.sum_cons, List.length_cons]
    have := h1 y
    have := sum_len h1 l
    omega
theorem sumA_le (fs : List FlatD) : sumA (allV fs) ≤ (fs.map szF).sum := by
  induction fs with
  | nil => simp [sumA, sumU, allV]
  | cons f fs ih =>
    have h := callsV_len f.ops
    simp only [allV, sumA, sumU, List.map_cons, List.sum_cons] at ih ⊢
    unfold szF
    unfold szF at ih
    omega
/-- A code's sizes within reach. -/
def SmallF (f : FlatD) : Prop := FlatSz f ∧ Modest f ∧ f.ln ≤ f.lc
theorem small_of {W : World} {f : FlatD} (h : FlatOk W f ∧ f.ln ≤ f.lc) (hs : szF f ≤ 1048576) : SmallF f := by
  have h1 := h.1.1.1
  have h2 := h.1.2.1
  unfold szF at hs
  exact ⟨⟨by omega, by omega⟩, ⟨by omega, by omega⟩, h.2⟩
set_option maxRecDepth 100000 in
theorem open_codesU {H : Type} {enc : TypeId × Value → H} {W : World} {base : Nat} {v : Value} {d : DataW H} {p : List MemPlace} (hb : Rows.uptoBulk d ≤ 1048576)
    (hval : Value.okWide Try.prog W .any base 22 v) (h : DataW.Trod enc Try.prog W 0 (fun _ => true) true 22 v d p) :
    ∃ (ao : Option Addr) (n c : Nat) (fs : List FlatD), v = .slice ao n c ∧ Codes W ao n fs ∧ (∀ f ∈ fs, SmallF f) ∧ n ≤ 1048575 ∧ sumA (allV fs) ≤ 1048576 := by
  obtain ⟨a0, len, cap, rfl⟩ := okWide_slice Try.underlying22 hval
  obtain ⟨m, hm⟩ := h
  have hm2 : DataW.trod enc Try.prog W 0 (fun _ => true) true m 22 [.slice a0 len cap] = some (d, p) := hm
  obtain ⟨ao, n, c, fs, e, _, hl, hS, hP, hbk⟩ := open_rowsU (row := FlatD.row) (k := 8) (Pr := fun f => FlatOk W f ∧ f.ln ≤ f.lc) (sz := szF) (by decide) FlatD.len Try.underlying22 cFlat (fun hh => by obtain ⟨f, e, h1, h2⟩ := flat_oneU hh; exact ⟨f, e, h1, h2⟩) hm2
  have h1 := sum_len (sz := szF) (fun f => by unfold szF; omega) fs
  have h2 := sumA_le fs
  have hbk2 : (fs.map szF).sum + 1 ≤ Rows.uptoBulk d := hbk
  refine ⟨ao, n, c, fs, e, ⟨hl, hS, fun f hf => (hP f hf).1⟩, fun f hf => ?_, by omega, by omega⟩
  have h3 := sum_mem (sz := szF) fs f hf
  exact small_of (hP f hf) (by omega)
set_option maxRecDepth 100000 in
theorem open_flatU {H : Type} {enc : TypeId × Value → H} {W : World} {base : Nat} {v : Value} {d : DataW H} {p : List MemPlace} (hb : Rows.uptoBulk d ≤ 1048576)
    (hval : Value.okWide Try.prog W .any base 32 v) (h : DataW.Trod enc Try.prog W 0 (fun _ => true) true 32 v d p) : ∃ f : FlatD, v = f.val ∧ FlatOk W f ∧ SmallF f := by
  obtain ⟨cs, rfl, _⟩ := okWide_struct Try.underlying32 hval
  obtain ⟨m, hm⟩ := h
  have hm2 : DataW.trod enc Try.prog W 0 (fun _ => true) true m 32 cs.toList = some (d, p) := hm
  obtain ⟨f, e, h1, h3⟩ := flat_oneU hm2
  have h4 : szF f ≤ Rows.uptoBulk d := h3
  refine ⟨f, ?_, h1.1, small_of h1 (by omega)⟩
  have : cs = f.row.toArray := by rw [← e]
  rw [this]; rfl
theorem bulk_args {H : Type} {ds : List (DataW H)} (hk : Rows.uptoSmall H ds = true) : ∀ d ∈ ds, Rows.uptoBulk d ≤ 1048576 := by
  have h : Rows.uptoBulkAll ds ≤ 1048576 := of_decide_eq_true hk
  clear hk
  induction ds with
  | nil => intro d hd; cases hd
  | cons x l ih =>
    simp only [Rows.uptoBulkAll] at h
    intro d hd
    rcases List.mem_cons.1 hd with rfl | hd
    · omega
    · exact ih (by omega) d hd
end Go.Proofs.Ytmnaeoljpajomaa.H
