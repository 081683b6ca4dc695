/- Contract of bound.can: can a code be reckoned. Condition: its size is modest. -/
import Derived.Test.YtmnaeoljpajomaaHBeO
namespace Go.Proofs.Ytmnaeoljpajomaa.H
set_option linter.unusedVariables false
set_option linter.unusedSimpArgs false
open Go.RowKit Go.Proofs.Ytmnaeoljpajomaa.Plain Go.Sort Go.Maps
set_option maxHeartbeats 3200000
set_option maxRecDepth 100000
attribute [local go_sem] ext_from ext_bits cell_isSome un_neg_float
def LoopOk (n : Nat) (x : LoopD) : Prop := 0 ≤ x.head ∧ x.head < x.stop ∧ x.stop ≤ n ∧ 0 ≤ x.times ∧ x.times ≤ 65536
def NestOk (x y : LoopD) : Prop := x.stop ≤ y.head ∨ y.stop ≤ x.head ∨ (y.head ≤ x.head ∧ x.stop ≤ y.stop) ∨ (x.head ≤ y.head ∧ y.stop ≤ x.stop)
def NextOk (f : FlatD) (p : Nat) (q : Int) : Prop := 0 ≤ q ∧ q < f.ops.length ∧ (q ≤ p → f.loops.any (backB q p) = true)
theorem canF_iff (f : FlatD) : CanF f ↔ 0 < f.ops.length ∧ (∀ m, m < f.loops.length → LoopOk f.ops.length (loopAt f m)) ∧ (∀ i j, j < i → i < f.loops.length → NestOk (loopAt f i) (loopAt f j)) ∧ ∀ p, p < f.ops.length → ∀ q ∈ nextsV f p, NextOk f p q := by
  have hback : ∀ (q : Int) (p : Nat), f.loops.any (backB q p) = true ↔ ∃ m, m < f.loops.length ∧ (loopAt f m).head = q ∧ hasB (loopAt f m) p = true := by
    intro q p
    rw [List.any_eq_true]
    constructor
    · rintro ⟨x, hx, hb⟩
      obtain ⟨i, hi, e⟩ := List.mem_iff_getElem.1 hx
      have := loopAt_get hi
      rw [List.getElem?_eq_getElem hi, e] at this
      have := Option.some.inj this
      unfold backB at hb
      simp at hb
      exact ⟨i, hi, by rw [← this]; exact hb.1, by rw [← this]; exact hb.2⟩
    · rintro ⟨m, hm, h1, h2⟩
      refine ⟨loopAt f m, List.mem_of_getElem? (loopAt_get hm), ?_⟩
      unfold backB
      simp [h1, h2]
  constructor
  · intro h
    refine ⟨h.pos, h.loop, h.nest, fun p hp q hq => ?_⟩
    obtain ⟨h1, h2, h3⟩ := h.next p hp q hq
    exact ⟨h1, h2, fun hle => (hback q p).2 (h3 hle)⟩
  · rintro ⟨h1, h2, h3, h4⟩
    refine ⟨h1, h2, h3, fun p hp q hq => ?_⟩
    obtain ⟨a, b, c⟩ := h4 p hp q hq
    exact ⟨a, b, fun hle => (hback q p).1 (c hle)⟩
/-- The answer says whether. -/
def OutC (e : Ending) (f : FlatD) : Prop := ∃ b : Bool, e = .returned (.bool b) ∧ (b = true ↔ CanF f)
theorem outC_no {f : FlatD} (h : ¬ CanF f) : OutC (.returned (.bool false)) f := ⟨false, rfl, by simp [h]⟩
theorem outC_yes {f : FlatD} (h : CanF f) : OutC (.returned (.bool true)) f := ⟨true, rfl, by simp [h]⟩
theorem c_can (f : FlatD) (w : World) (hf : FlatOk w f) (hz : Modest f) (hcap : f.ln ≤ f.lc) : Calls Try.prog 24 #[f.val] w fun e w' => OutC e f ∧ Below w.heap.size w w' := by
  obtain ⟨i0, hi, hz0, hz1, hz2⟩ := info_parts (show (Try.prog.info? 3).map (fun i => (i.zero, i.size, i.bytes)) = some (some (.int .i64 0), 1, 8) by kernel_rfl)
  obtain ⟨⟨hlo, hSo⟩, ⟨hll, hSl⟩⟩ := hf
  have hon : f.on ≤ 1048576 := by have := hz.1; omega
  have hln : f.ln ≤ 1048576 := by have := hz.2; omega
  obtain ⟨C, hCC⟩ : ∃ C : Prop, CanF f = C := ⟨_, rfl⟩
  have HI := Lib.hid (canF_iff f)
  have HSO := Lib.hid hSo
  have HSL := Lib.hid hSl
  have HLO := Lib.hid hlo
  have HLL := Lib.hid hll
  clear hSo hSl hz
  by_cases h0 : f.on = 0
  · have hno : ¬ CanF f := fun h => by have := (HI.out.1 h).1; omega
    have HN := Lib.hid hno
    clear hno hlo hll
    go_enter Try.func24, Try.ntmps24
    go_wp2
    all_goals go_returns
    all_goals exact ⟨outC_no HN.out, b_al (Below.refl _ _) _⟩
  · have h0I : ¬ (f.on : Int) = 0 := by omega
    clear hlo hll
    go_enter Try.func24, Try.ntmps24
    go_upto_region 1 with fail
    obtain ⟨wB, hwB⟩ : ∃ W, W = w.alloc (.cells #[.string f.name, .int .i64 f.what, .int .i64 f.cells, .int .i64 f.base, .int .i64 f.regs, .int .i64 f.slots, .slice f.ao f.on f.oc, .slice f.lo f.ln f.lc] 32 (0, 0)) := ⟨_, rfl⟩
    have hbB : Below w.heap.size w wB := by rw [hwB]; exact b_al (Below.refl _ _) _
    have kB : wB.heap[w.heap.size]? = some (.cells #[.string f.name, .int .i64 f.what, .int .i64 f.cells, .int .i64 f.base, .int .i64 f.regs, .int .i64 f.slots, .slice f.ao f.on f.oc, .slice f.lo f.ln f.lc] 32 (0, 0)) := by rw [hwB]; exact k_box
    have sB : wB.heap.size = w.heap.size + 1 := by rw [hwB, alloc_sz]
    rw [← hwB]
    clear hwB
    have d6 := k_cv kB 6 rfl
    have d7 := k_cv kB 7 rfl
    simp only [List.getElem_toArray, List.getElem_cons_succ, List.getElem_cons_zero] at d6 d7
    have HBB := Lib.hid hbB
    have KB := Lib.hid kB
    clear hbB kB
    have h0b : ((f.on : Int) == 0) = false := by first | (simp; done) | (simp; omega)
    go_wp2_with fail
    (try rw [h0b])
    go_loopw [22] (fun i wr => ∃ k : Nat, k ≤ f.ln ∧ i = .int .i64 k ∧ (∀ m, m < k → LoopOk f.ops.length (loopAt f m)) ∧ (∀ i j, j < i → i < k → NestOk (loopAt f i) (loopAt f j)) ∧ Below wB.heap.size wB wr) (fun i _ => f.ln - (intOf i).toNat)
    case atStart => exact ⟨0, Nat.zero_le _, rfl, fun m h => absurd h (by omega), fun i j _ h => absurd h (by omega), Below.refl _ _⟩
    case round =>
      obtain ⟨k, hk, rfl, hlp, hns, hbe⟩ := hrel
      by_cases hkn : k < f.ln
      · have hx := loopAt_get (f := f) (p := k) (by have := HLL.out; omega)
        obtain ⟨x, hxx⟩ : ∃ x, loopAt f k = x := ⟨_, rfl⟩
        rw [hxx] at hx
        obtain ⟨la, hla⟩ : ∃ a, f.lo = some a := by
          cases e : f.lo with
          | none => exact absurd (HSL.out.2.1 e) (by omega)
          | some a => exact ⟨a, rfl⟩
        have hS1 := (HSL.out.go HBB.out).go hbe
        rw [hla] at hS1 ⊢
        have p0 := hS1.at0 LoopD.len hx rfl
        have p1 := hS1.atS LoopD.len hx (j := 1) (by decide) rfl
        have p2 := hS1.atS LoopD.len hx (j := 2) (by decide) rfl
        have q6 := (hbe.cell (p := ⟨w.heap.size, 6, none⟩) (show w.heap.size < wB.heap.size by omega)).trans d6
        have q7 := (hbe.cell (p := ⟨w.heap.size, 7, none⟩) (show w.heap.size < wB.heap.size by omega)).trans d7
        rw [hla] at q7
        have hwl : w.heap.size < wr.heap.size := by have := hbe.size; omega
        have hwn : ¬ w.heap.size = wr.heap.size := by omega
        have hwn2 : ¬ wr.heap.size = w.heap.size := by omega
        have hkI : (k : Int) < f.ln := by omega
        have hkc : (k : Int) ≤ f.lc := by omega
        have hkc2 : ¬ (f.lc : Int) < k := by omega
        have hkc3 : k ≤ f.lc := by omega
        have hkc4 : ¬ f.lc < k := by omega
        have hk0 : (0 : Int) ≤ k := by omega
        clear hS1 hx
        by_cases g1 : x.head < 0
        · have hno : ¬ CanF f := fun h => by
            have hb := (HI.out.1 h).2.1 k (by have := HLL.out; omega)
            rw [hxx] at hb
            obtain ⟨b1, b2, b3, b4, b5⟩ := hb
            have := HLO.out
            omega
          have HN := Lib.hid hno
          clear hno
          go_wp2_with fail
          all_goals go_returns
          all_goals exact ⟨outC_no HN.out, b_go HBB.out (b_al hbe _)⟩
        by_cases g2 : x.stop ≤ x.head
        · have hno : ¬ CanF f := fun h => by
            have hb := (HI.out.1 h).2.1 k (by have := HLL.out; omega)
            rw [hxx] at hb
            obtain ⟨b1, b2, b3, b4, b5⟩ := hb
            have := HLO.out
            omega
          have HN := Lib.hid hno
          clear hno
          go_wp2_with fail
          all_goals go_returns
          all_goals exact ⟨outC_no HN.out, b_go HBB.out (b_al hbe _)⟩
        by_cases g3 : (f.on : Int) < x.stop
        · have hno : ¬ CanF f := fun h => by
            have hb := (HI.out.1 h).2.1 k (by have := HLL.out; omega)
            rw [hxx] at hb
            obtain ⟨b1, b2, b3, b4, b5⟩ := hb
            have := HLO.out
            omega
          have HN := Lib.hid hno
          clear hno
          go_wp2_with fail
          all_goals go_returns
          all_goals exact ⟨outC_no HN.out, b_go HBB.out (b_al hbe _)⟩
        by_cases g4 : x.times < 0
        · have hno : ¬ CanF f := fun h => by
            have hb := (HI.out.1 h).2.1 k (by have := HLL.out; omega)
            rw [hxx] at hb
            obtain ⟨b1, b2, b3, b4, b5⟩ := hb
            have := HLO.out
            omega
          have HN := Lib.hid hno
          clear hno
          go_wp2_with fail
          all_goals go_returns
          all_goals exact ⟨outC_no HN.out, b_go HBB.out (b_al hbe _)⟩
        by_cases g5 : 65536 < x.times
        · have hno : ¬ CanF f := fun h => by
            have hb := (HI.out.1 h).2.1 k (by have := HLL.out; omega)
            rw [hxx] at hb
            obtain ⟨b1, b2, b3, b4, b5⟩ := hb
            have := HLO.out
            omega
          have HN := Lib.hid hno
          clear hno
          go_wp2_with fail
          all_goals go_returns
          all_goals exact ⟨outC_no HN.out, b_go HBB.out (b_al hbe _)⟩
        have hLk : LoopOk f.ops.length (loopAt f k) := by rw [hxx]; exact ⟨by omega, by omega, by have := HLO.out; omega, by omega, by omega⟩
        go_wp2_with fail
        obtain ⟨wi, hwi⟩ : ∃ W, W = wr.alloc (.cells #[.int .i64 x.head, .int .i64 x.stop, .int .i64 x.times] 40 (0, 0)) := ⟨_, rfl⟩
        have kx : wi.heap[wr.heap.size]? = some (.cells #[.int .i64 x.head, .int .i64 x.stop, .int .i64 x.times] 40 (0, 0)) := by rw [hwi]; exact k_box
        have hbi : Below wr.heap.size wr wi := by rw [hwi]; exact b_al (Below.refl _ _) _
        have si : wi.heap.size = wr.heap.size + 1 := by rw [hwi, alloc_sz]
        rw [← hwi]
        have HBI := Lib.hid hbi
        have HKX := Lib.hid kx
        have HLP := Lib.hid hlp
        have HNS := Lib.hid hns
        have HBE := Lib.hid hbe
        obtain ⟨wo, hwo⟩ : ∃ W, W = wr := ⟨_, rfl⟩
        subst hwo
        clear hwi hbi kx hlp hns hbe p0 p1 p2 q6 q7
        go_loopw [58] (fun i w2 => ∃ j : Nat, j ≤ k ∧ i = .int .i64 j ∧ (∀ j', j' < j → NestOk x (loopAt f j')) ∧ Below wi.heap.size wi w2) (fun i _ => k - (intOf i).toNat)
        case atStart => exact ⟨0, Nat.zero_le _, rfl, fun j' h => absurd h (by omega), Below.refl _ _⟩
        case round =>
          obtain ⟨j, hj, rfl, hnj, hb2⟩ := hrel
          have hbt : Below w.heap.size w wr := b_go (b_go (b_go HBB.out HBE.out) HBI.out) hb2
          by_cases hjk : j < k
          · have hy := loopAt_get (f := f) (p := j) (by have := HLL.out; omega)
            obtain ⟨y, hyy⟩ : ∃ y, loopAt f j = y := ⟨_, rfl⟩
            rw [hyy] at hy
            have hS2 := HSL.out.go hbt
            rw [hla] at hS2
            have p0 := hS2.at0 LoopD.len hy rfl
            have p1 := hS2.atS LoopD.len hy (j := 1) (by decide) rfl
            have p2 := hS2.atS LoopD.len hy (j := 2) (by decide) rfl
            have kx2 := (hb2.block _ (by omega)).trans HKX.out
            have z0 := k_cv kx2 0 rfl
            have z1 := k_cv kx2 1 rfl
            simp only [List.getElem_toArray, List.getElem_cons_succ, List.getElem_cons_zero] at z0 z1
            have hol : wo.heap.size < wr.heap.size := by have := hb2.size; omega
            have ho1 : ¬ wo.heap.size = wr.heap.size := by omega
            have ho2 : ¬ wr.heap.size = wo.heap.size := by omega
            have hjI : (j : Int) < k := by omega
            have hno : ¬ NestOk x y → ¬ CanF f := fun h hc => h (by have := (HI.out.1 hc).2.2.1 k j hjk (by have := HLL.out; omega); rw [hxx, hyy] at this; exact this)
            have HNO := Lib.hid hno
            have HNJ := Lib.hid hnj
            have HBT := Lib.hid hbt
            clear hno hnj hbt hS2 hy kx2
            have fin : ∀ (b : Bool), True := fun _ => trivial
            by_cases a1 : x.stop ≤ y.head
            ·
              by_cases a3 : y.head ≤ x.head
              ·
                by_cases a4 : x.stop ≤ y.stop
                ·
                  first
                  | (exfalso; omega)
                  | (
                      go_wp2_with fail
                      go_roundw
                      case rel =>
                        refine ⟨j + 1, by omega, by go_num, fun j' hj' => ?_, b_al hb2 _⟩
                        rcases Nat.lt_or_ge j' j with c | c
                        · exact HNJ.out j' c
                        · obtain rfl : j' = j := by omega
                          rw [hyy]
                          unfold NestOk
                          omega
                      case measure => first | exact meas_next hjk | (simp [intOf]; omega))
                ·
                  by_cases a5 : x.head ≤ y.head
                  ·
                    by_cases a6 : y.stop ≤ x.stop
                    ·
                      first
                      | (exfalso; omega)
                      | (
                          go_wp2_with fail
                          go_roundw
                          case rel =>
                            refine ⟨j + 1, by omega, by go_num, fun j' hj' => ?_, b_al hb2 _⟩
                            rcases Nat.lt_or_ge j' j with c | c
                            · exact HNJ.out j' c
                            · obtain rfl : j' = j := by omega
                              rw [hyy]
                              unfold NestOk
                              omega
                          case measure => first | exact meas_next hjk | (simp [intOf]; omega))
                    ·
                      first
                      | (exfalso; omega)
                      | (
                          go_wp2_with fail
                          go_roundw
                          case rel =>
                            refine ⟨j + 1, by omega, by go_num, fun j' hj' => ?_, b_al hb2 _⟩
                            rcases Nat.lt_or_ge j' j with c | c
                            · exact HNJ.out j' c
                            · obtain rfl : j' = j := by omega
                              rw [hyy]
                              unfold NestOk
                              omega
                          case measure => first | exact meas_next hjk | (simp [intOf]; omega))
                  ·
                    first
                    | (exfalso; omega)
                    | (
                        go_wp2_with fail
                        go_roundw
                        case rel =>
                          refine ⟨j + 1, by omega, by go_num, fun j' hj' => ?_, b_al hb2 _⟩
                          rcases Nat.lt_or_ge j' j with c | c
                          · exact HNJ.out j' c
                          · obtain rfl : j' = j := by omega
                            rw [hyy]
                            unfold NestOk
                            omega
                        case measure => first | exact meas_next hjk | (simp [intOf]; omega))
              ·
                by_cases a5 : x.head ≤ y.head
                ·
                  by_cases a6 : y.stop ≤ x.stop
                  ·
                    first
                    | (exfalso; omega)
                    | (
                        go_wp2_with fail
                        go_roundw
                        case rel =>
                          refine ⟨j + 1, by omega, by go_num, fun j' hj' => ?_, b_al hb2 _⟩
                          rcases Nat.lt_or_ge j' j with c | c
                          · exact HNJ.out j' c
                          · obtain rfl : j' = j := by omega
                            rw [hyy]
                            unfold NestOk
                            omega
                        case measure => first | exact meas_next hjk | (simp [intOf]; omega))
                  ·
                    first
                    | (exfalso; omega)
                    | (
                        go_wp2_with fail
                        go_roundw
                        case rel =>
                          refine ⟨j + 1, by omega, by go_num, fun j' hj' => ?_, b_al hb2 _⟩
                          rcases Nat.lt_or_ge j' j with c | c
                          · exact HNJ.out j' c
                          · obtain rfl : j' = j := by omega
                            rw [hyy]
                            unfold NestOk
                            omega
                        case measure => first | exact meas_next hjk | (simp [intOf]; omega))
                ·
                  first
                  | (exfalso; omega)
                  | (
                      go_wp2_with fail
                      go_roundw
                      case rel =>
                        refine ⟨j + 1, by omega, by go_num, fun j' hj' => ?_, b_al hb2 _⟩
                        rcases Nat.lt_or_ge j' j with c | c
                        · exact HNJ.out j' c
                        · obtain rfl : j' = j := by omega
                          rw [hyy]
                          unfold NestOk
                          omega
                      case measure => first | exact meas_next hjk | (simp [intOf]; omega))
            ·
              by_cases a2 : y.stop ≤ x.head
              ·
                by_cases a3 : y.head ≤ x.head
                ·
                  by_cases a4 : x.stop ≤ y.stop
                  ·
                    first
                    | (exfalso; omega)
                    | (
                        go_wp2_with fail
                        go_roundw
                        case rel =>
                          refine ⟨j + 1, by omega, by go_num, fun j' hj' => ?_, b_al hb2 _⟩
                          rcases Nat.lt_or_ge j' j with c | c
                          · exact HNJ.out j' c
                          · obtain rfl : j' = j := by omega
                            rw [hyy]
                            unfold NestOk
                            omega
                        case measure => first | exact meas_next hjk | (simp [intOf]; omega))
                  ·
                    by_cases a5 : x.head ≤ y.head
                    ·
                      by_cases a6 : y.stop ≤ x.stop
                      ·
                        first
                        | (exfalso; omega)
                        | (
                            go_wp2_with fail
                            go_roundw
                            case rel =>
                              refine ⟨j + 1, by omega, by go_num, fun j' hj' => ?_, b_al hb2 _⟩
                              rcases Nat.lt_or_ge j' j with c | c
                              · exact HNJ.out j' c
                              · obtain rfl : j' = j := by omega
                                rw [hyy]
                                unfold NestOk
                                omega
                            case measure => first | exact meas_next hjk | (simp [intOf]; omega))
                      ·
                        first
                        | (exfalso; omega)
                        | (
                            go_wp2_with fail
                            go_roundw
                            case rel =>
                              refine ⟨j + 1, by omega, by go_num, fun j' hj' => ?_, b_al hb2 _⟩
                              rcases Nat.lt_or_ge j' j with c | c
                              · exact HNJ.out j' c
                              · obtain rfl : j' = j := by omega
                                rw [hyy]
                                unfold NestOk
                                omega
                            case measure => first | exact meas_next hjk | (simp [intOf]; omega))
                    ·
                      first
                      | (exfalso; omega)
                      | (
                          go_wp2_with fail
                          go_roundw
                          case rel =>
                            refine ⟨j + 1, by omega, by go_num, fun j' hj' => ?_, b_al hb2 _⟩
                            rcases Nat.lt_or_ge j' j with c | c
                            · exact HNJ.out j' c
                            · obtain rfl : j' = j := by omega
                              rw [hyy]
                              unfold NestOk
                              omega
                          case measure => first | exact meas_next hjk | (simp [intOf]; omega))
                ·
                  by_cases a5 : x.head ≤ y.head
                  ·
                    by_cases a6 : y.stop ≤ x.stop
                    ·
                      first
                      | (exfalso; omega)
                      | (
                          go_wp2_with fail
                          go_roundw
                          case rel =>
                            refine ⟨j + 1, by omega, by go_num, fun j' hj' => ?_, b_al hb2 _⟩
                            rcases Nat.lt_or_ge j' j with c | c
                            · exact HNJ.out j' c
                            · obtain rfl : j' = j := by omega
                              rw [hyy]
                              unfold NestOk
                              omega
                          case measure => first | exact meas_next hjk | (simp [intOf]; omega))
                    ·
                      first
                      | (exfalso; omega)
                      | (
                          go_wp2_with fail
                          go_roundw
                          case rel =>
                            refine ⟨j + 1, by omega, by go_num, fun j' hj' => ?_, b_al hb2 _⟩
                            rcases Nat.lt_or_ge j' j with c | c
                            · exact HNJ.out j' c
                            · obtain rfl : j' = j := by omega
                              rw [hyy]
                              unfold NestOk
                              omega
                          case measure => first | exact meas_next hjk | (simp [intOf]; omega))
                  ·
                    first
                    | (exfalso; omega)
                    | (
                        go_wp2_with fail
                        go_roundw
                        case rel =>
                          refine ⟨j + 1, by omega, by go_num, fun j' hj' => ?_, b_al hb2 _⟩
                          rcases Nat.lt_or_ge j' j with c | c
                          · exact HNJ.out j' c
                          · obtain rfl : j' = j := by omega
                            rw [hyy]
                            unfold NestOk
                            omega
                        case measure => first | exact meas_next hjk | (simp [intOf]; omega))
              ·
                by_cases a3 : y.head ≤ x.head
                ·
                  by_cases a4 : x.stop ≤ y.stop
                  ·
                    first
                    | (exfalso; omega)
                    | (
                        go_wp2_with fail
                        go_roundw
                        case rel =>
                          refine ⟨j + 1, by omega, by go_num, fun j' hj' => ?_, b_al hb2 _⟩
                          rcases Nat.lt_or_ge j' j with c | c
                          · exact HNJ.out j' c
                          · obtain rfl : j' = j := by omega
                            rw [hyy]
                            unfold NestOk
                            omega
                        case measure => first | exact meas_next hjk | (simp [intOf]; omega))
                  ·
                    by_cases a5 : x.head ≤ y.head
                    ·
                      by_cases a6 : y.stop ≤ x.stop
                      ·
                        first
                        | (exfalso; omega)
                        | (
                            go_wp2_with fail
                            go_roundw
                            case rel =>
                              refine ⟨j + 1, by omega, by go_num, fun j' hj' => ?_, b_al hb2 _⟩
                              rcases Nat.lt_or_ge j' j with c | c
                              · exact HNJ.out j' c
                              · obtain rfl : j' = j := by omega
                                rw [hyy]
                                unfold NestOk
                                omega
                            case measure => first | exact meas_next hjk | (simp [intOf]; omega))
                      ·
                        first
                        | (exfalso; omega)
                        | (
                            have HN := Lib.hid (HNO.out (by unfold NestOk; omega))
                            go_wp2_with fail
                            go_returns
                            exact ⟨outC_no HN.out, b_go (w := w) HBT.out (b_al (Below.refl _ _) _)⟩)
                    ·
                      first
                      | (exfalso; omega)
                      | (
                          have HN := Lib.hid (HNO.out (by unfold NestOk; omega))
                          go_wp2_with fail
                          go_returns
                          exact ⟨outC_no HN.out, b_go (w := w) HBT.out (b_al (Below.refl _ _) _)⟩)
                ·
                  by_cases a5 : x.head ≤ y.head
                  ·
                    by_cases a6 : y.stop ≤ x.stop
                    ·
                      first
                      | (exfalso; omega)
                      | (
                          go_wp2_with fail
                          go_roundw
                          case rel =>
                            refine ⟨j + 1, by omega, by go_num, fun j' hj' => ?_, b_al hb2 _⟩
                            rcases Nat.lt_or_ge j' j with c | c
                            · exact HNJ.out j' c
                            · obtain rfl : j' = j := by omega
                              rw [hyy]
                              unfold NestOk
                              omega
                          case measure => first | exact meas_next hjk | (simp [intOf]; omega))
                    ·
                      first
                      | (exfalso; omega)
                      | (
                          have HN := Lib.hid (HNO.out (by unfold NestOk; omega))
                          go_wp2_with fail
                          go_returns
                          exact ⟨outC_no HN.out, b_go (w := w) HBT.out (b_al (Below.refl _ _) _)⟩)
                  ·
                    first
                    | (exfalso; omega)
                    | (
                        have HN := Lib.hid (HNO.out (by unfold NestOk; omega))
                        go_wp2_with fail
                        go_returns
                        exact ⟨outC_no HN.out, b_go (w := w) HBT.out (b_al (Below.refl _ _) _)⟩)
          · obtain rfl : j = k := by omega
            have HNJ := Lib.hid hnj
            have HB2 := Lib.hid hb2
            have HBT := Lib.hid hbt
            clear hnj hbt hb2
            go_wp2_with fail
            go_roundw
            case measure => first | exact meas_next hkn | (simp [intOf]; omega)
            case rel =>
             refine ⟨j + 1, by omega, by go_num, fun m hm => ?_, fun i j' h1 h2 => ?_, b_go HBE.out (b_go (w := wo) HBI.out HB2.out)⟩
             · rcases Nat.lt_or_ge m j with c | c
               · exact HLP.out m c
               · obtain rfl : m = j := by omega
                 exact hLk
             · rcases Nat.lt_or_ge i j with c | c
               · exact HNS.out i j' h1 c
               · obtain rfl : i = j := by omega
                 rw [hxx]
                 exact HNJ.out j' h1
      · obtain rfl : k = f.ln := by omega
        have HLP := Lib.hid hlp
        have HNS := Lib.hid hns
        have q6 := (hbe.cell (p := ⟨w.heap.size, 6, none⟩) (show w.heap.size < wB.heap.size by omega)).trans d6
        obtain ⟨wo, hwo⟩ : ∃ W, W = wr := ⟨_, rfl⟩
        subst hwo
        have HBO := Lib.hid hbe
        clear hlp hns hbe
        go_wp2_with fail
        go_loopw [111] (fun i wr => ∃ p : Nat, p ≤ f.on ∧ i = .int .i64 p ∧ (∀ p', p' < p → ∀ q ∈ nextsV f p', NextOk f p' q) ∧ Below wB.heap.size wB wr) (fun i _ => f.on - (intOf i).toNat)
        case atStart => exact ⟨0, Nat.zero_le _, rfl, fun p' h => absurd h (by omega), HBO.out⟩
        case round =>
          obtain ⟨p, hp, rfl, hpn, hbe⟩ := hrel
          by_cases hpo : p < f.on
          · have hop := opAt_get (f := f) (p := p) (by have := HLO.out; omega)
            obtain ⟨oo, hoo⟩ : ∃ o, opAt f p = o := ⟨_, rfl⟩
            rw [hoo] at hop
            obtain ⟨oa, hoa⟩ : ∃ a, f.ao = some a := by
              cases e : f.ao with
              | none => exact absurd (HSO.out.2.1 e) (by omega)
              | some a => exact ⟨a, rfl⟩
            rw [hoa]
            have hS2 := (HSO.out.go HBB.out).go hbe
            rw [hoa] at hS2
            have y0 := hS2.at0 OpD.len hop rfl
            have y1 := hS2.atS OpD.len hop (j := 1) (by decide) rfl
            have y2 := hS2.atS OpD.len hop (j := 2) (by decide) rfl
            have y3 := hS2.atS OpD.len hop (j := 3) (by decide) rfl
            have y4 := hS2.atS OpD.len hop (j := 4) (by decide) rfl
            have y5 := hS2.atS OpD.len hop (j := 5) (by decide) rfl
            have y6 := hS2.atS OpD.len hop (j := 6) (by decide) rfl
            have y7 := hS2.atS OpD.len hop (j := 7) (by decide) rfl
            have y8 := hS2.atS OpD.len hop (j := 8) (by decide) rfl
            have y9 := hS2.atS OpD.len hop (j := 9) (by decide) rfl
            have hpI : (p : Int) < f.on := by omega
            have hoab : (oa.add (p * 10)).block < wr.heap.size := by rw [add_blk]; exact (hS2.2.2 oa rfl).2 (by omega)
            have N1 := fun W => c_irNext oo p W (by omega)
            obtain ⟨qs, hqs⟩ : ∃ qs, nextI oo p = qs := ⟨_, rfl⟩
            rw [hqs] at N1
            have hnx : nextsV f p = qs := by unfold nextsV; rw [hoo, hqs]
            have hql : qs.length ≤ 2 := by rw [← hqs]; exact nextI_len _ _
            have HPN := Lib.hid hpn
            have HBE := Lib.hid hbe
            clear hS2 hop hqs hpn
            go_upto_region 21 with fail
            obtain ⟨wi, hwi⟩ : ∃ W, W = (wr.alloc (.cells #[.int .i64 p] 3 (0, 0))).alloc (.cells #[.int .i64 oo.code, .int .i64 oo.a, .int .i64 oo.b, .int .i64 oo.c, .int .i64 oo.d, .int .i64 oo.lo, .int .i64 oo.hi, .int .u8 oo.vk, .int .u64 oo.vb, .string oo.vt] 47 (0, 0)) := ⟨_, rfl⟩
            have kp : wi.heap[wr.heap.size]? = some (.cells #[.int .i64 p] 3 (0, 0)) := by rw [hwi]; exact k_al k_box _
            have ko : wi.heap[wr.heap.size + 1]? = some (.cells #[.int .i64 oo.code, .int .i64 oo.a, .int .i64 oo.b, .int .i64 oo.c, .int .i64 oo.d, .int .i64 oo.lo, .int .i64 oo.hi, .int .u8 oo.vk, .int .u64 oo.vb, .string oo.vt] 47 (0, 0)) := by rw [hwi]; exact k_n1 _ _ _ _
            have hbi : Below wr.heap.size wr wi := by rw [hwi]; exact b_al (b_al (Below.refl _ _) _) _
            have si : wi.heap.size = wr.heap.size + 2 := by rw [hwi, alloc_sz, alloc_sz]
            rw [← hwi]
            have o0 := k_cv ko 0 rfl
            have o1 := k_cv ko 1 rfl
            have o2 := k_cv ko 2 rfl
            have o3 := k_cv ko 3 rfl
            have o4 := k_cv ko 4 rfl
            have o5 := k_cv ko 5 rfl
            have o6 := k_cv ko 6 rfl
            have o7 := k_cv ko 7 rfl
            have o8 := k_cv ko 8 rfl
            have o9 := k_cv ko 9 rfl
            have op0 := k_cv kp 0 rfl
            simp only [List.getElem_toArray, List.getElem_cons_succ, List.getElem_cons_zero] at o0 o1 o2 o3 o4 o5 o6 o7 o8 o9 op0
            have HBI := Lib.hid hbi
            have HKP := Lib.hid kp
            obtain ⟨wr0, hwr0⟩ : ∃ W, W = wr := ⟨_, rfl⟩
            subst hwr0
            clear hwi hbi kp ko hbe y0 y1 y2 y3 y4 y5 y6 y7 y8 y9
            go_wp2_with (go_at_call 39; go_loud (with_reducible refine (N1 _).mono ?_); rintro e w2 ⟨⟨v2, rfl, hI2⟩, hb2⟩; obtain ⟨a118, c118, rfl⟩ := own_shape hI2)
            have HI2 := Lib.hid hI2
            have hs2 := hb2.size
            have HB2 := Lib.hid hb2
            clear hI2 hb2 N1 o0 o1 o2 o3 o4 o5 o6 o7 o8 o9 op0
            go_loopw [120] (fun i w3 => ∃ j : Nat, j ≤ qs.length ∧ i = .int .i64 j ∧ (∀ (j' : Nat) z, j' < j → qs[j']? = some z → NextOk f p z) ∧ Below w2.heap.size w2 w3) (fun i _ => qs.length - (intOf i).toNat)
            case atStart => exact ⟨0, Nat.zero_le _, rfl, fun j' z h => absurd h (by omega), Below.refl _ _⟩
            case round =>
              obtain ⟨j, hj, rfl, hjn, hb3⟩ := hrel
              have hbt : Below w.heap.size w wr := b_go (b_go (b_go (b_go HBB.out HBE.out) HBI.out) HB2.out) hb3
              by_cases hjq : j < qs.length
              · obtain ⟨z, hz⟩ : ∃ z, qs[j]? = some z := ⟨_, List.getElem?_eq_getElem hjq⟩
                rcases (HI2.out.go hb3).form with ⟨_, rfl⟩ | ⟨g1, c1', he1, _, _, hg1, hcell⟩
                · simp at hjq
                cases he1
                have hc := hcell j z hz
                have hjI : (j : Int) < qs.length := by omega
                have hno : ¬ NextOk f p z → ¬ CanF f := fun h hcn => h ((HI.out.1 hcn).2.2.2 p (by have := HLO.out; omega) z (by rw [hnx]; exact List.mem_of_getElem? hz))
                have kp3 := k_go (k_go HKP.out HB2.out) hb3
                have e0 := k_cv kp3 0 rfl
                have d73 := (b_go HBE.out (b_go (w := wr0) HBI.out (HB2.out.trans (hb3.mono hs2)))).cell (p := ⟨w.heap.size, 7, none⟩) (show w.heap.size < wB.heap.size by omega)
                have d7r := d73.trans d7
                simp only [List.getElem_toArray, List.getElem_cons_succ, List.getElem_cons_zero] at e0
                have hp3 : wr0.heap.size < wr.heap.size := by have := hb3.size; omega
                have hp4 : ¬ wr0.heap.size = wr.heap.size := by omega
                have hp5 : ¬ wr.heap.size = wr0.heap.size := by omega
                have hw3 : w.heap.size < wr.heap.size := by have := hbt.size; have := HBO.out.size; have := hb3.size; have := HBE.out.size; omega
                have hw4 : ¬ w.heap.size = wr.heap.size := by omega
                have hw5 : ¬ wr.heap.size = w.heap.size := by omega
                have NC := f_loop f.lo f.ln f.lc f.loops z p wr.heap.size wr0.heap.size (wr.alloc (.cells #[.int .i64 z] 3 (0, 0))) ⟨HLL.out, (HSL.out.go hbt).go (b_al (Below.refl _ _) _)⟩ hln k_box (k_al kp3 _)
                have HNO := Lib.hid hno
                have HJN := Lib.hid hjn
                have HBT := Lib.hid hbt
                clear hno hjn hbt hcell kp3 d73
                by_cases z0 : z < 0
                · have HN := Lib.hid (HNO.out (fun h => by have := h.1; omega))
                  go_wp2_with fail
                  all_goals go_returns
                  all_goals exact ⟨outC_no HN.out, b_al HBT.out _⟩
                · by_cases z1 : (f.on : Int) ≤ z
                  · have HN := Lib.hid (HNO.out (fun h => by have := h.2.1; have := HLO.out; omega))
                    go_wp2_with fail
                    all_goals go_returns
                    all_goals exact ⟨outC_no HN.out, b_al HBT.out _⟩
                  · by_cases z2 : z ≤ p
                    · obtain ⟨R, hR⟩ : ∃ R, f.loops.any (backB z p) = R := ⟨_, rfl⟩
                      rw [hR] at NC
                      cases R with
                      | false =>
                        have HN := Lib.hid (HNO.out (fun h => by have := h.2.2 z2; rw [hR] at this; cases this))
                        go_wp2_with (go_at_call 40; go_loud (with_reducible refine NC.mono ?_); rintro e w5 ⟨rfl, hb5⟩)
                        all_goals go_returns
                        all_goals exact ⟨outC_no HN.out, b_go (b_al HBT.out _) hb5⟩
                      | true =>
                        have hok : NextOk f p z := ⟨by omega, by have := HLO.out; omega, fun _ => hR⟩
                        have HOK := Lib.hid hok
                        clear hok hR
                        go_wp2_with (go_at_call 40; go_loud (with_reducible refine NC.mono ?_); rintro e w5 ⟨rfl, hb5⟩)
                        go_roundw
                        case rel =>
                          refine ⟨j + 1, hjq, by go_num, fun j' y hj' hy => ?_, b_go (b_al hb3 _) hb5⟩
                          rcases Nat.lt_or_ge j' j with c | c
                          · exact HJN.out j' y c hy
                          · obtain rfl : j' = j := by omega
                            rw [hz] at hy
                            cases hy
                            exact HOK.out
                        case measure => first | exact meas_next hjq | (simp [intOf]; omega)
                    · have hok : NextOk f p z := ⟨by omega, by have := HLO.out; omega, fun h => absurd h z2⟩
                      have HOK := Lib.hid hok
                      clear hok NC
                      go_wp2_with fail
                      go_roundw
                      case rel =>
                        refine ⟨j + 1, hjq, by go_num, fun j' y hj' hy => ?_, b_al hb3 _⟩
                        rcases Nat.lt_or_ge j' j with c | c
                        · exact HJN.out j' y c hy
                        · obtain rfl : j' = j := by omega
                          rw [hz] at hy
                          cases hy
                          exact HOK.out
                      case measure => first | exact meas_next hjq | (simp [intOf]; omega)
              · obtain rfl : j = qs.length := by omega
                have HJN := Lib.hid hjn
                have HB3 := Lib.hid hb3
                clear hjn hb3 hbt
                go_wp2_with fail
                go_roundw
                case measure => first | exact meas_next hpo | (simp [intOf]; omega)
                case rel =>
                  refine ⟨p + 1, by omega, by go_num, fun p' hp' q hq => ?_, b_go HBE.out (b_go (w := wr0) HBI.out (HB2.out.trans (HB3.out.mono hs2)))⟩
                  rcases Nat.lt_or_ge p' p with c | c
                  · exact HPN.out p' c q hq
                  · obtain rfl : p' = p := by omega
                    rw [hnx] at hq
                    obtain ⟨i, hi, e⟩ := List.mem_iff_getElem.1 hq
                    exact HJN.out i q hi (by rw [← e]; exact List.getElem?_eq_getElem hi)
          · obtain rfl : p = f.on := by omega
            have hyes : CanF f := HI.out.2 ⟨by have := HLO.out; omega, fun m hm => HLP.out m (by have := HLL.out; omega), fun i j h1 h2 => HNS.out i j h1 (by have := HLL.out; omega), fun p' hp' => hpn p' (by have := HLO.out; omega)⟩
            have HY := Lib.hid hyes
            have HBE := Lib.hid hbe
            clear hyes hpn hbe
            go_wp2_with fail
            go_returns
            exact ⟨outC_yes HY.out, b_go HBB.out HBE.out⟩
end Go.Proofs.Ytmnaeoljpajomaa.H
