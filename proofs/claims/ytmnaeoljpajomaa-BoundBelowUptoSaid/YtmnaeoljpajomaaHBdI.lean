/- Contract of bound's Order: codes such that each stands behind those that it calls. Condition: sizes within reach. -/
import Derived.Test.YtmnaeoljpajomaaHBdH
import Derived.Laws.MakeOwn
namespace Go.Proofs.Ytmnaeoljpajomaa.H
set_option linter.unusedVariables false
set_option linter.unusedSimpArgs false
open Go.RowKit Go.Proofs.Ytmnaeoljpajomaa.Plain Go.Sort
set_option maxHeartbeats 3200000
set_option maxRecDepth 100000
attribute [local go_sem] ext_from ext_bits cell_isSome un_neg_float
/-- Can a code come next: it is not out, and all that it calls are? -/
def readyB (ls : List (List Int)) (out : List Int) (i : Nat) : Bool := !(out.contains (i : Int)) && !((ls.getD i []).any fun x => !(out.contains x))
/-- The code that comes next. -/
def nextV (ls : List (List Int)) (out : List Int) : Option Nat := (List.range ls.length).find? (readyB ls out)
/-- So many more codes. -/
def orderGo (ls : List (List Int)) : Nat → List Int → Option (List Int)
  | 0, out => some out
  | k + 1, out => match nextV ls out with
    | none => none
    | some i => orderGo ls k (out ++ [(i : Int)])
/-- The order, or the error's number. -/
def orderV (ls : List (List Int)) : List Int × Int :=
  if ls.any (fun l => l.any (outB ls.length)) then ([], 1) else match orderGo ls ls.length [] with
    | none => ([], 220)
    | some out => (out, 0)
theorem next_some {ls : List (List Int)} {out : List Int} {m : Nat} (hm : m < ls.length) (hno : ∀ j, j < m → readyB ls out j = false) (hy : readyB ls out m = true) : nextV ls out = some m := by
  unfold nextV
  rw [List.find?_range_eq_some]
  exact ⟨hy, List.mem_range.2 hm, fun j hj => by rw [hno j hj]; rfl⟩
theorem next_none {ls : List (List Int)} {out : List Int} (hno : ∀ j, j < ls.length → readyB ls out j = false) : nextV ls out = none := by
  unfold nextV
  rw [List.find?_range_eq_none]
  intro j hj
  rw [hno j hj]
  rfl
theorem ready_at {ls : List (List Int)} {out zs : List Int} {m : Nat} (h : ls[m]? = some zs) : readyB ls out m = (!(out.contains (m : Int)) && !(zs.any fun x => !(out.contains x))) := by
  unfold readyB
  rw [List.getD_eq_getElem?_getD, h]
  rfl
/-- Which codes are out. -/
def doneL (n : Nat) (out : List Int) : List Bool := (List.range n).map fun (j : Nat) => out.contains (j : Int)
def doneA (n : Nat) (out : List Int) : Array Value := ((doneL n out).map Value.bool).toArray
theorem doneL_len (n : Nat) (out : List Int) : (doneL n out).length = n := by simp [doneL]
theorem doneL_get {n : Nat} {out : List Int} {m : Nat} (hm : m < n) : (doneL n out)[m]? = some (out.contains (m : Int)) := by simp [doneL, hm]
theorem doneA_get {n : Nat} {out : List Int} {m : Nat} (hm : m < n) : (doneA n out)[m]? = some (.bool (out.contains (m : Int))) := by simp [doneA, doneL, hm]
theorem doneA_none (n : Nat) : madeCells (Value.bool false).cells (n * 1) = doneA n [] := by
  apply Array.ext_getElem?
  intro i
  rcases Nat.lt_or_ge i n with c | c
  · rw [doneA_get c]
    simp [madeCells, Value.cells, c]
    exact Nat.mod_one i ▸ rfl
  · rw [Array.getElem?_eq_none (by simp [madeCells]; omega), Array.getElem?_eq_none (by simp [doneA, doneL]; omega)]
theorem doneA_set {n : Nat} {out : List Int} {m : Nat} : (doneA n out).setIfInBounds m (.bool true) = doneA n (out ++ [(m : Int)]) := by
  apply Array.ext_getElem?
  intro i
  rcases Nat.lt_or_ge i n with c | c
  · rw [doneA_get c, Array.getElem?_setIfInBounds]
    by_cases h : m = i
    · subst h
      rw [if_pos rfl, if_pos (by simp [doneA, doneL]; omega)]
      simp
    · rw [if_neg h, doneA_get c]
      have : ¬ ((i : Int) = (m : Int)) := by omega
      simp [this]
  · rw [Array.getElem?_eq_none (by simp [doneA, doneL]; omega), Array.getElem?_eq_none (by simp [doneA, doneL]; omega)]
theorem k_se {w : World} {b i : Nat} {cs : Array Value} {t : TypeId} {u : Value} (h : w.heap[b]? = some (.cells cs t (0, 0))) : (w.setCell ⟨b, i, none⟩ u).heap[b]? = some (.cells (cs.setIfInBounds i u) t (0, 0)) := by
  simp [World.setCell, Array.getElem?_modify, h]
theorem k_ot {w : World} {g b i : Nat} {o : Obj} {v : Value} (h : w.heap[g]? = some o) (hne : g ≠ b) : (w.setCell ⟨b, i, none⟩ v).heap[g]? = some o := by rw [Below.heap_setCell _ _ _ _ hne]; exact h
theorem Lists.form {w : World} {B : Nat} {v : Value} {ls : List (List Int)} (h : Lists w B v ls) : ∃ ao c, v = .slice ao ls.length c ∧ ∀ (i : Nat) zs, ls[i]? = some zs → ∃ g a k, ao = some ⟨g, 0, none⟩ ∧ g < w.heap.size ∧ w.cell? ⟨g, i, none⟩ = some (.slice a zs.length k) ∧ Ints w 0 (.slice a zs.length k) zs := by
  obtain ⟨vs, h1, h2, h3⟩ := h
  rcases h1.2 with ⟨rfl, e⟩ | ⟨g, cap, cur, rfl, e2, e3, e4⟩
  · refine ⟨none, 0, by rw [e], fun i zs hz => ?_⟩
    rw [List.getElem?_eq_none (by omega)] at hz
    cases hz
  · refine ⟨some ⟨g, 0, none⟩, cap, rfl, fun i zs hz => ?_⟩
    have hi : i < ls.length := by
      rcases Nat.lt_or_ge i ls.length with c | c
      · exact c
      · rw [List.getElem?_eq_none c] at hz; cases hz
    obtain ⟨u, hu⟩ : ∃ u, vs[i]? = some u := ⟨_, List.getElem?_eq_getElem (by omega)⟩
    have hI := h3 i u zs hu hz
    have hc := h1.cells (g := g) rfl i u hu
    rw [add_pl] at hc
    obtain ⟨a, k, rfl⟩ := own_shape hI
    exact ⟨g, a, k, rfl, k_lt e3, hc, hI⟩
/-- An order is answered. -/
def OutO (e : Ending) (r : List Int × Int) (w : World) : Prop := ∃ v, e = .returned (.tuple #[v, .int .i64 r.2]) ∧ Ints w 0 v r.1
theorem outO {v : Value} {x : Int} {r : List Int × Int} {w : World} (h1 : x = r.2) (h2 : Ints w 0 v r.1) : OutO (.returned (.tuple #[v, .int .i64 x])) r w := ⟨v, by rw [h1], h2⟩
theorem mkB (n : Nat) (hn : n * 104 ≤ 140737488355328) (W : World) : (Instr.makeSlice 65 (.int .i64 n) (.int .i64 n)).run Try.prog W = .ok (.slice (some ⟨W.heap.size, 0, none⟩) n n) (W.alloc (.cells (doneA n []) 4)) := by
  obtain ⟨i0, hi, hz0, hz1, hz2⟩ := info_parts (show (Try.prog.info? 4).map (fun i => (i.zero, i.size, i.bytes)) = some (some (.bool false), 1, 1) by kernel_rfl)
  have h := run_make (P := Try.prog) W 65 4 i0 _ Try.underlying65 hi hz0 .i64 .i64 n n (by omega) (by omega) (by rw [hz2]; omega) (by omega)
  rw [hz1, Int.toNat_natCast, doneA_none] at h
  exact h
theorem waits_at {w : World} {d b n : Nat} {out zs : List Int} (hd : w.heap[d]? = some (.cells (doneA n out) 4 (0, 0))) (hb : w.heap[b]? = some (.cells #[.slice (some ⟨d, 0, none⟩) n n] 65 (0, 0))) (hr : zs.any (outB n) = false) : ∀ x ∈ zs, Calls Try.prog 33 #[.int .i64 x, .pointer (some ⟨b, 0, none⟩)] w fun e w' => e = .returned (.bool (!(out.contains x))) ∧ w' = w := by
  intro x hx
  have h1 := List.any_eq_false.1 hr x hx
  simp [outB] at h1
  obtain ⟨m, rfl⟩ : ∃ m : Nat, x = m := ⟨x.toNat, by omega⟩
  have hm : m < n := by omega
  have h2 := c_order1 (doneL n out) m b d n w (by rw [doneL_len]; exact hb) (out.contains (m : Int)) (doneL_get hm) (k_cv hd m (doneA_get hm))
  exact h2
theorem k_gr {w w1 : World} {g B k n : Nat} {o : Obj} {T : TypeId} {u : Value} {ys : List Value} (h : w.heap[g]? = some o) (hu : w.ownsRow B T k u n ys) (hg : g < B) (hgr : w.grownBy w1 u.ownBlock) : w1.heap[g]? = some o := by
  refine (hgr.block g (k_lt h) (fun c => ?_)).trans h
  rcases hu.2 with ⟨rfl, _⟩ | ⟨g2, cap2, cur2, rfl, f2, f3, _⟩
  · cases c
  · have : g = g2 := Option.some.inj c
    omega
theorem orderV_bad {ls : List (List Int)} {zs : List Int} {k n : Nat} (hn : ls.length = n) (hz : ls[k]? = some zs) (h : zs.any (outB n) = true) : orderV ls = ([], 1) := by
  unfold orderV
  rw [hn, if_pos (List.any_eq_true.2 ⟨zs, List.mem_of_getElem? hz, h⟩)]
theorem orderV_good {ls : List (List Int)} {n : Nat} (hn : ls.length = n) (h : ∀ j zs, j < n → ls[j]? = some zs → zs.any (outB n) = false) : orderV ls = match orderGo ls n [] with
    | none => ([], 220)
    | some out => (out, 0) := by
  unfold orderV
  rw [hn, if_neg]
  intro c
  obtain ⟨zs, hz, hx⟩ := List.any_eq_true.1 c
  obtain ⟨j, hj, e⟩ := List.mem_iff_getElem.1 hz
  rw [h j zs (by omega) (by rw [← e]; exact List.getElem?_eq_getElem hj)] at hx
  cases hx
theorem orderV_none {ls : List (List Int)} {n : Nat} {r : List Int × Int} (h : r = match orderGo ls n [] with | none => ([], 220) | some out => (out, 0)) (hg : orderGo ls n [] = none) : r = ([], 220) := by rw [h, hg]
theorem orderV_some {ls : List (List Int)} {n : Nat} {out : List Int} {r : List Int × Int} (h : r = match orderGo ls n [] with | none => ([], 220) | some out => (out, 0)) (hg : orderGo ls n [] = some out) : r = (out, 0) := by rw [h, hg]
theorem orderGo_succ (ls : List (List Int)) (k : Nat) (out : List Int) : orderGo ls (k + 1) out = match nextV ls out with
    | none => none
    | some i => orderGo ls k (out ++ [(i : Int)]) := rfl
theorem go_next {ls : List (List Int)} {n k m : Nat} {out : List Int} (hk : k < n) (h : nextV ls out = some m) : orderGo ls (n - k) out = orderGo ls (n - (k + 1)) (out ++ [(m : Int)]) := by
  have e : n - k = (n - (k + 1)) + 1 := by omega
  rw [e, orderGo_succ, h]
theorem go_stop {ls : List (List Int)} {n k : Nat} {out : List Int} (hk : k < n) (h : nextV ls out = none) : orderGo ls (n - k) out = none := by
  have e : n - k = (n - (k + 1)) + 1 := by omega
  rw [e, orderGo_succ, h]
theorem ints_add {w : World} {B n : Nat} {v : Value} {zs : List Int} {z : Int} (h : w.ownsRow B 3 1 v n (zs.map encI ++ [.int .i64 z])) (hn : n = zs.length + 1) : Ints w B v (zs ++ [z]) := ints_of h (by simpa using hn) (by simp)
theorem c_Order (ao : Option Addr) (n c : Nat) (fs : List FlatD) (w : World) (hC : Codes w ao n fs) (hs : ∀ f ∈ fs, FlatSz f) (hbig : n * 104 ≤ 140737488355328) :
    Calls Try.prog 18 #[.slice ao n c] w fun e w' => OutO e (orderV (allV fs)) w' ∧ Below w.heap.size w w' := by
  obtain ⟨i0, hi, hz0, hz1, hz2⟩ := info_parts (show (Try.prog.info? 3).map (fun i => (i.zero, i.size, i.bytes)) = some (some (.int .i64 0), 1, 8) by kernel_rfl)
  have MK := mkB n hbig
  have N1 := c_calls ao n c fs w hC hs hbig
  have hsz : ∀ l ∈ allV fs, l.length ≤ 140737488355328 := by
    intro l hl
    obtain ⟨f, hf, rfl⟩ := List.mem_map.1 hl
    have h1 := callsV_len f.ops
    have h2 := (hC.2.2 f hf).1.1
    have h3 := (hs f hf).1
    omega
  have hln : (allV fs).length = n := by rw [allV_len, hC.1]
  obtain ⟨ls, hls⟩ : ∃ l, allV fs = l := ⟨_, rfl⟩
  rw [hls] at N1 hsz hln ⊢
  clear hC hs hls
  have HB := Lib.hid hbig
  have hn63 : n < 4611686018427387904 := by omega
  clear hbig
  go_enter Try.func18, Try.ntmps18
  go_wp2_with (go_at_call 21; go_loud (with_reducible refine N1.mono ?_); rintro e w1 ⟨⟨v1, rfl, hL⟩, hb1⟩; obtain ⟨al, cl, rfl, hform⟩ := hL.form; rw [hln])
  clear N1
  go_loopw [15] (fun i wr => ∃ k : Nat, k ≤ n ∧ i = .int .i64 k ∧ (∀ j zs, j < k → ls[j]? = some zs → zs.any (outB n) = false) ∧ Below w1.heap.size w1 wr) (fun i _ => n - (intOf i).toNat)
  case atStart => exact ⟨0, Nat.zero_le _, rfl, fun j zs h => absurd h (by omega), Below.refl _ _⟩
  case round =>
    obtain ⟨k, hk, rfl, hall, hbel⟩ := hrel
    by_cases hkn : k < n
    · obtain ⟨zs, hz⟩ : ∃ zs, ls[k]? = some zs := ⟨_, List.getElem?_eq_getElem (by omega)⟩
      obtain ⟨g, a, kc, rfl, hgl, hcell, hI⟩ := hform k zs hz
      have hc := (hbel.cell (p := ⟨g, k, none⟩) hgl).trans hcell
      have N2 := c_thereB 0 (.slice a zs.length kc) zs n wr (hI.go hbel) (hsz zs (List.mem_of_getElem? hz))
      have HA := Lib.hid hall
      have HF := Lib.hid hform
      clear hall hform hcell hI
      rcases Bool.eq_false_or_eq_true (zs.any (outB n)) with hany | hany
      · have hO := orderV_bad hln hz hany
        rw [hany] at N2
        go_wp2_with (go_at_call 32; go_loud (with_reducible refine N2.mono ?_); rintro e w2 ⟨rfl, hb2⟩)
        go_returns
        exact ⟨outO (by rw [hO]) (by rw [hO]; exact World.ownsRow_nil _ _ _ _), b_go (hb1.trans (hbel.mono hb1.size)) hb2⟩
      · rw [hany] at N2
        go_wp2_with (go_at_call 32; go_loud (with_reducible refine N2.mono ?_); rintro e w2 ⟨rfl, hb2⟩)
        go_roundw
        case rel =>
          refine ⟨k + 1, hkn, by go_num, fun j ys hj hy => ?_, b_go hbel hb2⟩
          rcases Nat.lt_or_ge j k with c | c
          · exact HA.out j ys c hy
          · obtain rfl : j = k := by omega
            rw [hz] at hy
            cases hy
            exact hany
        case measure => first | exact meas_next hkn | (simp [intOf]; omega)
    · obtain rfl : k = n := by omega
      have hOg := Lib.hid (orderV_good hln hall)
      obtain ⟨wa, hwa⟩ : ∃ x, x = wr := ⟨_, rfl⟩
      subst hwa
      have HF : ∀ (i : Nat) zs, ls[i]? = some zs → ∃ g a c, al = some ⟨g, 0, none⟩ ∧ g < wa.heap.size ∧ wa.cell? ⟨g, i, none⟩ = some (.slice a zs.length c) ∧ Ints wa 0 (.slice a zs.length c) zs ∧ zs.any (outB k) = false := by
        intro i zs hz
        obtain ⟨g, a, c, e1, e2, e3, e4⟩ := hform i zs hz
        have hi : i < k := by
          rcases Nat.lt_or_ge i k with c | c
          · exact c
          · rw [List.getElem?_eq_none (by omega)] at hz; cases hz
        exact ⟨g, a, c, e1, Nat.lt_of_lt_of_le e2 hbel.size, (hbel.cell (p := ⟨g, i, none⟩) e2).trans e3, e4.go hbel, hall i zs hi hz⟩
      have hbw : Below w.heap.size w wa := hb1.trans (hbel.mono hb1.size)
      clear hform hall hbel hkn hk hb1 hL
      have HFH := Lib.hid HF
      clear HF
      go_wp2_with fail
      go_loopw [7, 31] (fun u i w2 => ∃ (j : Nat) (out : List Int), j ≤ k ∧ i = .int .i64 j ∧ out.length = j ∧ Ints w2 (wa.heap.size + 2) u out ∧ orderGo ls (k - j) out = orderGo ls k [] ∧ w2.heap[wa.heap.size]? = some (.cells (doneA k out) 4 (0, 0)) ∧ w2.heap[wa.heap.size + 1]? = some (.cells #[.slice (some ⟨wa.heap.size, 0, none⟩) k k] 65 (0, 0)) ∧ Below wa.heap.size wa w2) (fun _ i _ => k - (intOf i).toNat)
      case atStart => exact ⟨0, [], Nat.zero_le _, rfl, rfl, World.ownsRow_nil _ _ _ _, rfl, k_al (k_new rfl) _, k_new (by simp), b_al (b_al (Below.refl _ _) _) _⟩
      case round =>
        obtain ⟨j, out, hj, rfl, hol, hown, hgo, hd, hbx, hbe⟩ := hrel
        by_cases hjk : j < k
        · go_wp2_with fail
          go_loop [10] (fun x => ∃ m : Nat, m ≤ k ∧ x = .int .i64 m ∧ ∀ i, i < m → readyB ls out i = false) (fun x => k - (intOf x).toNat)
          case atStart => exact ⟨0, Nat.zero_le _, rfl, fun i h => absurd h (by omega)⟩
          case round =>
            obtain ⟨m, hm, rfl, hno⟩ := hrel
            by_cases hmk : m < k
            · obtain ⟨zs, hz⟩ : ∃ zs, ls[m]? = some zs := ⟨_, List.getElem?_eq_getElem (by omega)⟩
              obtain ⟨g, a, c, rfl, hgl, hcell, hI, hrange⟩ := HFH.out m zs hz
              have q0 := (hbe.cell (p := ⟨g, m, none⟩) hgl).trans hcell
              have q1 := k_cv hd m (doneA_get hmk)
              have q2 := k_cv hbx 0 rfl
              have q3 := k_fr hd m
              simp only [List.getElem_toArray, List.getElem_cons_succ, List.getElem_cons_zero] at q2
              have hready := ready_at (out := out) hz
              have hw : wrap64 ((m : Int) + 1) = m + 1 := by unfold wrap64; omega
              have N3 := f_waits 0 (.slice a zs.length c) (.pointer (some ⟨wa.heap.size + 1, 0, none⟩)) zs (fun x => !(out.contains x)) wr (hI.go hbe) (hsz zs (List.mem_of_getElem? hz)) (waits_at hd hbx hrange)
              clear hI hcell
              have HNO := Lib.hid hno
              clear hno
              have hstep : readyB ls out m = false → ∀ i, i < m + 1 → readyB ls out i = false := by
                intro h i hi
                rcases Nat.lt_or_ge i m with c | c
                · exact HNO.out i c
                · obtain rfl : i = m := by omega
                  exact h
              rcases Bool.eq_false_or_eq_true (out.contains (m : Int)) with ho | ho
              · rw [ho] at q1 hready
                have hst := hstep (by rw [hready]; rfl)
                clear hstep hready ho
                go_wp2_with fail
                exact ⟨⟨m + 1, hmk, by go_num, hst⟩, (by first | exact meas_next hmk | (rw [hw]; exact meas_next hmk))⟩
              · rw [ho] at q1 hready
                obtain ⟨R, hR⟩ : ∃ R, (zs.any fun x => !(out.contains x)) = R := ⟨_, rfl⟩
                rw [hR] at hready N3
                cases R with
                | true =>
                  have hst := hstep (by rw [hready]; rfl)
                  clear hstep hready ho
                  go_wp2_with (go_at_call 34; go_loud (with_reducible refine N3.mono ?_); rintro e w3 ⟨rfl, rfl⟩)
                  exact ⟨⟨m + 1, hmk, by go_num, hst⟩, (by first | exact meas_next hmk | (rw [hw]; exact meas_next hmk))⟩
                | false =>
                  have hnx : nextV ls out = some m := next_some (by omega) HNO.out (by rw [hready]; rfl)
                  have hgn := go_next hjk hnx
                  clear hstep hready HNO hnx
                  have hne : ¬ (m : Int) = k := by omega
                  have hlt : (m : Int) < k := by omega
                  go_wp2_with (first | (go_at_call 34; go_loud (with_reducible refine N3.mono ?_); rintro e w3 ⟨rfl, rfl⟩) | (at_builtin; go_loud (refine wpList_append_own _ rfl _ _ 27 rfl (wa.heap.size + 2) 3 i0 _ 1 8 Try.underlying27 hi hz0 hz1 hz2 rfl (by decide) _ _ _ rfl ((own_set hown (by omega)).alloc _) ⟨w3.heap.size, 0, none⟩ 1 1 [.int .i64 m] rfl rfl ?c1 ?c2 ?c3 ?c4 ?c5 ?_)))
                  case c1 =>
                    intro i u hu
                    rw [add_pl]
                    exact (k_cell (k_new (w := w3.setCell ⟨wa.heap.size, m, none⟩ (.bool true)) (by simp)) i).trans (by simpa using hu)
                  case c2 => intro u hu; obtain rfl := List.mem_singleton.1 hu; rfl
                  case c3 => have := HB.out; unfold maxLen; omega
                  case c4 => have := HB.out; omega
                  case c5 => have h1 := k_lt hbx; simp; omega
                  intro v' w4 hown' hgrow hnil
                  have hownW := World.ownsRow.alloc (own_set (b := wa.heap.size) (i := m) (u := .bool true) hown (by omega)) (.cells #[.int .i64 m] 3 (0, 0))
                  have hd4 : w4.heap[wa.heap.size]? = some (.cells (doneA k (out ++ [(m : Int)])) 4 (0, 0)) := k_gr (k_al (by rw [← doneA_set]; exact k_se hd) _) hownW (by omega) hgrow
                  have hb4 : w4.heap[wa.heap.size + 1]? = some (.cells #[.slice (some ⟨wa.heap.size, 0, none⟩) k k] 65 (0, 0)) := k_gr (k_al (k_ot hbx (by omega)) _) hownW (by omega) hgrow
                  have hbe4 : Below wa.heap.size wa w4 := Below.grown (row := u7.ownBlock) (b_al (b_st hbe (Nat.le_refl _) _) _) hgrow (by have h1 := k_lt hbx; simp; omega) (fun q hq => by have := (World.ownsRow.lt hown q hq).1; omega)
                  have hI4 : Ints w4 (wa.heap.size + 2) v' (out ++ [(m : Int)]) := ints_add hown' (by omega)
                  have HI4 := Lib.hid hI4
                  have HD4 := Lib.hid hd4
                  have HB4 := Lib.hid hb4
                  clear hI4 hd4 hb4 hownW hgrow hown' hown hd hbx hbe q0 q1 q2 hgl hrange N3
                  go_wp2
                  go_roundw
                  case rel => exact ⟨j + 1, out ++ [(m : Int)], hjk, by go_num, by simp [hol], HI4.out, by rw [← hgn]; exact hgo, HD4.out, HB4.out, hbe4⟩
                  case measure => first | exact meas_next hjk | (simp [intOf]; omega)
            · obtain rfl : m = k := by omega
              have hOn := Lib.hid (orderV_none hOg.out (hgo ▸ go_stop hjk (next_none (fun i hi => hno i (by omega)))))
              clear hno
              go_wp2_with fail
              go_returns
              exact ⟨outO (by rw [hOn.out]) (by first | exact World.ownsRow_nil _ _ _ _ | (rw [hOn.out]; exact World.ownsRow_nil _ _ _ _)), b_go hbw hbe⟩
        · obtain rfl : j = k := by omega
          rw [Nat.sub_self] at hgo
          have hOs := Lib.hid (orderV_some hOg.out hgo.symm)
          have HI := Lib.hid hown
          clear hown
          go_wp2_with fail
          go_returns
          exact ⟨outO (by rw [hOs.out]) (by first | exact own_low HI.out (Nat.zero_le _) | (rw [hOs.out]; exact own_low HI.out (Nat.zero_le _))), b_go hbw hbe⟩
end Go.Proofs.Ytmnaeoljpajomaa.H
