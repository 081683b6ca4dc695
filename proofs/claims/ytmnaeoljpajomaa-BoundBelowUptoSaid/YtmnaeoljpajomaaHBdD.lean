/- Contracts of the document's has, Calls and called. Condition: the lists and instructions lie in memory. -/
import Derived.Test.YtmnaeoljpajomaaHBdC
import Derived.Deep.QuietTactic
import Derived.BigQuiet
namespace Go.Proofs.Ytmnaeoljpajomaa.H
set_option linter.unusedVariables false
set_option linter.unusedSimpArgs false
open Go.RowKit Go.Proofs.Ytmnaeoljpajomaa.Plain Go.Sort
set_option maxHeartbeats 3200000
set_option maxRecDepth 100000
attribute [local go_sem] ext_from ext_bits cell_isSome un_neg_float
theorem alloc_sz (w : World) (o : Obj) : (w.alloc o).heap.size = w.heap.size + 1 := by simp
theorem add_off (g m j : Nat) : (⟨g, m, none⟩ : Addr).add j = ⟨g, m + j, none⟩ := by
  unfold Addr.add
  split
  · rename_i h; subst h; rfl
  · rfl
theorem own_dn {w : World} {B k n : Nat} {T : TypeId} {v : Value} {xs : List Value} (h : w.ownsRow B T k v n xs) (q : Nat) : (w.drewN q).ownsRow B T k v n xs := h
theorem b_dn {B : Nat} {a w : World} (h : Below B a w) (q : Nat) : Below B a (w.drewN q) := ⟨h.os, h.tape, h.output, h.size, h.block⟩
theorem Ints.form {w : World} {B : Nat} {v : Value} {zs : List Int} (h : Ints w B v zs) : v = .slice none 0 0 ∧ zs = [] ∨ ∃ g c, v = .slice (some ⟨g, 0, none⟩) zs.length c ∧ zs.length ≤ c ∧ B ≤ g ∧ g < w.heap.size ∧ ∀ i z, zs[i]? = some z → w.cell? ⟨g, i, none⟩ = some (.int .i64 z) := by
  by_cases hv : v = .slice none 0 0
  · subst hv
    exact .inl ⟨rfl, List.eq_nil_of_length_eq_zero (nil_ints h).1⟩
  · obtain ⟨g, cap, rfl, hg, hgl, hn, hm, hl, hH⟩ := Go.Lib.holds_of_ownsRow h hv
    refine .inr ⟨g, cap, rfl, hn, hg, hgl, fun i z hz => ?_⟩
    have hi : i < zs.length := by
      rcases Nat.lt_or_ge i zs.length with c | c
      · exact c
      · rw [List.getElem?_eq_none c] at hz; cases hz
    have := (hH i (by simpa using hi)).1
    rw [Nat.zero_add] at this
    rw [this]
    have e : zs[i] = z := by rw [List.getElem?_eq_getElem hi] at hz; exact Option.some.inj hz
    simp [hi, e]
theorem r_has (B : Nat) (v : Value) (zs : List Int) (x : Int) (w : World) (h : Ints w B v zs) (hsz : zs.length ≤ 140737488355328) : Calls Try.prog 31 #[v, .int .i64 x] w fun e w' => e = .returned (.bool (zs.contains x)) ∧ w' = w := by
  rcases h.form with ⟨rfl, rfl⟩ | ⟨g, c, rfl, hcap, hg, hgl, hcell⟩
  · go_enter Try.func31, Try.ntmps31
    go_wp2_with fail
    go_loop [5] (fun i => i = .int .i64 0) (fun i => 0)
    case atStart => rfl
    case round =>
      subst hrel
      go_wp2
      go_ret
      simp
  · clear h
    go_enter Try.func31, Try.ntmps31
    go_wp2_with fail
    go_loop [5] (fun i => ∃ k : Nat, k ≤ zs.length ∧ i = .int .i64 k ∧ ∀ j z, j < k → zs[j]? = some z → z ≠ x) (fun i => zs.length - (intOf i).toNat)
    case atStart => exact ⟨0, Nat.zero_le _, rfl, fun j z h => absurd h (by omega)⟩
    case round =>
      obtain ⟨k, hk, rfl, hno⟩ := hrel
      by_cases hkn : k < zs.length
      · obtain ⟨z, hz⟩ : ∃ z, zs[k]? = some z := ⟨_, List.getElem?_eq_getElem hkn⟩
        have hc := hcell k z hz
        have hw : wrap64 ((k : Int) + 1) = k + 1 := by unfold wrap64; omega
        have HC := Lib.hid hcell
        have HNO := Lib.hid hno
        clear hcell hno
        go_wp2_with fail
        · go_ret
          have hm : x ∈ zs := by
            have e : z = x := by simpa using (by assumption : (z == x) = true)
            rw [← e]
            exact List.mem_of_getElem? hz
          simp [hm]
        · have hne : z ≠ x := by simpa using (by assumption : (z == x) = false)
          refine ⟨⟨k + 1, by omega, by go_num, fun j y hj hy => ?_⟩, by simp [intOf]; omega⟩
          rcases Nat.lt_or_ge j k with c | c
          · exact HNO.out j y c hy
          · obtain rfl : j = k := by omega
            rw [hz] at hy
            cases hy
            exact hne
      · obtain rfl : k = zs.length := by omega
        have hm : ¬ x ∈ zs := by
          intro hm
          obtain ⟨i, hi, e⟩ := List.mem_iff_getElem.1 hm
          exact hno i zs[i] hi (List.getElem?_eq_getElem hi) e
        clear hcell hno
        go_wp2
        go_ret
        simp [hm]
/-- A number put into a sorted list, if it is not there. -/
def insU (l : List Int) (b : Int) : List Int := if l.contains b then l else l.takeWhile (· < b) ++ b :: l.dropWhile (· < b)
theorem cut_at (l : List Int) (b : Int) : ∀ (k : Nat), (∀ i z, i < k → l[i]? = some z → z < b) → k ≤ l.length → (k = l.length ∨ ∃ z, l[k]? = some z ∧ ¬ z < b) → l.takeWhile (· < b) = l.take k ∧ l.dropWhile (· < b) = l.drop k := by
  induction l with
  | nil => intro k h hk hx; simp at hk; subst hk; exact ⟨rfl, rfl⟩
  | cons y l ih =>
    intro k h hk hx
    cases k with
    | zero =>
      rcases hx with hx | ⟨z, hz, hn⟩
      · cases hx
      · simp at hz
        subst hz
        simp [List.takeWhile_cons, List.dropWhile_cons, hn]
    | succ k =>
      have hy : y < b := h 0 y (by omega) rfl
      have := ih k (fun i z hi hz => h (i + 1) z (by omega) (by simpa using hz)) (by simpa using hk) (by
        rcases hx with hx | ⟨z, hz, hn⟩
        · exact .inl (by simpa using hx)
        · exact .inr ⟨z, by simpa using hz, hn⟩)
      simp [List.takeWhile_cons, List.dropWhile_cons, hy, this.1, this.2]
/-- Which codes are called, by the document. -/
def docCalls (ops : List OpD) : List Int := (callsOf ops).foldl insU []
theorem docCalls_step {ops : List OpD} {k : Nat} {o : OpD} (h : ops[k]? = some o) : docCalls (ops.take (k + 1)) = if o.code == 18 then insU (docCalls (ops.take k)) o.b else docCalls (ops.take k) := by
  unfold docCalls
  rw [callsOf_step h]
  split <;> simp
theorem insU_len (l : List Int) (b : Int) : (insU l b).length ≤ l.length + 1 := by
  unfold insU
  split
  · omega
  · have h := List.takeWhile_append_dropWhile (p := fun x => decide (x < b)) (l := l)
    have h2 := congrArg List.length h
    rw [List.length_append] at h2
    simp only [List.length_append, List.length_cons]
    omega
theorem docCalls_len (ops : List OpD) : (docCalls ops).length ≤ ops.length := by
  have h : ∀ (bs : List Int) (l : List Int), (bs.foldl insU l).length ≤ l.length + bs.length := by
    intro bs
    induction bs with
    | nil => intro l; simp
    | cons b bs ih => intro l; have h1 := ih (insU l b); have h2 := insU_len l b; simp only [List.foldl_cons, List.length_cons]; omega
  have h1 := h (callsOf ops) []
  have h2 := callsOf_len ops
  simp only [List.length_nil] at h1
  unfold docCalls
  omega
theorem take_len {L : List Int} {m : Nat} (hm : m < L.length) : (L.take (m + 1)).length = m + 1 := by rw [List.length_take]; omega
theorem take_enc {L : List Int} {m : Nat} {z : Int} (hz : L[m]? = some z) : (L.take (m + 1)).map encI = List.take m (L.map encI) ++ [.int .i64 z] := by rw [List.take_add_one, hz]; simp [List.map_take]
theorem ints_next {w : World} {B m : Nat} {v : Value} {L : List Int} {z : Int} (hz : L[m]? = some z) (hm : m < L.length) (h : w.ownsRow B 3 1 v (m + 1) (List.take m (List.map encI L) ++ [.int .i64 z])) : Ints w B v (L.take (m + 1)) := by
  unfold Ints
  rw [take_enc hz, take_len hm]
  exact h
theorem meas_next {N m : Nat} (h : m < N) : N - (intOf (.int .i64 ((m : Int) + 1))).toNat < N - (intOf (.int .i64 (m : Int))).toNat := by simp [intOf]; omega
theorem insU_cut {L : List Int} {b : Int} {m : Nat} (hh : L.contains b = false) (hlt : ∀ j z, j < m → L[j]? = some z → z < b) (hm : m ≤ L.length) (hx : m = L.length ∨ ∃ z, L[m]? = some z ∧ ¬ z < b) : insU L b = L.take m ++ b :: L.drop m := by
  obtain ⟨h1, h2⟩ := cut_at L b m hlt hm hx
  unfold insU
  rw [hh, h1, h2]
  rfl
theorem put_len {L : List Int} {m : Nat} {b : Int} (hm : m ≤ L.length) : (L.take m).length + 1 + (L.length - m) = (L.take m ++ b :: L.drop m).length := by
  simp only [List.length_append, List.length_cons, List.length_take, List.length_drop]
  omega
theorem put_len2 {L : List Int} {m : Nat} {b : Int} (hm : m ≤ L.length) : m + 1 + (L.length - m) = (L.take m ++ b :: L.drop m).length := by
  simp only [List.length_append, List.length_cons, List.length_take, List.length_drop]
  omega
theorem put_enc {L : List Int} {m : Nat} {b : Int} : ((L.take m).map encI ++ [.int .i64 b]) ++ (L.drop m).map encI = (L.take m ++ b :: L.drop m).map encI := by simp
theorem put_enc2 {L : List Int} {m : Nat} {b : Int} : (List.take m (L.map encI) ++ [.int .i64 b]) ++ (L.drop m).map encI = (L.take m ++ b :: L.drop m).map encI := by simp [List.map_take]
theorem ints_of {w : World} {B n : Nat} {v : Value} {us : List Value} {zs : List Int} (h : w.ownsRow B 3 1 v n us) (hn : n = zs.length) (hu : us = zs.map encI) : Ints w B v zs := by
  subst hn hu
  exact h
/-- The code's box. -/
abbrev boxO (f : FlatD) (ao : Option Addr) (n : Nat) : Obj := .cells #[.string f.name, .int .i64 f.what, .int .i64 f.cells, .int .i64 f.base, .int .i64 f.regs, .int .i64 f.slots, .slice ao n f.oc, .slice f.lo f.ln f.lc] 32 (0, 0)
theorem r_Calls (f : FlatD) (w : World) (hf : Ops w f.ao f.on f.ops) (hs : f.on * 88 ≤ 140737488355328) : Calls Try.prog 17 #[f.val] w fun e w' => OutI w.heap.size e (docCalls f.ops) w' ∧ Below w.heap.size w w' := by
  obtain ⟨i0, hi, hz0, hz1, hz2⟩ := info_parts (show (Try.prog.info? 3).map (fun i => (i.zero, i.size, i.bytes)) = some (some (.int .i64 0), 1, 8) by kernel_rfl)
  obtain ⟨hl, hS⟩ := hf
  obtain ⟨ops, hops⟩ : ∃ o, f.ops = o := ⟨_, rfl⟩
  obtain ⟨ao, hao⟩ : ∃ o, f.ao = o := ⟨_, rfl⟩
  obtain ⟨n, hn⟩ : ∃ o, f.on = o := ⟨_, rfl⟩
  rw [hops, hao, hn] at hS
  rw [hops, hn] at hl
  rw [hn] at hs
  rw [hops]
  simp only [FlatD.val, hao, hn]
  clear hops hao hn
  go_enter Try.func17, Try.ntmps17
  go_wp2_with fail
  go_loopw [3, 4] (fun u i wr => ∃ k : Nat, k ≤ n ∧ i = .int .i64 k ∧ Ints wr (w.heap.size + 1) u (docCalls (ops.take k)) ∧ Below (w.heap.size + 1) (w.alloc (boxO f ao n)) wr) (fun _ i _ => n - (intOf i).toNat)
  case atStart => exact ⟨0, Nat.zero_le _, rfl, World.ownsRow_nil _ _ _ _, Below.refl _ _⟩
  case round =>
    obtain ⟨k, hk, rfl, hown, hbeR⟩ := hrel
    have hbel : Below w.heap.size w wr := b_go (b_al (Below.refl _ _) (boxO f ao n)) (by simpa using hbeR)
    have KB : wr.heap[w.heap.size]? = some (boxO f ao n) := k_go (k_new rfl) (by simpa using hbeR)
    have q6 := k_cv KB 6 rfl
    simp only [List.getElem_toArray, List.getElem_cons_succ, List.getElem_cons_zero] at q6
    have lB := k_lt KB
    have hw : wrap64 ((k : Int) + 1) = k + 1 := by unfold wrap64; omega
    by_cases hkn : k < n
    · obtain ⟨o, ho⟩ : ∃ o, ops[k]? = some o := ⟨_, List.getElem?_eq_getElem (by omega)⟩
      rcases ao with _ | a
      · exact absurd (hS.2.1 rfl) (by omega)
      have hSr := hS.go hbel
      have z0 := hSr.at0 OpD.len ho rfl
      have z2 := hSr.atS OpD.len ho (j := 2) (by decide) rfl
      have hstep := docCalls_step ho
      have hdl := docCalls_len (ops.take k)
      rw [List.length_take] at hdl
      have N1 := r_has (w.heap.size + 1) u3 (docCalls (ops.take k)) o.b wr hown (by omega)
      rcases Bool.eq_false_or_eq_true (o.code == 18) with hc | hc
      · rw [if_pos hc] at hstep
        have hc2 : (o.code != 18) = false := by simpa using hc
        rcases Bool.eq_false_or_eq_true ((docCalls (ops.take k)).contains o.b) with hh | hh
        · have hs2 : docCalls (ops.take (k + 1)) = docCalls (ops.take k) := by rw [hstep]; unfold insU; rw [if_pos hh]
          rw [hh] at N1
          have HI := Lib.hid hown
          clear hown
          go_wp2_with (go_at_call 31; go_loud (with_reducible refine N1.mono ?_); rintro e w1 ⟨rfl, rfl⟩)
          all_goals exact ⟨⟨k + 1, by omega, by go_num, by rw [hs2]; exact HI.out, hbeR⟩, by simp [intOf]; omega⟩
        · rw [hh] at N1
          obtain ⟨L, hL⟩ : ∃ L, docCalls (ops.take k) = L := ⟨_, rfl⟩
          rw [hL] at hstep hdl hown hh
          have HI := Lib.hid hown
          have HS := Lib.hid hstep
          clear hown hstep hL hc
          go_wp2_with (go_at_call 31; go_loud (with_reducible refine N1.mono ?_); rintro e w1 ⟨rfl, rfl⟩)
          go_loopw [5, 6] (fun u5 i2 w2 => ∃ m : Nat, m ≤ L.length ∧ i2 = .int .i64 m ∧ Ints w2 w1.heap.size u5 (L.take m) ∧ (∀ j z, j < m → L[j]? = some z → z < o.b) ∧ Below w1.heap.size w1 w2) (fun _ i _ => L.length - (intOf i).toNat)
          case atStart => exact ⟨0, Nat.zero_le _, rfl, World.ownsRow_nil _ _ _ _, fun j z h => absurd h (by omega), Below.refl _ _⟩
          case round =>
            obtain ⟨m, hm, rfl, hm2, hlt, hb2⟩ := hrel
            have q7 := (hb2.cell (p := ⟨w.heap.size, 6, none⟩) lB).trans q6
            have z3 := (hSr.go hb2).atS OpD.len ho (j := 2) (by decide) rfl
            have hI2 := HI.out.go hb2
            have lB2 := Nat.lt_of_lt_of_le lB hb2.size
            by_cases hmL : m < L.length
            · obtain ⟨z, hz⟩ : ∃ z, L[m]? = some z := ⟨_, List.getElem?_eq_getElem hmL⟩
              rcases HI.out.form with ⟨rfl, rfl⟩ | ⟨g, c, rfl, hcap, hg, hgl, hcell⟩
              · simp at hmL
              have hcz := (hb2.cell (p := ⟨g, m, none⟩) hgl).trans (hcell m z hz)
              have hmi : (m : Int) < (L.length : Int) := by omega
              have hmc : ¬ c = m := by omega
              have hmc2 : ¬ m = c := by omega
              have hMe : (L.take m).length = m := by rw [List.length_take]; omega
              have hM1 : m + 1 ≤ maxLen := by unfold maxLen; omega
              have hM2 : (m + 1) * 8 ≤ 140737488355328 := by omega
              have hM3 : m + 1 + (L.length - m) ≤ maxLen := by unfold maxLen; omega
              have hM4 : (m + 1 + (L.length - m)) * 8 ≤ 140737488355328 := by omega
              have hw2 : wrap64 ((m : Int) + 1) = m + 1 := by unfold wrap64; omega
              have HC := Lib.hid hcell
              have HLT := Lib.hid hlt
              have HM2 := Lib.hid hm2
              clear hcell hlt hI2 hm2
              by_cases hzb : z < o.b
              · go_wp2_with fail
                go_quiet (fail)
                go_wp2_with (at_builtin; go_loud (refine wpList_append_own _ rfl _ _ 27 rfl w1.heap.size 3 i0 _ 1 8 Try.underlying27 hi hz0 hz1 hz2 rfl (by decide) _ _ _ rfl (World.ownsRow.alloc (own_dn HM2.out _) _) ⟨wr.heap.size, 0, none⟩ 1 1 [.int .i64 z] rfl rfl ?c1 ?c2 ?c3 ?c4 ?c5 ?_))
                case c1 =>
                  intro j u hj
                  rw [add_pl]
                  exact (k_cell (k_new (w := wr.drewN nq) rfl) j).trans (by simpa using hj)
                case c2 => intro u hu; simp at hu; subst hu; rfl
                case c3 => first | exact hM1 | (rw [hMe]; exact hM1)
                case c4 => first | exact hM2 | (rw [hMe]; exact hM2)
                case c5 => exact Nat.le_trans hb2.size (by rw [alloc_sz]; exact Nat.le_succ _)
                intro v' w3 hown' hgrow hnil
                have hb3 : Below w1.heap.size w1 w3 := Below.grown (row := u5.ownBlock) ((b_dn hb2 nq).alloc hb2.size _) hgrow (Nat.le_trans hb2.size (by rw [alloc_sz]; exact Nat.le_succ _)) (fun q hq => (World.ownsRow.lt HM2.out q hq).1)
                have hI := ints_next hz hmL hown'
                have HI3 := Lib.hid hI
                clear hI hown' hgrow HM2 hs hdl hw hM1 hM2 hM3 hM4 hMe hmc hmc2 hcap lB lB2 hgl hg hmi HC HS HI hbel hSr KB q6 q7 z0 z2 z3 hcz N1 hS
                go_wp2
                go_roundw
                case rel =>
                  refine ⟨m + 1, by omega, by go_num, HI3.out, fun j y hj hy => ?_, hb3⟩
                  rcases Nat.lt_or_ge j m with x | x
                  · exact HLT.out j y x hy
                  · obtain rfl : j = m := by omega
                    rw [hz] at hy
                    cases hy
                    exact hzb
                case measure => rw [hw2]; exact meas_next hmL
              · go_wp2_with fail
                go_quiet (fail)
                go_wp2_with (at_builtin; go_loud (refine wpList_append_own _ rfl _ _ 27 rfl w1.heap.size 3 i0 _ 1 8 Try.underlying27 hi hz0 hz1 hz2 rfl (by decide) _ _ _ rfl (World.ownsRow.alloc (own_dn HM2.out _) _) ⟨wr.heap.size, 0, none⟩ 1 1 [.int .i64 o.b] rfl rfl ?c1 ?c2 ?c3 ?c4 ?c5 ?_))
                case c1 =>
                  intro j u hj
                  rw [add_pl]
                  exact (k_cell (k_new (w := wr.drewN nq) rfl) j).trans (by simpa using hj)
                case c2 => intro u hu; simp at hu; subst hu; rfl
                case c3 => first | exact hM1 | (rw [hMe]; exact hM1)
                case c4 => first | exact hM2 | (rw [hMe]; exact hM2)
                case c5 => exact Nat.le_trans hb2.size (by rw [alloc_sz]; exact Nat.le_succ _)
                intro v' w3 hown' hgrow hnil
                have hb3 : Below w1.heap.size w1 w3 := Below.grown (row := u5.ownBlock) ((b_dn hb2 nq).alloc hb2.size _) hgrow (Nat.le_trans hb2.size (by rw [alloc_sz]; exact Nat.le_succ _)) (fun q hq => (World.ownsRow.lt HM2.out q hq).1)
                go_wp2_with (at_builtin; go_loud (refine wpList_append_own _ rfl _ _ 27 rfl w1.heap.size 3 i0 _ 1 8 Try.underlying27 hi hz0 hz1 hz2 rfl (by decide) _ _ _ rfl hown' ⟨g, m, none⟩ (L.length - m) (c - m) ((L.drop m).map encI) rfl ?d1 ?d2 ?d3 ?d4 ?d5 ?d6 ?_))
                case d1 => rw [List.length_map, List.length_drop, Nat.mul_one]
                case d2 =>
                  intro j u hj
                  rw [List.getElem?_map, List.getElem?_drop] at hj
                  obtain ⟨x, hx, rfl⟩ := Option.map_eq_some_iff.1 hj
                  rw [add_off]
                  exact (hb3.cell (p := ⟨g, m + j, none⟩) hgl).trans (HC.out (m + j) x hx)
                case d3 =>
                  intro u hu
                  obtain ⟨x, _, rfl⟩ := List.mem_map.1 hu
                  rfl
                case d4 => first | exact hM3 | (rw [hMe]; exact hM3)
                case d5 => first | exact hM4 | (rw [hMe]; exact hM4)
                case d6 => exact hb3.size
                intro v2 w4 hown2 hgrow2 hnil2
                have hb4 : Below w1.heap.size w1 w4 := Below.grown (row := v'.ownBlock) hb3 hgrow2 hb3.size (fun q hq => (World.ownsRow.lt hown' q hq).1)
                have hI : Ints w4 w1.heap.size v2 (L.take m ++ o.b :: L.drop m) := by
                  refine ints_of hown2 ?_ ?_
                  · first | exact put_len hm | exact put_len2 hm
                  · first | exact put_enc | exact put_enc2 | simp
                rw [← insU_cut hh HLT.out hm (.inr ⟨z, hz, by first | exact hzb | exact Int.not_lt.2 hzb⟩), ← HS.out] at hI
                have HI4 := Lib.hid (own_low hI lB)
                have hbR4 : Below (w.heap.size + 1) (w.alloc (boxO f (some a) n)) w4 := hbeR.trans (hb4.mono lB)
                clear hown2 hgrow2 hown' hgrow HM2 hs hdl hM1 hM2 hM3 hM4 hMe hmc hmc2 hcap lB2 hgl hg hmi HC HS HI hSr q6 q7 z0 z2 z3 hcz N1 HLT hI hb2 hb3 hb4 hz hzb
                go_wp2
                go_roundw
                case rel => exact ⟨k + 1, hkn, by go_num, HI4.out, hbR4⟩
                case measure => first | exact meas_next hkn | (rw [hw]; exact meas_next hkn)
            · obtain rfl : m = L.length := by omega
              have hMe : (L.take L.length).length = L.length := by rw [List.take_length]
              have hM1 : L.length + 1 ≤ maxLen := by unfold maxLen; omega
              have hM2 : (L.length + 1) * 8 ≤ 140737488355328 := by omega
              have HLT := Lib.hid hlt
              have HM2 := Lib.hid hm2
              clear hlt hI2 hm2 hmL hm
              rcases HI.out.form with ⟨rfl, rfl⟩ | ⟨g, c, rfl, hcap, hg, hgl, hcell⟩
              · go_wp2_with fail
                go_quiet (fail)
                go_wp2_with (at_builtin; go_loud (refine wpList_append_own _ rfl _ _ 27 rfl w1.heap.size 3 i0 _ 1 8 Try.underlying27 hi hz0 hz1 hz2 rfl (by decide) _ _ _ rfl (World.ownsRow.alloc (own_dn HM2.out _) _) ⟨wr.heap.size, 0, none⟩ 1 1 [.int .i64 o.b] rfl rfl ?c1 ?c2 ?c3 ?c4 ?c5 ?_))
                case c1 =>
                  intro j u hj
                  rw [add_pl]
                  exact (k_cell (k_new (w := wr.drewN nq) rfl) j).trans (by simpa using hj)
                case c2 => intro u hu; simp at hu; subst hu; rfl
                case c3 => first | exact hM1 | (rw [hMe]; exact hM1)
                case c4 => first | exact hM2 | (rw [hMe]; exact hM2)
                case c5 => exact Nat.le_trans hb2.size (by rw [alloc_sz]; exact Nat.le_succ _)
                intro v' w3 hown' hgrow hnil
                have hb3 : Below w1.heap.size w1 w3 := Below.grown (row := u5.ownBlock) ((b_dn hb2 nq).alloc hb2.size _) hgrow (Nat.le_trans hb2.size (by rw [alloc_sz]; exact Nat.le_succ _)) (fun q hq => (World.ownsRow.lt HM2.out q hq).1)
                go_wp2_with (at_builtin; go_loud (refine wpList_append_own_none rfl _ _ 27 rfl w1.heap.size 3 i0 1 Try.underlying27 hi _ _ _ rfl hown' rfl ?_))
                have hI : Ints w3 w1.heap.size v' [o.b] := by
                  refine ints_of hown' ?_ ?_
                  · simp
                  · simp
                rw [show [o.b] = insU [] o.b by simp [insU], ← HS.out] at hI
                have HI4 := Lib.hid (own_low hI lB)
                have hbR4 : Below (w.heap.size + 1) (w.alloc (boxO f (some a) n)) w3 := hbeR.trans (hb3.mono lB)
                clear hs hdl hM1 hM2 hMe lB2 HS HI hSr q6 q7 z0 z2 z3 N1 HLT hI hb2 hb3
                exact ⟨⟨k + 1, hkn, by go_num, HI4.out, hbR4⟩, (by first | exact meas_next hkn | (rw [hw]; exact meas_next hkn))⟩
              · clear hcell
                go_wp2_with fail
                go_quiet (fail)
                go_wp2_with (at_builtin; go_loud (refine wpList_append_own _ rfl _ _ 27 rfl w1.heap.size 3 i0 _ 1 8 Try.underlying27 hi hz0 hz1 hz2 rfl (by decide) _ _ _ rfl (World.ownsRow.alloc (own_dn HM2.out _) _) ⟨wr.heap.size, 0, none⟩ 1 1 [.int .i64 o.b] rfl rfl ?c1 ?c2 ?c3 ?c4 ?c5 ?_))
                case c1 =>
                  intro j u hj
                  rw [add_pl]
                  exact (k_cell (k_new (w := wr.drewN nq) rfl) j).trans (by simpa using hj)
                case c2 => intro u hu; simp at hu; subst hu; rfl
                case c3 => first | exact hM1 | (rw [hMe]; exact hM1)
                case c4 => first | exact hM2 | (rw [hMe]; exact hM2)
                case c5 => exact Nat.le_trans hb2.size (by rw [alloc_sz]; exact Nat.le_succ _)
                intro v' w3 hown' hgrow hnil
                have hb3 : Below w1.heap.size w1 w3 := Below.grown (row := u5.ownBlock) ((b_dn hb2 nq).alloc hb2.size _) hgrow (Nat.le_trans hb2.size (by rw [alloc_sz]; exact Nat.le_succ _)) (fun q hq => (World.ownsRow.lt HM2.out q hq).1)
                have hMc : ¬ c = L.length → ¬ L.length = c := fun h e => h e.symm
                clear hcap
                by_cases hlc : c = L.length
                · subst hlc
                  go_wp2_with (at_builtin; go_loud (refine wpList_append_own _ rfl _ _ 27 rfl w1.heap.size 3 i0 _ 1 8 Try.underlying27 hi hz0 hz1 hz2 rfl (by decide) _ _ _ rfl hown' ⟨g, 0, none⟩ _ _ [] rfl (by simp) ?d2 ?d3 ?d4 ?d5 ?d6 ?_))
                  case d6 => exact hb3.size
                  intro v2 w4 hown2 hgrow2 hnil2
                  have hb4 : Below w1.heap.size w1 w4 := Below.grown (row := v'.ownBlock) hb3 hgrow2 hb3.size (fun q hq => (World.ownsRow.lt hown' q hq).1)
                  have hI : Ints w4 w1.heap.size v2 (L ++ [o.b]) := by
                    refine ints_of hown2 ?_ ?_
                    · simp
                    · simp
                  have hE : insU L o.b = L ++ [o.b] := by
                    have h := insU_cut hh HLT.out (Nat.le_refl _) (.inl rfl)
                    rw [List.take_length, List.drop_length] at h
                    exact h
                  rw [← hE, ← HS.out] at hI
                  have HI4 := Lib.hid (own_low hI lB)
                  have hbR4 : Below (w.heap.size + 1) (w.alloc (boxO f (some a) n)) w4 := hbeR.trans (hb4.mono lB)
                  clear hown2 hgrow2 hown' hgrow HM2 hs hdl hM1 hM2 hMe lB2 hgl hg HS HI hSr q6 q7 z0 z2 z3 N1 HLT hI hb2 hb3 hb4 hE
                  go_wp2
                  go_roundw
                  case rel => exact ⟨k + 1, hkn, by go_num, HI4.out, hbR4⟩
                  case measure => first | exact meas_next hkn | (rw [hw]; exact meas_next hkn)
                · have hlc2 := hMc hlc
                  go_wp2_with (at_builtin; go_loud (refine wpList_append_own _ rfl _ _ 27 rfl w1.heap.size 3 i0 _ 1 8 Try.underlying27 hi hz0 hz1 hz2 rfl (by decide) _ _ _ rfl hown' ⟨g, L.length, none⟩ 0 (c - L.length) [] rfl rfl ?e2 ?e3 ?e4 ?e5 ?e6 ?_))
                  case e2 => intro j u hj; simp at hj
                  case e3 => intro u hu; simp at hu
                  case e4 => first | exact hM1 | simpa using hM1
                  case e5 => first | exact hM2 | simpa using hM2
                  case e6 => exact hb3.size
                  intro v2 w4 hown2 hgrow2 hnil2
                  have hb4 : Below w1.heap.size w1 w4 := Below.grown (row := v'.ownBlock) hb3 hgrow2 hb3.size (fun q hq => (World.ownsRow.lt hown' q hq).1)
                  have hI : Ints w4 w1.heap.size v2 (L ++ [o.b]) := by
                    refine ints_of hown2 ?_ ?_
                    · simp
                    · simp
                  have hE : insU L o.b = L ++ [o.b] := by
                    have h := insU_cut hh HLT.out (Nat.le_refl _) (.inl rfl)
                    rw [List.take_length, List.drop_length] at h
                    exact h
                  rw [← hE, ← HS.out] at hI
                  have HI4 := Lib.hid (own_low hI lB)
                  have hbR4 : Below (w.heap.size + 1) (w.alloc (boxO f (some a) n)) w4 := hbeR.trans (hb4.mono lB)
                  clear hown2 hgrow2 hown' hgrow HM2 hs hdl hM1 hM2 hMe lB2 hgl hg HS HI hSr q6 q7 z0 z2 z3 N1 HLT hI hb2 hb3 hb4 hE
                  go_wp2
                  go_roundw
                  case rel => exact ⟨k + 1, hkn, by go_num, HI4.out, hbR4⟩
                  case measure => first | exact meas_next hkn | (rw [hw]; exact meas_next hkn)
      · have hc2 : (o.code != 18) = true := by simpa using hc
        rw [if_neg (by rw [hc]; decide)] at hstep
        have HI := Lib.hid hown
        clear hown
        go_wp2_with fail
        all_goals exact ⟨⟨k + 1, hkn, by go_num, by rw [hstep]; exact HI.out, hbeR⟩, (by first | exact meas_next hkn | (rw [hw]; exact meas_next hkn))⟩
    · obtain rfl : k = n := by omega
      rw [List.take_of_length_le (by omega)] at hown
      have HI := Lib.hid hown
      clear hown
      go_wp2
      go_ret
      exact ⟨⟨_, rfl, own_low HI.out (Nat.le_succ _)⟩, hbel⟩
end Go.Proofs.Ytmnaeoljpajomaa.H
