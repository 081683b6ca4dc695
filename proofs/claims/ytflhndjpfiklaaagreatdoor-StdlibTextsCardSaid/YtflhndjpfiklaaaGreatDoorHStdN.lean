/- Contracts of the small functions that the functions over texts use. Conditions: the places lie in the texts. -/
import Derived.Test.YtflhndjpfiklaaaGreatDoorHStdK
import Derived.Test.YtflhndjpfiklaaaGreatDoorHStdJ
import Derived.Test.YtflhndjpfiklaaaGreatDoorHMake
import Derived.Test.YtflhndjpfiklaaaGreatDoorShelf
import Derived.Laws.BytesArg
namespace Go.Proofs.YtflhndjpfiklaaaGreatDoor.H
set_option linter.unusedVariables false
set_option linter.unusedSimpArgs false
open Go.RowKit Go.Proofs.YtflhndjpfiklaaaGreatDoor.Plain
set_option maxHeartbeats 3200000
set_option maxRecDepth 100000
attribute [local go_sem] ext_from ext_bits cell_isSome un_neg_float
/-- A small number's value has that number. -/
theorem num_small {b : Int} (h0 : 0 ≤ b) (h1 : b ≤ 32767) : numV 3 b ⟨#[]⟩ = (b, true) := by
  have hw : wrap64 b = b := by unfold wrap64; omega
  unfold numV
  rw [if_pos, hw]
  refine ⟨?_, by decide, by decide, by omega⟩
  rw [mayB_empty 3 b (by decide) (by decide)]
  simp [fitsB, hw]
  omega
theorem c_num (b : Int) (h0 : 0 ≤ b) (h1 : b ≤ 32767) (w : World) : Calls Tryz.prog 96 #[.agg #[.int .u8 3, .int .u64 b, .string ⟨#[]⟩]] w fun e w' => e = .returned (.tuple #[.int .i64 b, .bool true]) ∧ Below w.heap.size w w' := by
  have := v_Number 3 b ⟨#[]⟩ h0 (by omega) w
  rw [num_small h0 h1] at this
  exact this
theorem c_count (b m : Int) (h0 : 0 ≤ b) (h1 : b ≤ 32767) (h2 : b ≤ m) (w : World) : Calls Tryz.prog 98 #[.agg #[.int .u8 3, .int .u64 b, .string ⟨#[]⟩], .int .i64 m] w fun e w' => e = .returned (.tuple #[.int .i64 b, .bool true]) ∧ Below w.heap.size w w' := by
  have N1 := fun W => c_num b h0 h1 W
  go_enter Tryz.func98, Tryz.ntmps98
  go_wp2_with (first | (go_at_call 96; with_reducible refine (N1 _).mono ?_; rintro e w1 ⟨rfl, hb1⟩))
  all_goals go_returns
  all_goals (refine ⟨?_, b_go (b_al (Below.refl _ _) _) hb1⟩; simp; try omega)
theorem c_cutTo (b : Int) (s : ByteArray) (h0 : 0 ≤ b) (h1 : b ≤ 32767) (h2 : b ≤ s.size) (w : World) : Calls Tryz.prog 107 #[.agg #[.int .u8 3, .int .u64 b, .string ⟨#[]⟩], .string s] w fun e w' => e = .returned (.tuple #[.int .i64 b, .bool true]) ∧ Below w.heap.size w w' := by
  have N1 := fun W => c_count b s.size h0 h1 h2 W
  go_enter Tryz.func107, Tryz.ntmps107
  go_wp2_with (first | (go_at_call 98; with_reducible refine (N1 _).mono ?_; rintro e w1 ⟨rfl, hb1⟩))
  all_goals go_returns
  all_goals (refine ⟨?_, b_go (b_al (Below.refl _ _) _) hb1⟩; simp)
theorem c_position (b : Int) (s : ByteArray) (h0 : 1 ≤ b) (h1 : b ≤ 32767) (h2 : b ≤ s.size + 1) (hs : s.size ≤ 254) (w : World) : Calls Tryz.prog 146 #[.agg #[.int .u8 3, .int .u64 b, .string ⟨#[]⟩], .string s] w fun e w' => e = .returned (.tuple #[.int .i64 (b - 1), .bool true]) ∧ Below w.heap.size w w' := by
  have N1 := fun W => c_count b (s.size + 1) (by omega) h1 h2 W
  have hw : wrap64 ((s.size : Int) + 1) = s.size + 1 := by unfold wrap64; omega
  go_enter Tryz.func146, Tryz.ntmps146
  go_wp2_with (first | (go_at_call 98; with_reducible refine (N1 _).mono ?_; rintro e w1 ⟨rfl, hb1⟩))
  all_goals go_returns
  all_goals (refine ⟨?_, b_go (b_al (Below.refl _ _) _) hb1⟩; simp; try omega)
theorem c_stretch (s : ByteArray) (n b : Int) (hn0 : 0 ≤ n) (hn1 : n ≤ 32767) (h0 : 1 ≤ b) (h1 : b ≤ 32767) (h2 : b - 1 + n ≤ s.size) (hs : s.size ≤ 254) (w : World) :
    Calls Tryz.prog 112 #[.string s, .agg #[.int .u8 3, .int .u64 n, .string ⟨#[]⟩], .agg #[.int .u8 3, .int .u64 b, .string ⟨#[]⟩]] w fun e w' => e = .returned (.tuple #[.int .i64 (b - 1), .int .i64 n, .bool true]) ∧ Below w.heap.size w w' := by
  have N1 := fun W => c_count n s.size hn0 hn1 (by omega) W
  have N2 := fun W => c_position b s h0 h1 (by omega) hs W
  have hw : wrap64 ((s.size : Int) - (b - 1)) = s.size - (b - 1) := by unfold wrap64; omega
  go_enter Tryz.func112, Tryz.ntmps112
  go_wp2_with (first | (go_at_call 98; with_reducible refine (N1 _).mono ?_; rintro e w1 ⟨rfl, hb1⟩; obtain ⟨hc1, hf1⟩ := bcell hb1) | (go_at_call 146; with_reducible refine (N2 _).mono ?_; rintro e w2 ⟨rfl, hb2⟩))
  all_goals go_returns
  all_goals (refine ⟨?_, b_go (b_go (b_al (b_al (Below.refl _ _) _) _) hb1) hb2⟩; simp [hw]; try omega)
/-- Texts one behind the other. -/
def cat (xs : List ByteArray) : ByteArray := ⟨(xs.flatMap (·.data.toList)).toArray⟩
theorem join_nothing : ∀ xs : List (List UInt8), Lib.join xs [] = xs.flatten
  | [] => rfl
  | [x] => by simp [Lib.join, List.intercalate]
  | x :: y :: r => by
    have h := join_nothing (y :: r)
    unfold Lib.join at h ⊢
    simp only [List.intercalate, List.intersperse_cons_cons, List.flatten_cons, List.nil_append] at h ⊢
    rw [h]
theorem c_joined (bk c : Nat) (xs : List ByteArray) (w : World) (hcells : ∀ (j : Nat) x, xs[j]? = some x → w.cell? ⟨bk, j, none⟩ = some (.string x)) (hbk : bk < w.heap.size) (hN : xs.length ≤ 1000) (hcap : xs.length ≤ c) (hlen : (cat xs).size ≤ 100000) :
    Calls Tryz.prog 109 #[.slice (some ⟨bk, 0, none⟩) xs.length c] w fun e w' => e = .returned (.tuple #[.agg #[.int .u8 (textV (cat xs)).1, .int .u64 (textV (cat xs)).2.1, .string (textV (cat xs)).2.2.1], .int .i64 (textV (cat xs)).2.2.2]) ∧ Below w.heap.size w w' := by
  have N1 : ∀ W : World, Below w.heap.size w W → Calls Tryz.prog 145 #[.slice (some ⟨bk, 0, none⟩) xs.length c, .string ⟨#[]⟩] W fun e w' => e = .returned (.string (cat xs)) ∧ Below W.heap.size W w' := by
    intro W hb
    have hj := join_nothing (xs.map (·.data.toList))
    have hL : (Lib.join (xs.map (·.data.toList)) (⟨#[]⟩ : ByteArray).data.toList).length = (cat xs).size := by
      rw [show (⟨#[]⟩ : ByteArray).data.toList = [] from rfl, hj]
      simp [cat, ByteArray.size, List.flatMap]
    have h := Tryz.strings_Join bk 0 c xs ⟨#[]⟩ W (fun j x hx => by rw [Nat.zero_add]; exact (hb.cell (p := ⟨bk, j, none⟩) hbk).trans (hcells j x hx)) (Nat.lt_of_lt_of_le hbk hb.size) (by omega) hcap (by rw [hL]; omega)
    rw [show (⟨#[]⟩ : ByteArray).data.toList = [] from rfl, hj] at h
    exact h
  obtain ⟨t, ht⟩ : ∃ t, cat xs = t := ⟨_, rfl⟩
  rw [ht] at N1 ⊢
  have N2 := fun W => v_Text t W
  obtain ⟨r, hr⟩ : ∃ r, textV t = r := ⟨_, rfl⟩
  rw [hr] at N2 ⊢
  clear hcells hN hcap hlen ht hr
  go_enter Tryz.func109, Tryz.ntmps109
  go_wp2_with (first | (go_at_call 145; with_reducible refine (N1 _ (b_al (Below.refl _ _) _)).mono ?_; rintro e w1 ⟨rfl, hb1⟩) | (go_at_call 82; with_reducible refine (N2 _).mono ?_; rintro e w2 ⟨rfl, hb2⟩; have K2 := k_go (k_go (k_new (w := w) rfl) hb1) hb2; have y0 := k_cv K2 0 rfl; have y1 := k_cv K2 1 rfl; have y2 := k_cv K2 2 rfl; have g0 := k_fr K2 0; have g1 := k_fr K2 1; have g2 := k_fr K2 2; have l2 := k_lt K2; simp only [List.getElem_toArray, List.getElem_cons_succ, List.getElem_cons_zero] at y0 y1 y2))
  refine bodyPost_ret (v := .tuple #[.agg #[.int .u8 (r).1, .int .u64 (r).2.1, .string (r).2.2.1], .int .i64 (r).2.2.2]) ?hr rfl ⟨rfl, ?hB⟩
  case hB => repeat (first | exact Below.refl _ _ | apply b_al | (refine b_st ?_ ?hg _; case hg => exact Nat.le_refl _) | (refine b_go ?_ (by assumption)))
  case hr =>
    have q := fun (y0 y1 y2 : Value) => set3 (w1 := w2) (g := w.heap.size) K2 y0 y1 y2
    have q0 := fun (y0 y1 y2 : Value) => (q y0 y1 y2).1
    have q1 := fun (y0 y1 y2 : Value) => (q y0 y1 y2).2.1
    have q2 := fun (y0 y1 y2 : Value) => (q y0 y1 y2).2.2
    clear q
    simp [results, Tryz.results109, go_sem, l2, q0, q1, q2]
theorem c_text (k : Int) (w : World) : Calls Tryz.prog 103 #[.int .u8 k] w fun e w' => e = .returned (.bool (k == 19)) ∧ w' = w := by
  go_enter Tryz.func103, Tryz.ntmps103
  go_wp2
  all_goals go_ret
  all_goals simp_all
theorem c_alike2 (g c : Nat) (w : World) (h0 : w.cell? ⟨g, 0, none⟩ = some (.int .u8 19)) (h1 : w.cell? ⟨g, 1, none⟩ = some (.int .u8 19)) : Calls Tryz.prog 48 #[.slice (some ⟨g, 0, none⟩) 2 c] w fun e w' => e = .returned (.bool true) ∧ w' = w := by
  go_enter Tryz.func48, Tryz.ntmps48
  go_wp2
  refine wp_loop_rounds 3 ?_
  repeat any_goals (rw [rounds_succ]; go_wp2_with (first | (go_at_call 40; go_in)))
  all_goals (go_ret; simp_all)
theorem c_texts6 (g c : Nat) (w : World) (h0 : w.cell? ⟨g, 0, none⟩ = some (.int .u8 19)) (h1 : w.cell? ⟨g, 1, none⟩ = some (.int .u8 19)) : Calls Tryz.prog 113 #[.slice (some ⟨g, 0, none⟩) 2 c] w fun e w' => e = .returned (.tuple #[.int .u8 19, .bool true]) ∧ w' = w := by
  go_enter Tryz.func113, Tryz.ntmps113
  go_wp2_with (first | (go_at_call 48; with_reducible refine (c_alike2 _ _ _ h0 h1).mono ?_; rintro e w' ⟨rfl, rfl⟩) | (go_at_call 103; with_reducible refine (c_text _ _).mono ?_; rintro e w' ⟨rfl, rfl⟩))
  all_goals (go_returns; simp_all)
theorem c_number (n : Int) (h0 : 0 ≤ n) (h1 : n < 10) (w : World) : Calls Tryz.prog 86 #[.int .i64 n] w fun e w' => (∃ t, t.size = 1 ∧ e = .returned (.string t)) ∧ Below w.heap.size w w' := by
  have hcv := run_convert_bytes_arg (P := Tryz.prog) (w.alloc (.cells #[.int .u8 (48 + n)] 5 (0, 0))) 124 5 Tryz.underlying124 Tryz.underlying5 w.heap.size 0 1 1 [48 + n] rfl (fun i hi => by
    obtain rfl : i = 0 := by omega
    exact (k_cell (k_new rfl) 0).trans rfl) 9 Tryz.underlying9
  obtain ⟨t, ht⟩ : ∃ t, strOfNums [48 + n] = t := ⟨_, rfl⟩
  rw [ht] at hcv
  have hs : t.size = 1 := by subst ht; simp [strOfNums, ByteArray.size]
  clear ht
  go_enter Tryz.func86, Tryz.ntmps86
  go_wp2
  all_goals go_ret
  all_goals exact ⟨⟨t, hs, rfl⟩, b_al (Below.refl _ _) _⟩
theorem c_many2 (w : World) : Calls Tryz.prog 30 #[.int .i64 2] w fun e w' => (∃ g c, e = .returned (.slice (some ⟨g, 0, none⟩) 2 c)) ∧ Below w.heap.size w w' := by
  obtain ⟨i0, hi, hz0, hz1, hz2⟩ := info_parts (show (Tryz.prog.info? 9).map (fun i => (i.zero, i.size, i.bytes)) = some (some (.string ⟨#[]⟩), 1, 16) by kernel_rfl)
  go_enter Tryz.func30, Tryz.ntmps30
  go_wp2_with fail
  go_loopw [3, 12] (fun u i wr => ∃ (k : Nat) (xs : List Value), k ≤ 2 ∧ i = .int .i64 k ∧ wr.ownsRow w.heap.size 9 1 u k xs ∧ Below w.heap.size w wr) (fun _ i _ => 2 - (intOf i).toNat)
  case atStart => exact ⟨0, [], by omega, rfl, World.ownsRow_nil _ _ _ _, Below.refl _ _⟩
  case round =>
    obtain ⟨k, xs, hk, rfl, hown, hbel⟩ := hrel
    by_cases hkn : k < 2
    · have N1 := fun W => c_number ((k : Int) + 1) (by omega) (by omega) W
      go_wp2_with (first | (go_at_call 86; go_loud (with_reducible refine (N1 _).mono ?_); rintro e w1 ⟨⟨t, hs, rfl⟩, hb1⟩; have hs2 : ¬ 9223372036854775807 < 2 + t.size := by omega) | (at_builtin; go_loud (refine wpList_append_own _ rfl _ _ 53 rfl w.heap.size 9 i0 _ 1 16 Tryz.underlying53 hi hz0 hz1 hz2 rfl (by decide) _ _ _ rfl ((own_below hown hb1).alloc _) ⟨w1.heap.size, 0, none⟩ 1 1 [.string (⟨#[73, 78]⟩ ++ t)] rfl rfl ?c1 ?c2 ?c3 ?c4 ?c5 ?_)))
      case c1 =>
        intro j u hj
        rw [add_pl]
        exact (k_cell (k_new (by simp)) j).trans (by simpa using hj)
      case c2 => intro u hu; simp at hu; subst hu; rfl
      case c3 => unfold maxLen; omega
      case c4 => omega
      case c5 => have h1 := hbel.size; have h2 := hb1.size; simp; omega
      intro v' w3 hown' hgrow hnil
      have h1 := hbel.size
      have h2 := hb1.size
      go_wp2
      go_roundw
      case rel => exact ⟨k + 1, _, by omega, by go_num, hown', Below.grown (row := u3.ownBlock) ((b_go hbel hb1).alloc (by omega) _) hgrow (by simp; omega) (fun g hg => (hown.lt g hg).1)⟩
      case measure => simp [intOf]; omega
    · obtain rfl : k = 2 := by omega
      obtain ⟨g, c, rfl, hg, hgl⟩ := hown.form (by decide)
      go_wp2
      go_ret
      exact ⟨⟨g, c, rfl⟩, hbel⟩
end Go.Proofs.YtflhndjpfiklaaaGreatDoor.H
