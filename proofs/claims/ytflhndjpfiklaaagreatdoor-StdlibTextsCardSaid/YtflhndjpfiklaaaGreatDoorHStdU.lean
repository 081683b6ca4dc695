/- The law StdlibTexts: a text's left part and the rest together are it; what was put in is taken out again. Condition: the number is of 64 bits. -/
import Derived.Test.YtflhndjpfiklaaaGreatDoorHStdS
namespace Go.Proofs.YtflhndjpfiklaaaGreatDoor.H
set_option linter.unusedVariables false
set_option linter.unusedSimpArgs false
open Go.RowKit Go.Proofs.YtflhndjpfiklaaaGreatDoor.Plain
set_option maxHeartbeats 6400000
set_option maxRecDepth 100000
attribute [local go_sem] ext_from ext_bits cell_isSome un_neg_float
theorem textsGreat (s t : ByteArray) (n : Int) (h : ¬ s.size ≤ 254 ∨ ¬ t.size ≤ 254) (w : World) : Calls Tryz.prog 3 #[.string s, .string t, .int .i64 n] w fun e w' => e = .returned (.bool true) ∧ Below w.heap.size w w' := by
  obtain ⟨⟨a0, a1, a2, a3⟩, ha⟩ : ∃ r, textV s = r := ⟨_, rfl⟩
  obtain ⟨⟨b0, b1, b2, b3⟩, hb⟩ : ∃ r, textV t = r := ⟨_, rfl⟩
  have N1 := fun W => r_Text s W
  have N2 := fun W => r_Text t W
  rw [ha] at N1
  rw [hb] at N2
  simp only at N1 N2
  have hf : (a3 != 0) = true ∨ (a3 != 0) = false ∧ (b3 != 0) = true := by
    unfold textV at ha hb
    split at ha <;> split at hb <;> (injection ha with x1 x2; injection x2 with x2 x3; injection x3 with x3 x4; injection hb with y1 y2; injection y2 with y2 y3; injection y3 with y3 y4; subst x4 y4; simp; try omega)
  clear ha hb h
  rcases hf with hf | ⟨hf, hg⟩
  all_goals
    go_enter Tryz.func3, Tryz.ntmps3
    go_wp2_with (first | (go_at_call 6; with_reducible refine (N1 _).mono ?_; rintro e w1 ⟨rfl, hb1⟩) | (go_at_call 6; with_reducible refine (N2 _).mono ?_; rintro e w2 ⟨rfl, hb2⟩))
    all_goals first
      | (exfalso; simp_all; done)
      | (go_ret; exact ⟨rfl, by repeat (first | exact Below.refl _ _ | with_reducible apply b_al | (refine b_go ?_ (by assumption)))⟩)
theorem n_left (s : ByteArray) (k : Nat) (hk : k ≤ s.size) (hs : s.size ≤ 254) (l cl : Nat) (W : World) (hA : Args W l [(19, 0, s), (3, (k : Int), ⟨#[]⟩)]) : Calls Tryz.prog 8 #[.string ⟨#[76, 69, 70, 84]⟩, .slice (some ⟨l, 0, none⟩) 2 cl] W fun e w' => e = .returned (.tuple #[.agg #[.int .u8 19, .int .u64 0, .string (s.extract 0 k)], .bool true]) ∧ Below W.heap.size W w' := by
  have h := l_left l cl s k W hA (by omega) (by omega) hs (by intro d hd; simp only [List.mem_cons, List.not_mem_nil, or_false] at hd; rcases hd with rfl | rfl <;> first | exact may_text (by assumption) | exact may_num (by omega) (by omega))
  rw [Int.toNat_natCast, text_fits (by rw [ByteArray.size_extract]; omega)] at h
  exact h
theorem n_right (s : ByteArray) (k : Nat) (hk : k ≤ s.size) (hs : s.size ≤ 254) (l cl : Nat) (W : World) (hA : Args W l [(19, 0, s), (3, (s.size : Int) - k, ⟨#[]⟩)]) : Calls Tryz.prog 8 #[.string ⟨#[82, 73, 71, 72, 84]⟩, .slice (some ⟨l, 0, none⟩) 2 cl] W fun e w' => e = .returned (.tuple #[.agg #[.int .u8 19, .int .u64 0, .string (s.extract k s.size)], .bool true]) ∧ Below W.heap.size W w' := by
  have h := l_right l cl s ((s.size : Int) - k) W hA (by omega) (by omega) hs (by intro d hd; simp only [List.mem_cons, List.not_mem_nil, or_false] at hd; rcases hd with rfl | rfl <;> first | exact may_text (by assumption) | exact may_num (by omega) (by omega))
  rw [show ((s.size : Int) - ((s.size : Int) - k)).toNat = k by omega, text_fits (by rw [ByteArray.size_extract]; omega)] at h
  exact h
theorem n_concat (s : ByteArray) (k : Nat) (hk : k ≤ s.size) (hs : s.size ≤ 254) (l cl : Nat) (W : World) (hA : Args W l [(19, 0, s.extract 0 k), (19, 0, s.extract k s.size)]) : Calls Tryz.prog 8 #[.string ⟨#[67, 79, 78, 67, 65, 84]⟩, .slice (some ⟨l, 0, none⟩) 2 cl] W fun e w' => e = .returned (.tuple #[.agg #[.int .u8 19, .int .u64 0, .string (s)], .bool true]) ∧ Below W.heap.size W w' := by
  have h1 : (s.extract 0 k).size ≤ 254 := by rw [ByteArray.size_extract]; omega
  have h2 : (s.extract k s.size).size ≤ 254 := by rw [ByteArray.size_extract]; omega
  have h := l_concat l cl (s.extract 0 k) (s.extract k s.size) W hA h1 h2 (by intro d hd; simp only [List.mem_cons, List.not_mem_nil, or_false] at hd; rcases hd with rfl | rfl <;> first | exact may_text (by assumption) | exact may_num (by omega) (by omega))
  rw [cat_empty, cut_join s k hk, text_fits hs] at h
  exact h
theorem n_insertOk (s t : ByteArray) (k : Nat) (hk : k ≤ s.size) (hs : s.size ≤ 254) (ht : t.size ≤ 254) (hp : s.size + t.size ≤ 254) (l cl : Nat) (W : World) (hA : Args W l [(19, 0, s), (19, 0, t), (3, (k : Int), ⟨#[]⟩)]) : Calls Tryz.prog 8 #[.string ⟨#[73, 78, 83, 69, 82, 84]⟩, .slice (some ⟨l, 0, none⟩) 3 cl] W fun e w' => e = .returned (.tuple #[.agg #[.int .u8 19, .int .u64 0, .string (s.extract 0 k ++ t ++ s.extract k s.size)], .bool true]) ∧ Below W.heap.size W w' := by
  have h := l_insert l cl s t k W hA (by omega) (by omega) hs ht (by intro d hd; simp only [List.mem_cons, List.not_mem_nil, or_false] at hd; rcases hd with rfl | rfl | rfl <;> first | exact may_text (by assumption) | exact may_num (by omega) (by omega))
  rw [Int.toNat_natCast, text_fits (by rw [put_size s t k hk]; omega)] at h
  exact h
theorem n_insertNo (s t : ByteArray) (k : Nat) (hk : k ≤ s.size) (hs : s.size ≤ 254) (ht : t.size ≤ 254) (hp : ¬ s.size + t.size ≤ 254) (l cl : Nat) (W : World) (hA : Args W l [(19, 0, s), (19, 0, t), (3, (k : Int), ⟨#[]⟩)]) : Calls Tryz.prog 8 #[.string ⟨#[73, 78, 83, 69, 82, 84]⟩, .slice (some ⟨l, 0, none⟩) 3 cl] W fun e w' => e = .returned (.tuple #[.agg #[.int .u8 0, .int .u64 0, .string (⟨#[]⟩)], .bool false]) ∧ Below W.heap.size W w' := by
  have h := l_insert l cl s t k W hA (by omega) (by omega) hs ht (by intro d hd; simp only [List.mem_cons, List.not_mem_nil, or_false] at hd; rcases hd with rfl | rfl | rfl <;> first | exact may_text (by assumption) | exact may_num (by omega) (by omega))
  rw [Int.toNat_natCast, show textV (s.extract 0 k ++ t ++ s.extract k s.size) = (0, 0, ⟨#[]⟩, 5) from if_neg (by rw [put_size s t k hk]; omega)] at h
  exact h
theorem n_delete (s t : ByteArray) (k : Nat) (hk : k ≤ s.size) (hs : s.size ≤ 254) (ht : t.size ≤ 254) (hp : s.size + t.size ≤ 254) (l cl : Nat) (W : World) (hA : Args W l [(19, 0, s.extract 0 k ++ t ++ s.extract k s.size), (3, (t.size : Int), ⟨#[]⟩), (3, (k : Int) + 1, ⟨#[]⟩)]) : Calls Tryz.prog 8 #[.string ⟨#[68, 69, 76, 69, 84, 69]⟩, .slice (some ⟨l, 0, none⟩) 3 cl] W fun e w' => e = .returned (.tuple #[.agg #[.int .u8 19, .int .u64 0, .string (s)], .bool true]) ∧ Below W.heap.size W w' := by
  have hz := put_size s t k hk
  have h1 : (s.extract 0 k ++ t ++ s.extract k s.size).size ≤ 254 := by omega
  have h := l_delete l cl (s.extract 0 k ++ t ++ s.extract k s.size) k t.size W hA (by omega) (by omega) (by omega) h1 (by intro d hd; simp only [List.mem_cons, List.not_mem_nil, or_false] at hd; rcases hd with rfl | rfl | rfl <;> first | exact may_text (by assumption) | exact may_num (by omega) (by omega))
  rw [Int.toNat_natCast, show ((k : Int) + (t.size : Int)).toNat = k + t.size by omega, put_left s t k hk, put_right s t k hk, cut_join s k hk, text_fits hs] at h
  exact h
theorem small_mod (s : ByteArray) (n : Int) (hs : s.size ≤ 254) : ∃ k : Nat, k ≤ s.size ∧ wrap64 ((IntKind.u64.wrap n).tmod ((s.size : Int) + 1)) = k := by
  have h0 : IntKind.u64.wrap n = n % 18446744073709551616 := int_u n
  have hp : (0 : Int) < (s.size : Int) + 1 := by omega
  have h1 : 0 ≤ n % 18446744073709551616 := Int.emod_nonneg _ (by decide)
  rw [h0, Int.tmod_eq_emod_of_nonneg h1]
  have h2 := Int.emod_lt_of_pos (n % 18446744073709551616) hp
  have h3 := Int.emod_nonneg (n % 18446744073709551616) (Int.ne_of_gt hp)
  obtain ⟨m, hm⟩ := Int.eq_ofNat_of_zero_le h3
  refine ⟨m, by omega, ?_⟩
  rw [hm]
  have h4 : (m : Int) ≤ s.size := by omega
  have h5 : (s.size : Int) ≤ 254 := by omega
  unfold wrap64
  omega
theorem law_Texts (s t : ByteArray) (n : Int) (n0 : -9223372036854775808 ≤ n) (n1 : n ≤ 9223372036854775807) (w : World) : Calls Tryz.prog 3 #[.string s, .string t, .int .i64 n] w fun e w' => e = .returned (.bool true) ∧ Below w.heap.size w w' := by
  by_cases hs : s.size ≤ 254
  case neg => exact textsGreat s t n (.inl hs) w
  by_cases ht : t.size ≤ 254
  case neg => exact textsGreat s t n (.inr ht) w
  have N1 := fun W => r_Text s W
  have N2 := fun W => r_Text t W
  rw [text_fits hs] at N1
  rw [text_fits ht] at N2
  simp only at N1 N2
  have hw1 : wrap64 ((s.size : Int) + 1) = s.size + 1 := by unfold wrap64; omega
  have hw := Below.refl w.heap.size w
  go_enter Tryz.func3, Tryz.ntmps3
  go_wp2_with fail
  refine (N1 _).mono ?_
  rintro e w1 ⟨rfl, hb1⟩
  have hw' : Below w.heap.size w w1 := b_go (by repeat (first | exact hw | exact Below.refl _ _ | with_reducible apply b_al)) hb1
  clear hw
  have hw := hw'
  clear hw'
  clear hb1
  go_wp2_with fail
  refine (N2 _).mono ?_
  rintro e w2 ⟨rfl, hb2⟩
  have A' : w2.heap[w1.heap.size]? = some (.cells #[.int .u8 19, .int .u64 0, .string s] 25 (0, 0)) := k_go (by repeat (first | exact k_new rfl | with_reducible apply k_al)) hb2
  have hw' : Below w.heap.size w w2 := b_go (by repeat (first | exact hw | exact Below.refl _ _ | with_reducible apply b_al)) hb2
  clear hw
  have A := A'
  clear A'
  have hw := hw'
  clear hw'
  clear hb2
  have A0 := k_cv A 0 rfl
  have A1 := k_cv A 1 rfl
  have A2 := k_cv A 2 rfl
  have lA := k_lt A
  simp only [List.getElem_toArray, List.getElem_cons_succ, List.getElem_cons_zero] at A0 A1 A2
  go_wp2_with fail
  obtain ⟨k, hk, hkm⟩ := small_mod s n hs
  rw [hkm]
  have hw2 : wrap64 ((s.size : Int) - k) = s.size - k := by unfold wrap64; omega
  have N3 := fun W => r_Int 3 (k : Int) (by omega) (by omega) W
  have N4 := fun W => r_Int 3 ((s.size : Int) - k) (by omega) (by omega) W
  have N5 := fun W => r_Int 3 (t.size : Int) (by omega) (by omega) W
  have N6 := fun W => r_Int 3 ((k : Int) + 1) (by omega) (by omega) W
  rw [int_small (by omega) (by omega)] at N3 N4 N5 N6
  simp only at N3 N4 N5 N6
  have hw3 : wrap64 ((k : Int) + 1) = k + 1 := by unfold wrap64; omega
  clear hkm
  refine (N3 _).mono ?_
  rintro e w3 ⟨rfl, hb3⟩
  clear A0 A1 A2 lA
  have A' : w3.heap[w1.heap.size]? = some (.cells #[.int .u8 19, .int .u64 0, .string s] 25 (0, 0)) := k_go (by repeat (first | exact A | exact k_new rfl | with_reducible apply k_al)) hb3
  have B' : w3.heap[w2.heap.size]? = some (.cells #[.int .u8 19, .int .u64 0, .string t] 25 (0, 0)) := k_go (by repeat (first | exact k_new rfl | with_reducible apply k_al)) hb3
  have hw' : Below w.heap.size w w3 := b_go (by repeat (first | exact hw | exact Below.refl _ _ | with_reducible apply b_al)) hb3
  clear hw
  clear A
  have A := A'
  clear A'
  have B := B'
  clear B'
  have hw := hw'
  clear hw'
  clear hb3
  have A0 := k_cv A 0 rfl
  have A1 := k_cv A 1 rfl
  have A2 := k_cv A 2 rfl
  have lA := k_lt A
  have B0 := k_cv B 0 rfl
  have B1 := k_cv B 1 rfl
  have B2 := k_cv B 2 rfl
  have lB := k_lt B
  simp only [List.getElem_toArray, List.getElem_cons_succ, List.getElem_cons_zero] at A0 A1 A2 B0 B1 B2
  go_wp2_with fail
  refine (N4 _).mono ?_
  rintro e w4 ⟨rfl, hb4⟩
  clear A0 A1 A2 lA
  clear B0 B1 B2 lB
  have A' : w4.heap[w1.heap.size]? = some (.cells #[.int .u8 19, .int .u64 0, .string s] 25 (0, 0)) := k_go (by repeat (first | exact A | exact k_new rfl | with_reducible apply k_al)) hb4
  have B' : w4.heap[w2.heap.size]? = some (.cells #[.int .u8 19, .int .u64 0, .string t] 25 (0, 0)) := k_go (by repeat (first | exact B | exact k_new rfl | with_reducible apply k_al)) hb4
  have L' : w4.heap[w3.heap.size]? = some (.cells #[.int .u8 3, .int .u64 (k : Int), .string ⟨#[]⟩] 25 (0, 0)) := k_go (by repeat (first | exact k_new rfl | with_reducible apply k_al)) hb4
  have hw' : Below w.heap.size w w4 := b_go (by repeat (first | exact hw | exact Below.refl _ _ | with_reducible apply b_al)) hb4
  clear hw
  clear A
  have A := A'
  clear A'
  clear B
  have B := B'
  clear B'
  have L := L'
  clear L'
  have hw := hw'
  clear hw'
  clear hb4
  have A0 := k_cv A 0 rfl
  have A1 := k_cv A 1 rfl
  have A2 := k_cv A 2 rfl
  have lA := k_lt A
  have B0 := k_cv B 0 rfl
  have B1 := k_cv B 1 rfl
  have B2 := k_cv B 2 rfl
  have lB := k_lt B
  have L0 := k_cv L 0 rfl
  have L1 := k_cv L 1 rfl
  have L2 := k_cv L 2 rfl
  have lL := k_lt L
  simp only [List.getElem_toArray, List.getElem_cons_succ, List.getElem_cons_zero] at A0 A1 A2 B0 B1 B2 L0 L1 L2
  go_wp2_with fail
  refine (n_left s k hk hs _ _ _ (args_pair (by first | exact k_new rfl | exact k_new (by simp)))).mono ?_
  rintro e w5 ⟨rfl, hb5⟩
  clear A0 A1 A2 lA
  clear B0 B1 B2 lB
  clear L0 L1 L2 lL
  have A' : w5.heap[w1.heap.size]? = some (.cells #[.int .u8 19, .int .u64 0, .string s] 25 (0, 0)) := k_go (by repeat (first | exact A | exact k_new rfl | with_reducible apply k_al)) hb5
  have B' : w5.heap[w2.heap.size]? = some (.cells #[.int .u8 19, .int .u64 0, .string t] 25 (0, 0)) := k_go (by repeat (first | exact B | exact k_new rfl | with_reducible apply k_al)) hb5
  have L' : w5.heap[w3.heap.size]? = some (.cells #[.int .u8 3, .int .u64 (k : Int), .string ⟨#[]⟩] 25 (0, 0)) := k_go (by repeat (first | exact L | exact k_new rfl | with_reducible apply k_al)) hb5
  have R' : w5.heap[w4.heap.size]? = some (.cells #[.int .u8 3, .int .u64 ((s.size : Int) - k), .string ⟨#[]⟩] 25 (0, 0)) := k_go (by repeat (first | exact k_new rfl | with_reducible apply k_al)) hb5
  have hw' : Below w.heap.size w w5 := b_go (by repeat (first | exact hw | exact Below.refl _ _ | with_reducible apply b_al)) hb5
  clear hw
  clear A
  have A := A'
  clear A'
  clear B
  have B := B'
  clear B'
  clear L
  have L := L'
  clear L'
  have R := R'
  clear R'
  have hw := hw'
  clear hw'
  clear hb5
  have A0 := k_cv A 0 rfl
  have A1 := k_cv A 1 rfl
  have A2 := k_cv A 2 rfl
  have lA := k_lt A
  have B0 := k_cv B 0 rfl
  have B1 := k_cv B 1 rfl
  have B2 := k_cv B 2 rfl
  have lB := k_lt B
  have L0 := k_cv L 0 rfl
  have L1 := k_cv L 1 rfl
  have L2 := k_cv L 2 rfl
  have lL := k_lt L
  have R0 := k_cv R 0 rfl
  have R1 := k_cv R 1 rfl
  have R2 := k_cv R 2 rfl
  have lR := k_lt R
  simp only [List.getElem_toArray, List.getElem_cons_succ, List.getElem_cons_zero] at A0 A1 A2 B0 B1 B2 L0 L1 L2 R0 R1 R2
  go_wp2_with fail
  refine (n_right s k hk hs _ _ _ (args_pair (by first | exact k_new rfl | exact k_new (by simp)))).mono ?_
  rintro e w6 ⟨rfl, hb6⟩
  clear A0 A1 A2 lA
  clear B0 B1 B2 lB
  clear L0 L1 L2 lL
  clear R0 R1 R2 lR
  have A' : w6.heap[w1.heap.size]? = some (.cells #[.int .u8 19, .int .u64 0, .string s] 25 (0, 0)) := k_go (by repeat (first | exact A | exact k_new rfl | with_reducible apply k_al)) hb6
  have B' : w6.heap[w2.heap.size]? = some (.cells #[.int .u8 19, .int .u64 0, .string t] 25 (0, 0)) := k_go (by repeat (first | exact B | exact k_new rfl | with_reducible apply k_al)) hb6
  have L' : w6.heap[w3.heap.size]? = some (.cells #[.int .u8 3, .int .u64 (k : Int), .string ⟨#[]⟩] 25 (0, 0)) := k_go (by repeat (first | exact L | exact k_new rfl | with_reducible apply k_al)) hb6
  have R' : w6.heap[w4.heap.size]? = some (.cells #[.int .u8 3, .int .u64 ((s.size : Int) - k), .string ⟨#[]⟩] 25 (0, 0)) := k_go (by repeat (first | exact R | exact k_new rfl | with_reducible apply k_al)) hb6
  have X' : w6.heap[w5.heap.size]? = some (.cells #[.int .u8 19, .int .u64 0, .string (s.extract 0 k)] 25 (0, 0)) := k_go (by repeat (first | exact k_new rfl | with_reducible apply k_al)) hb6
  have hw' : Below w.heap.size w w6 := b_go (by repeat (first | exact hw | exact Below.refl _ _ | with_reducible apply b_al)) hb6
  clear hw
  clear A
  have A := A'
  clear A'
  clear B
  have B := B'
  clear B'
  clear L
  have L := L'
  clear L'
  clear R
  have R := R'
  clear R'
  have X := X'
  clear X'
  have hw := hw'
  clear hw'
  clear hb6
  have A0 := k_cv A 0 rfl
  have A1 := k_cv A 1 rfl
  have A2 := k_cv A 2 rfl
  have lA := k_lt A
  have B0 := k_cv B 0 rfl
  have B1 := k_cv B 1 rfl
  have B2 := k_cv B 2 rfl
  have lB := k_lt B
  have L0 := k_cv L 0 rfl
  have L1 := k_cv L 1 rfl
  have L2 := k_cv L 2 rfl
  have lL := k_lt L
  have R0 := k_cv R 0 rfl
  have R1 := k_cv R 1 rfl
  have R2 := k_cv R 2 rfl
  have lR := k_lt R
  have X0 := k_cv X 0 rfl
  have X1 := k_cv X 1 rfl
  have X2 := k_cv X 2 rfl
  have lX := k_lt X
  simp only [List.getElem_toArray, List.getElem_cons_succ, List.getElem_cons_zero] at A0 A1 A2 B0 B1 B2 L0 L1 L2 R0 R1 R2 X0 X1 X2
  go_wp2_with fail
  refine (n_concat s k hk hs _ _ _ (args_pair (by first | exact k_new rfl | exact k_new (by simp)))).mono ?_
  rintro e w7 ⟨rfl, hb7⟩
  clear A0 A1 A2 lA
  clear B0 B1 B2 lB
  clear L0 L1 L2 lL
  clear R0 R1 R2 lR
  clear X0 X1 X2 lX
  have A' : w7.heap[w1.heap.size]? = some (.cells #[.int .u8 19, .int .u64 0, .string s] 25 (0, 0)) := k_go (by repeat (first | exact A | exact k_new rfl | with_reducible apply k_al)) hb7
  have B' : w7.heap[w2.heap.size]? = some (.cells #[.int .u8 19, .int .u64 0, .string t] 25 (0, 0)) := k_go (by repeat (first | exact B | exact k_new rfl | with_reducible apply k_al)) hb7
  have L' : w7.heap[w3.heap.size]? = some (.cells #[.int .u8 3, .int .u64 (k : Int), .string ⟨#[]⟩] 25 (0, 0)) := k_go (by repeat (first | exact L | exact k_new rfl | with_reducible apply k_al)) hb7
  have R' : w7.heap[w4.heap.size]? = some (.cells #[.int .u8 3, .int .u64 ((s.size : Int) - k), .string ⟨#[]⟩] 25 (0, 0)) := k_go (by repeat (first | exact R | exact k_new rfl | with_reducible apply k_al)) hb7
  have X' : w7.heap[w5.heap.size]? = some (.cells #[.int .u8 19, .int .u64 0, .string (s.extract 0 k)] 25 (0, 0)) := k_go (by repeat (first | exact X | exact k_new rfl | with_reducible apply k_al)) hb7
  have Y' : w7.heap[w6.heap.size]? = some (.cells #[.int .u8 19, .int .u64 0, .string (s.extract k s.size)] 25 (0, 0)) := k_go (by repeat (first | exact k_new rfl | with_reducible apply k_al)) hb7
  have hw' : Below w.heap.size w w7 := b_go (by repeat (first | exact hw | exact Below.refl _ _ | with_reducible apply b_al)) hb7
  clear hw
  clear A
  have A := A'
  clear A'
  clear B
  have B := B'
  clear B'
  clear L
  have L := L'
  clear L'
  clear R
  have R := R'
  clear R'
  clear X
  have X := X'
  clear X'
  have Y := Y'
  clear Y'
  have hw := hw'
  clear hw'
  clear hb7
  have A0 := k_cv A 0 rfl
  have A1 := k_cv A 1 rfl
  have A2 := k_cv A 2 rfl
  have lA := k_lt A
  have B0 := k_cv B 0 rfl
  have B1 := k_cv B 1 rfl
  have B2 := k_cv B 2 rfl
  have lB := k_lt B
  have L0 := k_cv L 0 rfl
  have L1 := k_cv L 1 rfl
  have L2 := k_cv L 2 rfl
  have lL := k_lt L
  have R0 := k_cv R 0 rfl
  have R1 := k_cv R 1 rfl
  have R2 := k_cv R 2 rfl
  have lR := k_lt R
  have X0 := k_cv X 0 rfl
  have X1 := k_cv X 1 rfl
  have X2 := k_cv X 2 rfl
  have lX := k_lt X
  have Y0 := k_cv Y 0 rfl
  have Y1 := k_cv Y 1 rfl
  have Y2 := k_cv Y 2 rfl
  have lY := k_lt Y
  simp only [List.getElem_toArray, List.getElem_cons_succ, List.getElem_cons_zero] at A0 A1 A2 B0 B1 B2 L0 L1 L2 R0 R1 R2 X0 X1 X2 Y0 Y1 Y2
  go_wp2_with fail
  by_cases hp : s.size + t.size ≤ 254
  case neg =>
    refine (n_insertNo s t k hk hs ht hp _ _ _ (args_three (by first | exact k_new rfl | exact k_new (by simp)))).mono ?_
    rintro e w8 ⟨rfl, hb8⟩
    clear A0 A1 A2 lA
    clear B0 B1 B2 lB
    clear L0 L1 L2 lL
    clear R0 R1 R2 lR
    clear X0 X1 X2 lX
    clear Y0 Y1 Y2 lY
    have A' : w8.heap[w1.heap.size]? = some (.cells #[.int .u8 19, .int .u64 0, .string s] 25 (0, 0)) := k_go (by repeat (first | exact A | exact k_new rfl | with_reducible apply k_al)) hb8
    have B' : w8.heap[w2.heap.size]? = some (.cells #[.int .u8 19, .int .u64 0, .string t] 25 (0, 0)) := k_go (by repeat (first | exact B | exact k_new rfl | with_reducible apply k_al)) hb8
    have L' : w8.heap[w3.heap.size]? = some (.cells #[.int .u8 3, .int .u64 (k : Int), .string ⟨#[]⟩] 25 (0, 0)) := k_go (by repeat (first | exact L | exact k_new rfl | with_reducible apply k_al)) hb8
    have R' : w8.heap[w4.heap.size]? = some (.cells #[.int .u8 3, .int .u64 ((s.size : Int) - k), .string ⟨#[]⟩] 25 (0, 0)) := k_go (by repeat (first | exact R | exact k_new rfl | with_reducible apply k_al)) hb8
    have X' : w8.heap[w5.heap.size]? = some (.cells #[.int .u8 19, .int .u64 0, .string (s.extract 0 k)] 25 (0, 0)) := k_go (by repeat (first | exact X | exact k_new rfl | with_reducible apply k_al)) hb8
    have Y' : w8.heap[w6.heap.size]? = some (.cells #[.int .u8 19, .int .u64 0, .string (s.extract k s.size)] 25 (0, 0)) := k_go (by repeat (first | exact Y | exact k_new rfl | with_reducible apply k_al)) hb8
    have Z' : w8.heap[w7.heap.size]? = some (.cells #[.int .u8 19, .int .u64 0, .string s] 25 (0, 0)) := k_go (by repeat (first | exact k_new rfl | with_reducible apply k_al)) hb8
    have hw' : Below w.heap.size w w8 := b_go (by repeat (first | exact hw | exact Below.refl _ _ | with_reducible apply b_al)) hb8
    clear hw
    clear A
    have A := A'
    clear A'
    clear B
    have B := B'
    clear B'
    clear L
    have L := L'
    clear L'
    clear R
    have R := R'
    clear R'
    clear X
    have X := X'
    clear X'
    clear Y
    have Y := Y'
    clear Y'
    have Z := Z'
    clear Z'
    have hw := hw'
    clear hw'
    clear hb8
    have A0 := k_cv A 0 rfl
    have A1 := k_cv A 1 rfl
    have A2 := k_cv A 2 rfl
    have lA := k_lt A
    have B0 := k_cv B 0 rfl
    have B1 := k_cv B 1 rfl
    have B2 := k_cv B 2 rfl
    have lB := k_lt B
    have L0 := k_cv L 0 rfl
    have L1 := k_cv L 1 rfl
    have L2 := k_cv L 2 rfl
    have lL := k_lt L
    have R0 := k_cv R 0 rfl
    have R1 := k_cv R 1 rfl
    have R2 := k_cv R 2 rfl
    have lR := k_lt R
    have X0 := k_cv X 0 rfl
    have X1 := k_cv X 1 rfl
    have X2 := k_cv X 2 rfl
    have lX := k_lt X
    have Y0 := k_cv Y 0 rfl
    have Y1 := k_cv Y 1 rfl
    have Y2 := k_cv Y 2 rfl
    have lY := k_lt Y
    have Z0 := k_cv Z 0 rfl
    have Z1 := k_cv Z 1 rfl
    have Z2 := k_cv Z 2 rfl
    have lZ := k_lt Z
    simp only [List.getElem_toArray, List.getElem_cons_succ, List.getElem_cons_zero] at A0 A1 A2 B0 B1 B2 L0 L1 L2 R0 R1 R2 X0 X1 X2 Y0 Y1 Y2 Z0 Z1 Z2
    have hg : (254 : Int) < (s.size : Int) + t.size := by omega
    clear hp
    go_wp2_with fail
    all_goals first
      | (exfalso; simp_all; done)
      | (exfalso; omega)
      | (go_ret; exact ⟨rfl, by repeat (first | exact hw | with_reducible apply b_al)⟩)
  refine (n_insertOk s t k hk hs ht hp _ _ _ (args_three (by first | exact k_new rfl | exact k_new (by simp)))).mono ?_
  rintro e w8 ⟨rfl, hb8⟩
  clear A0 A1 A2 lA
  clear B0 B1 B2 lB
  clear L0 L1 L2 lL
  clear R0 R1 R2 lR
  clear X0 X1 X2 lX
  clear Y0 Y1 Y2 lY
  have A' : w8.heap[w1.heap.size]? = some (.cells #[.int .u8 19, .int .u64 0, .string s] 25 (0, 0)) := k_go (by repeat (first | exact A | exact k_new rfl | with_reducible apply k_al)) hb8
  have B' : w8.heap[w2.heap.size]? = some (.cells #[.int .u8 19, .int .u64 0, .string t] 25 (0, 0)) := k_go (by repeat (first | exact B | exact k_new rfl | with_reducible apply k_al)) hb8
  have L' : w8.heap[w3.heap.size]? = some (.cells #[.int .u8 3, .int .u64 (k : Int), .string ⟨#[]⟩] 25 (0, 0)) := k_go (by repeat (first | exact L | exact k_new rfl | with_reducible apply k_al)) hb8
  have R' : w8.heap[w4.heap.size]? = some (.cells #[.int .u8 3, .int .u64 ((s.size : Int) - k), .string ⟨#[]⟩] 25 (0, 0)) := k_go (by repeat (first | exact R | exact k_new rfl | with_reducible apply k_al)) hb8
  have X' : w8.heap[w5.heap.size]? = some (.cells #[.int .u8 19, .int .u64 0, .string (s.extract 0 k)] 25 (0, 0)) := k_go (by repeat (first | exact X | exact k_new rfl | with_reducible apply k_al)) hb8
  have Y' : w8.heap[w6.heap.size]? = some (.cells #[.int .u8 19, .int .u64 0, .string (s.extract k s.size)] 25 (0, 0)) := k_go (by repeat (first | exact Y | exact k_new rfl | with_reducible apply k_al)) hb8
  have Z' : w8.heap[w7.heap.size]? = some (.cells #[.int .u8 19, .int .u64 0, .string s] 25 (0, 0)) := k_go (by repeat (first | exact k_new rfl | with_reducible apply k_al)) hb8
  have hw' : Below w.heap.size w w8 := b_go (by repeat (first | exact hw | exact Below.refl _ _ | with_reducible apply b_al)) hb8
  clear hw
  clear A
  have A := A'
  clear A'
  clear B
  have B := B'
  clear B'
  clear L
  have L := L'
  clear L'
  clear R
  have R := R'
  clear R'
  clear X
  have X := X'
  clear X'
  clear Y
  have Y := Y'
  clear Y'
  have Z := Z'
  clear Z'
  have hw := hw'
  clear hw'
  clear hb8
  have A0 := k_cv A 0 rfl
  have A1 := k_cv A 1 rfl
  have A2 := k_cv A 2 rfl
  have lA := k_lt A
  have B0 := k_cv B 0 rfl
  have B1 := k_cv B 1 rfl
  have B2 := k_cv B 2 rfl
  have lB := k_lt B
  have L0 := k_cv L 0 rfl
  have L1 := k_cv L 1 rfl
  have L2 := k_cv L 2 rfl
  have lL := k_lt L
  have R0 := k_cv R 0 rfl
  have R1 := k_cv R 1 rfl
  have R2 := k_cv R 2 rfl
  have lR := k_lt R
  have X0 := k_cv X 0 rfl
  have X1 := k_cv X 1 rfl
  have X2 := k_cv X 2 rfl
  have lX := k_lt X
  have Y0 := k_cv Y 0 rfl
  have Y1 := k_cv Y 1 rfl
  have Y2 := k_cv Y 2 rfl
  have lY := k_lt Y
  have Z0 := k_cv Z 0 rfl
  have Z1 := k_cv Z 1 rfl
  have Z2 := k_cv Z 2 rfl
  have lZ := k_lt Z
  simp only [List.getElem_toArray, List.getElem_cons_succ, List.getElem_cons_zero] at A0 A1 A2 B0 B1 B2 L0 L1 L2 R0 R1 R2 X0 X1 X2 Y0 Y1 Y2 Z0 Z1 Z2
  have hg : ¬ (254 : Int) < (s.size : Int) + t.size := by omega
  have HP := Lib.hid hp
  clear hp
  go_wp2_with fail
  refine (N5 _).mono ?_
  rintro e w9 ⟨rfl, hb9⟩
  clear A0 A1 A2 lA
  clear B0 B1 B2 lB
  clear L0 L1 L2 lL
  clear R0 R1 R2 lR
  clear X0 X1 X2 lX
  clear Y0 Y1 Y2 lY
  clear Z0 Z1 Z2 lZ
  have A' : w9.heap[w1.heap.size]? = some (.cells #[.int .u8 19, .int .u64 0, .string s] 25 (0, 0)) := k_go (by repeat (first | exact A | exact k_new rfl | with_reducible apply k_al)) hb9
  have B' : w9.heap[w2.heap.size]? = some (.cells #[.int .u8 19, .int .u64 0, .string t] 25 (0, 0)) := k_go (by repeat (first | exact B | exact k_new rfl | with_reducible apply k_al)) hb9
  have L' : w9.heap[w3.heap.size]? = some (.cells #[.int .u8 3, .int .u64 (k : Int), .string ⟨#[]⟩] 25 (0, 0)) := k_go (by repeat (first | exact L | exact k_new rfl | with_reducible apply k_al)) hb9
  have R' : w9.heap[w4.heap.size]? = some (.cells #[.int .u8 3, .int .u64 ((s.size : Int) - k), .string ⟨#[]⟩] 25 (0, 0)) := k_go (by repeat (first | exact R | exact k_new rfl | with_reducible apply k_al)) hb9
  have X' : w9.heap[w5.heap.size]? = some (.cells #[.int .u8 19, .int .u64 0, .string (s.extract 0 k)] 25 (0, 0)) := k_go (by repeat (first | exact X | exact k_new rfl | with_reducible apply k_al)) hb9
  have Y' : w9.heap[w6.heap.size]? = some (.cells #[.int .u8 19, .int .u64 0, .string (s.extract k s.size)] 25 (0, 0)) := k_go (by repeat (first | exact Y | exact k_new rfl | with_reducible apply k_al)) hb9
  have Z' : w9.heap[w7.heap.size]? = some (.cells #[.int .u8 19, .int .u64 0, .string s] 25 (0, 0)) := k_go (by repeat (first | exact Z | exact k_new rfl | with_reducible apply k_al)) hb9
  have Q' : w9.heap[w8.heap.size]? = some (.cells #[.int .u8 19, .int .u64 0, .string (s.extract 0 k ++ t ++ s.extract k s.size)] 25 (0, 0)) := k_go (by repeat (first | exact k_new rfl | with_reducible apply k_al)) hb9
  have hw' : Below w.heap.size w w9 := b_go (by repeat (first | exact hw | exact Below.refl _ _ | with_reducible apply b_al)) hb9
  clear hw
  clear A
  have A := A'
  clear A'
  clear B
  have B := B'
  clear B'
  clear L
  have L := L'
  clear L'
  clear R
  have R := R'
  clear R'
  clear X
  have X := X'
  clear X'
  clear Y
  have Y := Y'
  clear Y'
  clear Z
  have Z := Z'
  clear Z'
  have Q := Q'
  clear Q'
  have hw := hw'
  clear hw'
  clear hb9
  have A0 := k_cv A 0 rfl
  have A1 := k_cv A 1 rfl
  have A2 := k_cv A 2 rfl
  have lA := k_lt A
  have B0 := k_cv B 0 rfl
  have B1 := k_cv B 1 rfl
  have B2 := k_cv B 2 rfl
  have lB := k_lt B
  have L0 := k_cv L 0 rfl
  have L1 := k_cv L 1 rfl
  have L2 := k_cv L 2 rfl
  have lL := k_lt L
  have R0 := k_cv R 0 rfl
  have R1 := k_cv R 1 rfl
  have R2 := k_cv R 2 rfl
  have lR := k_lt R
  have X0 := k_cv X 0 rfl
  have X1 := k_cv X 1 rfl
  have X2 := k_cv X 2 rfl
  have lX := k_lt X
  have Y0 := k_cv Y 0 rfl
  have Y1 := k_cv Y 1 rfl
  have Y2 := k_cv Y 2 rfl
  have lY := k_lt Y
  have Z0 := k_cv Z 0 rfl
  have Z1 := k_cv Z 1 rfl
  have Z2 := k_cv Z 2 rfl
  have lZ := k_lt Z
  have Q0 := k_cv Q 0 rfl
  have Q1 := k_cv Q 1 rfl
  have Q2 := k_cv Q 2 rfl
  have lQ := k_lt Q
  simp only [List.getElem_toArray, List.getElem_cons_succ, List.getElem_cons_zero] at A0 A1 A2 B0 B1 B2 L0 L1 L2 R0 R1 R2 X0 X1 X2 Y0 Y1 Y2 Z0 Z1 Z2 Q0 Q1 Q2
  go_wp2_with fail
  refine (N6 _).mono ?_
  rintro e w10 ⟨rfl, hb10⟩
  clear A0 A1 A2 lA
  clear B0 B1 B2 lB
  clear L0 L1 L2 lL
  clear R0 R1 R2 lR
  clear X0 X1 X2 lX
  clear Y0 Y1 Y2 lY
  clear Z0 Z1 Z2 lZ
  clear Q0 Q1 Q2 lQ
  have A' : w10.heap[w1.heap.size]? = some (.cells #[.int .u8 19, .int .u64 0, .string s] 25 (0, 0)) := k_go (by repeat (first | exact A | exact k_new rfl | with_reducible apply k_al)) hb10
  have B' : w10.heap[w2.heap.size]? = some (.cells #[.int .u8 19, .int .u64 0, .string t] 25 (0, 0)) := k_go (by repeat (first | exact B | exact k_new rfl | with_reducible apply k_al)) hb10
  have L' : w10.heap[w3.heap.size]? = some (.cells #[.int .u8 3, .int .u64 (k : Int), .string ⟨#[]⟩] 25 (0, 0)) := k_go (by repeat (first | exact L | exact k_new rfl | with_reducible apply k_al)) hb10
  have R' : w10.heap[w4.heap.size]? = some (.cells #[.int .u8 3, .int .u64 ((s.size : Int) - k), .string ⟨#[]⟩] 25 (0, 0)) := k_go (by repeat (first | exact R | exact k_new rfl | with_reducible apply k_al)) hb10
  have X' : w10.heap[w5.heap.size]? = some (.cells #[.int .u8 19, .int .u64 0, .string (s.extract 0 k)] 25 (0, 0)) := k_go (by repeat (first | exact X | exact k_new rfl | with_reducible apply k_al)) hb10
  have Y' : w10.heap[w6.heap.size]? = some (.cells #[.int .u8 19, .int .u64 0, .string (s.extract k s.size)] 25 (0, 0)) := k_go (by repeat (first | exact Y | exact k_new rfl | with_reducible apply k_al)) hb10
  have Z' : w10.heap[w7.heap.size]? = some (.cells #[.int .u8 19, .int .u64 0, .string s] 25 (0, 0)) := k_go (by repeat (first | exact Z | exact k_new rfl | with_reducible apply k_al)) hb10
  have Q' : w10.heap[w8.heap.size]? = some (.cells #[.int .u8 19, .int .u64 0, .string (s.extract 0 k ++ t ++ s.extract k s.size)] 25 (0, 0)) := k_go (by repeat (first | exact Q | exact k_new rfl | with_reducible apply k_al)) hb10
  have S' : w10.heap[w9.heap.size]? = some (.cells #[.int .u8 3, .int .u64 (t.size : Int), .string ⟨#[]⟩] 25 (0, 0)) := k_go (by repeat (first | exact k_new rfl | with_reducible apply k_al)) hb10
  have hw' : Below w.heap.size w w10 := b_go (by repeat (first | exact hw | exact Below.refl _ _ | with_reducible apply b_al)) hb10
  clear hw
  clear A
  have A := A'
  clear A'
  clear B
  have B := B'
  clear B'
  clear L
  have L := L'
  clear L'
  clear R
  have R := R'
  clear R'
  clear X
  have X := X'
  clear X'
  clear Y
  have Y := Y'
  clear Y'
  clear Z
  have Z := Z'
  clear Z'
  clear Q
  have Q := Q'
  clear Q'
  have S := S'
  clear S'
  have hw := hw'
  clear hw'
  clear hb10
  have A0 := k_cv A 0 rfl
  have A1 := k_cv A 1 rfl
  have A2 := k_cv A 2 rfl
  have lA := k_lt A
  have B0 := k_cv B 0 rfl
  have B1 := k_cv B 1 rfl
  have B2 := k_cv B 2 rfl
  have lB := k_lt B
  have L0 := k_cv L 0 rfl
  have L1 := k_cv L 1 rfl
  have L2 := k_cv L 2 rfl
  have lL := k_lt L
  have R0 := k_cv R 0 rfl
  have R1 := k_cv R 1 rfl
  have R2 := k_cv R 2 rfl
  have lR := k_lt R
  have X0 := k_cv X 0 rfl
  have X1 := k_cv X 1 rfl
  have X2 := k_cv X 2 rfl
  have lX := k_lt X
  have Y0 := k_cv Y 0 rfl
  have Y1 := k_cv Y 1 rfl
  have Y2 := k_cv Y 2 rfl
  have lY := k_lt Y
  have Z0 := k_cv Z 0 rfl
  have Z1 := k_cv Z 1 rfl
  have Z2 := k_cv Z 2 rfl
  have lZ := k_lt Z
  have Q0 := k_cv Q 0 rfl
  have Q1 := k_cv Q 1 rfl
  have Q2 := k_cv Q 2 rfl
  have lQ := k_lt Q
  have S0 := k_cv S 0 rfl
  have S1 := k_cv S 1 rfl
  have S2 := k_cv S 2 rfl
  have lS := k_lt S
  simp only [List.getElem_toArray, List.getElem_cons_succ, List.getElem_cons_zero] at A0 A1 A2 B0 B1 B2 L0 L1 L2 R0 R1 R2 X0 X1 X2 Y0 Y1 Y2 Z0 Z1 Z2 Q0 Q1 Q2 S0 S1 S2
  go_wp2_with fail
  refine (n_delete s t k hk hs ht HP.out _ _ _ (args_three (by first | exact k_new rfl | exact k_new (by simp)))).mono ?_
  rintro e w11 ⟨rfl, hb11⟩
  clear A0 A1 A2 lA
  clear B0 B1 B2 lB
  clear L0 L1 L2 lL
  clear R0 R1 R2 lR
  clear X0 X1 X2 lX
  clear Y0 Y1 Y2 lY
  clear Z0 Z1 Z2 lZ
  clear Q0 Q1 Q2 lQ
  clear S0 S1 S2 lS
  have A' : w11.heap[w1.heap.size]? = some (.cells #[.int .u8 19, .int .u64 0, .string s] 25 (0, 0)) := k_go (by repeat (first | exact A | exact k_new rfl | with_reducible apply k_al)) hb11
  have B' : w11.heap[w2.heap.size]? = some (.cells #[.int .u8 19, .int .u64 0, .string t] 25 (0, 0)) := k_go (by repeat (first | exact B | exact k_new rfl | with_reducible apply k_al)) hb11
  have L' : w11.heap[w3.heap.size]? = some (.cells #[.int .u8 3, .int .u64 (k : Int), .string ⟨#[]⟩] 25 (0, 0)) := k_go (by repeat (first | exact L | exact k_new rfl | with_reducible apply k_al)) hb11
  have R' : w11.heap[w4.heap.size]? = some (.cells #[.int .u8 3, .int .u64 ((s.size : Int) - k), .string ⟨#[]⟩] 25 (0, 0)) := k_go (by repeat (first | exact R | exact k_new rfl | with_reducible apply k_al)) hb11
  have X' : w11.heap[w5.heap.size]? = some (.cells #[.int .u8 19, .int .u64 0, .string (s.extract 0 k)] 25 (0, 0)) := k_go (by repeat (first | exact X | exact k_new rfl | with_reducible apply k_al)) hb11
  have Y' : w11.heap[w6.heap.size]? = some (.cells #[.int .u8 19, .int .u64 0, .string (s.extract k s.size)] 25 (0, 0)) := k_go (by repeat (first | exact Y | exact k_new rfl | with_reducible apply k_al)) hb11
  have Z' : w11.heap[w7.heap.size]? = some (.cells #[.int .u8 19, .int .u64 0, .string s] 25 (0, 0)) := k_go (by repeat (first | exact Z | exact k_new rfl | with_reducible apply k_al)) hb11
  have Q' : w11.heap[w8.heap.size]? = some (.cells #[.int .u8 19, .int .u64 0, .string (s.extract 0 k ++ t ++ s.extract k s.size)] 25 (0, 0)) := k_go (by repeat (first | exact Q | exact k_new rfl | with_reducible apply k_al)) hb11
  have S' : w11.heap[w9.heap.size]? = some (.cells #[.int .u8 3, .int .u64 (t.size : Int), .string ⟨#[]⟩] 25 (0, 0)) := k_go (by repeat (first | exact S | exact k_new rfl | with_reducible apply k_al)) hb11
  have F' : w11.heap[w10.heap.size]? = some (.cells #[.int .u8 3, .int .u64 ((k : Int) + 1), .string ⟨#[]⟩] 25 (0, 0)) := k_go (by repeat (first | exact k_new rfl | with_reducible apply k_al)) hb11
  have hw' : Below w.heap.size w w11 := b_go (by repeat (first | exact hw | exact Below.refl _ _ | with_reducible apply b_al)) hb11
  clear hw
  clear A
  have A := A'
  clear A'
  clear B
  have B := B'
  clear B'
  clear L
  have L := L'
  clear L'
  clear R
  have R := R'
  clear R'
  clear X
  have X := X'
  clear X'
  clear Y
  have Y := Y'
  clear Y'
  clear Z
  have Z := Z'
  clear Z'
  clear Q
  have Q := Q'
  clear Q'
  clear S
  have S := S'
  clear S'
  have F := F'
  clear F'
  have hw := hw'
  clear hw'
  clear hb11
  have A0 := k_cv A 0 rfl
  have A1 := k_cv A 1 rfl
  have A2 := k_cv A 2 rfl
  have lA := k_lt A
  have B0 := k_cv B 0 rfl
  have B1 := k_cv B 1 rfl
  have B2 := k_cv B 2 rfl
  have lB := k_lt B
  have L0 := k_cv L 0 rfl
  have L1 := k_cv L 1 rfl
  have L2 := k_cv L 2 rfl
  have lL := k_lt L
  have R0 := k_cv R 0 rfl
  have R1 := k_cv R 1 rfl
  have R2 := k_cv R 2 rfl
  have lR := k_lt R
  have X0 := k_cv X 0 rfl
  have X1 := k_cv X 1 rfl
  have X2 := k_cv X 2 rfl
  have lX := k_lt X
  have Y0 := k_cv Y 0 rfl
  have Y1 := k_cv Y 1 rfl
  have Y2 := k_cv Y 2 rfl
  have lY := k_lt Y
  have Z0 := k_cv Z 0 rfl
  have Z1 := k_cv Z 1 rfl
  have Z2 := k_cv Z 2 rfl
  have lZ := k_lt Z
  have Q0 := k_cv Q 0 rfl
  have Q1 := k_cv Q 1 rfl
  have Q2 := k_cv Q 2 rfl
  have lQ := k_lt Q
  have S0 := k_cv S 0 rfl
  have S1 := k_cv S 1 rfl
  have S2 := k_cv S 2 rfl
  have lS := k_lt S
  have F0 := k_cv F 0 rfl
  have F1 := k_cv F 1 rfl
  have F2 := k_cv F 2 rfl
  have lF := k_lt F
  simp only [List.getElem_toArray, List.getElem_cons_succ, List.getElem_cons_zero] at A0 A1 A2 B0 B1 B2 L0 L1 L2 R0 R1 R2 X0 X1 X2 Y0 Y1 Y2 Z0 Z1 Z2 Q0 Q1 Q2 S0 S1 S2 F0 F1 F2
  go_wp2_with fail
  all_goals first
    | (exfalso; simp_all; done)
    | (go_ret; exact ⟨ret_bool (by simp_all), by repeat (first | exact hw | with_reducible apply b_al)⟩)
end Go.Proofs.YtflhndjpfiklaaaGreatDoor.H
