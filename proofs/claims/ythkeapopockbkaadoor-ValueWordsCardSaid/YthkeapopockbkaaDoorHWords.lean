/- Contracts of the words of kinds, of hexadecimal texts and of Print at every kind, of the program and of the document. Conditions: bits are 64, a text lies within reach, and strconv's and math/bits' tables are as laid. -/
import Derived.Test.YthkeapopockbkaaDoorHFmt10
import Derived.Test.YthkeapopockbkaaDoorHWordsA
import Derived.Test.YthkeapopockbkaaDoorHWordsQ
import Derived.WalkSmall
import Derived.Handy
import Derived.Deep.RegionHeld3
namespace Go.Proofs.YthkeapopockbkaaDoor.H
set_option linter.unusedVariables false
open Go.RowKit Go.Proofs.YthkeapopockbkaaDoor.Plain
set_option maxHeartbeats 3200000
set_option maxRecDepth 100000
set_option linter.unusedSimpArgs false
attribute [local go_sem] ext_from ext_bits cell_isSome un_neg_float
theorem var_go {P : Program} {w w' : World} {n : String} {cs : Array Value} (h : w.var? P n = some cs) (hb : Below w.heap.size w w') : w'.var? P n = some cs := by
  unfold World.var? at h ⊢
  cases hg : P.globalNamed n with
  | none => rw [hg] at h; simp at h
  | some g =>
    rw [hg] at h
    simp only [Option.bind_some] at h ⊢
    cases hc : w.heap[g]? with
    | none => rw [hc] at h; simp at h
    | some o => rw [k_go hc hb]; rw [hc] at h; exact h
/-- What the statement's row lists of the library's variables, as far as the walks need it. -/
structure Laid (w : World) : Prop where
  tab : Lib.TabIs Tryd.prog w "internal/strconv.uint64pow10" .u64 Lib.pow10Tab
  tz : w.cell? ⟨7, 15, none⟩ = some (.int .u8 4)
  lt : 7 < w.heap.size
theorem Laid.go {w w' : World} (h : Laid w) (hb : Below w.heap.size w w') : Laid w' :=
  ⟨var_go h.tab hb, (hb.cell (p := ⟨7, 15, none⟩) h.lt).trans h.tz, Nat.lt_of_lt_of_le h.lt hb.size⟩
theorem b_grow (w : World) (k : Nat) (os : Array Obj) : Below w.heap.size w (Go.Sort.grow (w.drewN k) os) := Lib.below_grow _ _ (Nat.le_refl _) _ _
theorem wrap_lo (b : Int) : -9223372036854775808 ≤ wrap64 b := by unfold wrap64; omega
theorem wrap_hi (b : Int) : wrap64 b ≤ 9223372036854775807 := by unfold wrap64; omega
theorem ret_str {a b : ByteArray} (h : a = b) : Ending.returned (.string a) = Ending.returned (.string b) := by rw [h]
theorem fmtU (u : Nat) (hu : u < 18446744073709551616) {w : World} (hL : Laid w) : Calls Tryd.prog 15 #[.int .u64 u, .int .i64 10] w fun e w' => e = .returned (.string ⟨(Lib.decDigits u).toArray⟩) ∧ Below w.heap.size w w' :=
  (Tryd.FormatUint_10 u hu w hL.tab).mono fun _ _ ⟨he, _, _, hw⟩ => ⟨he, by rw [hw]; exact b_grow _ _ _⟩
theorem fmtX (u : Nat) (hu : u < 18446744073709551616) {w : World} (hL : Laid w) : Calls Tryd.prog 15 #[.int .u64 u, .int .i64 16] w fun e w' => e = .returned (.string ⟨(hexL u).toArray⟩) ∧ Below w.heap.size w w' :=
  (Tryd.FormatUint_16 u hu w (fun o => (hL.go ((Below.refl _ w).alloc (Nat.le_refl _) o)).tz)).mono fun _ _ ⟨he, _, _, hw⟩ => ⟨he, by rw [hw]; exact b_grow _ _ _⟩
theorem fmtI (n : Int) (h0 : -9223372036854775808 ≤ n) (h1 : n ≤ 9223372036854775807) {w : World} (hL : Laid w) : Calls Tryd.prog 19 #[.int .i64 n, .int .i64 10] w fun e w' => e = .returned (.string ⟨(Lib.itoa n).toArray⟩) ∧ Below w.heap.size w w' :=
  (Tryd.strconv_FormatInt_10 n h0 h1 w hL.tab).mono fun _ _ ⟨he, _, _, hw⟩ => ⟨he, by rw [hw]; exact b_grow _ _ _⟩
theorem itoaC (n : Int) (h0 : -9223372036854775808 ≤ n) (h1 : n ≤ 9223372036854775807) {w : World} (hL : Laid w) : Calls Tryd.prog 24 #[.int .i64 n] w fun e w' => e = .returned (.string ⟨(Lib.itoa n).toArray⟩) ∧ Below w.heap.size w w' :=
  (Tryd.strconv_Itoa n h0 h1 w hL.tab).mono fun _ _ ⟨he, _, _, hw⟩ => ⟨he, by rw [hw]; exact b_grow _ _ _⟩
theorem upC (u : Nat) (hu : u < 18446744073709551616) (w : World) : Calls Tryd.prog 17 #[.string ⟨(hexL u).toArray⟩] w fun e w' => e = .returned (.string ⟨(Lib.toUpperA (hexL u)).toArray⟩) ∧ Below w.heap.size w w' :=
  (Tryd.strings_ToUpper_ascii ⟨(hexL u).toArray⟩ w (by have := hexL_16 u hu; simp [ByteArray.size]; omega) (fun j b hj => hexL_ascii u b (List.mem_of_getElem? (by simpa using hj)))).mono fun _ _ ⟨he, hb⟩ => ⟨by simpa using he, hb⟩
theorem repC (c : Nat) (hc : c ≤ 16) (w : World) : Calls Tryd.prog 18 #[.string ⟨#[48]⟩, .int .i64 c] w fun e w' => e = .returned (.string ⟨(List.replicate c 48).toArray⟩) ∧ Below w.heap.size w w' :=
  (Tryd.strings_Repeat ⟨#[48]⟩ c w (by omega) (by simp [ByteArray.size]; omega)).mono fun _ _ ⟨he, hb⟩ => ⟨by rw [he]; have := Lib.repeatL_replicate 48 1 c; simp at this; simp [this], hb⟩
theorem repI (x : Int) (h0 : 0 ≤ x) (h1 : x ≤ 16) (w : World) : Calls Tryd.prog 18 #[.string ⟨#[48]⟩, .int .i64 x] w fun e w' => e = .returned (.string ⟨(List.replicate x.toNat 48).toArray⟩) ∧ Below w.heap.size w w' := by
  obtain ⟨c, rfl⟩ := Int.eq_ofNat_of_zero_le h0
  exact repC c (by omega) w
theorem ba_two (a b : List UInt8) : (⟨a.toArray⟩ : ByteArray) ++ ⟨b.toArray⟩ = ⟨(a ++ b).toArray⟩ := by
  apply ByteArray.ext
  simp [ByteArray.data_append]
theorem ba_app (l : List UInt8) : (⟨#[49, 54, 35]⟩ : ByteArray) ++ ⟨l.toArray⟩ = ⟨(49 :: 54 :: 35 :: l).toArray⟩ := by
  apply ByteArray.ext
  simp [ByteArray.data_append]
theorem ba_three (a : ByteArray) (n : Nat) (l : List UInt8) : a ++ (⟨Array.replicate n 48⟩ : ByteArray) ++ (⟨l.toArray⟩ : ByteArray) = a ++ ⟨(List.replicate n 48 ++ l).toArray⟩ := by
  apply ByteArray.ext
  simp only [ByteArray.data_append, Array.append_assoc]
  congr 1
  apply Array.ext'
  simp
theorem ft_bool {b : Int} {t : ByteArray} (hm : mayB 1 b t = true) : fullT 1 b t = if b = 0 then ⟨#[70, 65, 76, 83, 69]⟩ else ⟨#[84, 82, 85, 69]⟩ := by simp [fullT, hm]
theorem ft_bool1 {b : Int} {t : ByteArray} (h0 : 0 ≤ b) (hm : mayB 1 b t = true) : b = 0 ∨ b = 1 := by
  have := (may_fits hm (by decide) (by decide)).1
  have := of_decide_eq_true this
  omega
theorem ft_un {kd b : Int} {t : ByteArray} (hm : mayB kd b t = true) (h : unB kd = true) : fullT kd b t = ⟨(Lib.decDigits b.toNat).toArray⟩ := by
  have h2 : 6 ≤ kd ∧ kd ≤ 9 := by simpa [unB] using h
  unfold fullT
  rw [if_neg (by simp [hm]), if_neg (by omega), if_neg (by omega), if_neg (by omega), if_neg (by omega), if_pos h2]
theorem ft_row {kd b : Int} {t : ByteArray} (hm : mayB kd b t = true) (h : rowB kd = true) : fullT kd b t = ⟨#[49, 54, 35]⟩ ++ ⟨(hexF b.toNat 1).toArray⟩ := by
  have h2 : 10 ≤ kd ∧ kd ≤ 13 := by simpa [rowB] using h
  unfold fullT
  rw [if_neg (by simp [hm]), if_neg (by omega), if_neg (by omega), if_neg (by omega), if_pos h2]
theorem ft_real {b : Int} {t : ByteArray} (hm : mayB 18 b t = true) : fullT 18 b t = ⟨#[49, 54, 35]⟩ ++ ⟨(hexF b.toNat 16).toArray⟩ := by simp [fullT, hm]
theorem ft_else {kd b : Int} {t : ByteArray} (hm : mayB kd b t = true) (h1 : kd ≠ 1) (h2 : unB kd = false) (h3 : rowB kd = false) (h4 : kd ≠ 18) (h5 : kd ≠ 19) : fullT kd b t = ⟨(Lib.itoa (wrap64 b)).toArray⟩ := by
  have h2 : ¬ (6 ≤ kd ∧ kd ≤ 9) := by simpa [unB] using h2
  have h3 : ¬ (10 ≤ kd ∧ kd ≤ 13) := by simpa [rowB] using h3
  unfold fullT
  rw [if_neg (by simp [hm]), if_neg h5, if_neg h1, if_neg h4, if_neg h3, if_neg h2]
theorem v_Print (kd b : Int) (t : ByteArray) (h0 : 0 ≤ b) (h1 : b < 18446744073709551616) (w : World) (hL : Laid w) : Calls Tryd.prog 8 #[.agg #[.int .u8 kd, .int .u64 b, .string t]] w fun e w' => e = .returned (.string (fullT kd b t)) ∧ Below w.heap.size w w' := by
  have N1 := fun W => v_may kd b t h0 h1 W
  obtain ⟨u, rfl⟩ := Int.eq_ofNat_of_zero_le h0
  have hu : u < 18446744073709551616 := by omega
  have N2 := fun W (hb : Below w.heap.size w W) => fmtU u hu (hL.go hb)
  have N3 := fun W (hb : Below w.heap.size w W) => fmtI (wrap64 u) (wrap_lo _) (wrap_hi _) (hL.go hb)
  have N4 := fun W (hb : Below w.heap.size w W) => fmtX u hu (hL.go hb)
  obtain ⟨U, hU⟩ : ∃ U, Lib.toUpperA (hexL u) = U := ⟨_, rfl⟩
  have N5 : ∀ W, Calls Tryd.prog 17 #[.string ⟨(hexL u).toArray⟩] W fun e w' => e = .returned (.string ⟨U.toArray⟩) ∧ Below W.heap.size W w' := fun W => hU ▸ upC u hu W
  have hx : U.length ≤ 16 := by rw [← hU, upper_len]; exact hexL_16 u hu
  have F1 := Lib.hid (hU ▸ hexF_one u)
  have F2 := Lib.hid (hU ▸ hexF_16 u)
  have N6 := fun W => repI (16 - (U.length : Int)) (by omega) (by omega) W
  clear h1 h0 hL hu hU
  go_enter Tryd.func8, Tryd.ntmps8
  go_wp2_with (first | (go_at_call 13; with_reducible refine (N1 _).mono ?_; rintro e w1 ⟨rfl, hb⟩; obtain ⟨hc1, hf1⟩ := bcell hb) | (go_at_call 14; with_reducible refine (v_unsigned _ _).mono ?_; rintro e w' ⟨rfl, rfl⟩) | (go_at_call 16; with_reducible refine (v_row _ _).mono ?_; rintro e w' ⟨rfl, rfl⟩) | (go_at_call 15; first | (with_reducible refine (N2 _ ?hx).mono ?_; (case hx => (repeat (first | exact Below.refl _ _ | apply b_al | (refine b_st ?_ ?hg _; case hg => omega) | (refine b_go ?_ (by assumption))))); rintro e w1 ⟨rfl, hb2⟩) | (with_reducible refine (N4 _ ?hy).mono ?_; (case hy => (repeat (first | exact Below.refl _ _ | apply b_al | (refine b_st ?_ ?hg _; case hg => omega) | (refine b_go ?_ (by assumption))))); rintro e w1 ⟨rfl, hb2⟩)) | (go_at_call 19; with_reducible refine (N3 _ ?hz).mono ?_; (case hz => (repeat (first | exact Below.refl _ _ | apply b_al | (refine b_st ?_ ?hg _; case hg => omega) | (refine b_go ?_ (by assumption))))); rintro e w1 ⟨rfl, hb2⟩) | (go_at_call 17; with_reducible refine (N5 _).mono ?_; rintro e w1 ⟨rfl, hb3⟩) | (go_at_call 18; with_reducible refine (N6 _).mono ?_; rintro e w1 ⟨rfl, hb4⟩))
  all_goals
    (go_ret
     refine ⟨ret_str ?_, ?hB⟩
     case hB => (repeat (first | exact Below.refl _ _ | apply b_al | (refine b_st ?_ ?hg _; case hg => omega) | (refine b_go ?_ (by assumption))))
     (try clear hc1 hf1)
     go_light
     clear N1 N2 N3 N4 N5 N6
     simp only [beq_iff_eq, beq_eq_false_iff_ne, Bool.not_eq_true', Bool.not_eq_false'] at *
     first
       | (simp_all [fullT]; done)
       | (rw [ft_un (by assumption) (by assumption)]; rfl)
       | (rw [ft_row (by assumption) (by assumption)]; (try rw [← F1.out]); rfl)
       | (subst_vars; rw [ft_real (by assumption)]; (try rw [ba_three, ← F2.out]); rfl)
       | (rw [ft_else (by assumption) (by assumption) (by assumption) (by assumption) (by assumption) (by assumption)])
       | (subst_vars; rw [ft_bool (by assumption)]; have := ft_bool1 (Int.natCast_nonneg u) (by assumption); rw [if_pos (by omega)]))
theorem r_Print (kd b : Int) (t : ByteArray) (h0 : 0 ≤ b) (h1 : b < 18446744073709551616) (w : World) (hL : Laid w) : Calls Tryd.prog 9 #[.agg #[.int .u8 kd, .int .u64 b, .string t]] w fun e w' => e = .returned (.string (fullT kd b t)) ∧ Below w.heap.size w w' := by
  have N1 := fun W => r_May kd b t h0 h1 W
  obtain ⟨u, rfl⟩ := Int.eq_ofNat_of_zero_le h0
  have hu : u < 18446744073709551616 := by omega
  have N2 := fun W (hb : Below w.heap.size w W) => fmtU u hu (hL.go hb)
  have N3 := fun W (hb : Below w.heap.size w W) => itoaC (wrap64 u) (wrap_lo _) (wrap_hi _) (hL.go hb)
  have N4 : ∀ W, Calls Tryd.prog 21 #[.int .u64 u, .int .i64 1] W fun e w' => e = .returned (.string ⟨(hexF u 1).toArray⟩) ∧ Below W.heap.size W w' := fun W => r_hex u hu 1 (by decide) W
  have N5 : ∀ W, Calls Tryd.prog 21 #[.int .u64 u, .int .i64 16] W fun e w' => e = .returned (.string ⟨(hexF u 16).toArray⟩) ∧ Below W.heap.size W w' := fun W => r_hex u hu 16 (by decide) W
  have l1 : (hexF u 1).length ≤ 16 := by rw [hexF_one, upper_len]; exact hexL_16 u hu
  have l2 : (hexF u 16).length ≤ 16 := by rw [hexF_16, List.length_append, List.length_replicate, upper_len]; have := hexL_16 u hu; omega
  clear h1 h0 hL hu
  go_enter Tryd.func9, Tryd.ntmps9
  go_wp2_with (first | (go_at_call 20; with_reducible refine (N1 _).mono ?_; rintro e w1 ⟨rfl, hb⟩; obtain ⟨hc1, hf1⟩ := bcell hb) | (go_at_call 23; with_reducible refine (r_unsigned _ _).mono ?_; rintro e w' ⟨rfl, rfl⟩) | (go_at_call 22; with_reducible refine (r_row _ _).mono ?_; rintro e w' ⟨rfl, rfl⟩) | (go_at_call 15; with_reducible refine (N2 _ ?hx).mono ?_; (case hx => (repeat (first | exact Below.refl _ _ | apply b_al | (refine b_st ?_ ?hg _; case hg => omega) | (refine b_go ?_ (by assumption))))); rintro e w1 ⟨rfl, hb2⟩) | (go_at_call 24; with_reducible refine (N3 _ ?hz).mono ?_; (case hz => (repeat (first | exact Below.refl _ _ | apply b_al | (refine b_st ?_ ?hg _; case hg => omega) | (refine b_go ?_ (by assumption))))); rintro e w1 ⟨rfl, hb2⟩) | (go_at_call 21; first | (with_reducible refine (N4 _).mono ?_; rintro e w1 ⟨rfl, hb3⟩) | (with_reducible refine (N5 _).mono ?_; rintro e w1 ⟨rfl, hb3⟩)))
  all_goals
    (go_ret
     refine ⟨ret_str ?_, ?hB⟩
     case hB => (repeat (first | exact Below.refl _ _ | apply b_al | (refine b_st ?_ ?hg _; case hg => omega) | (refine b_go ?_ (by assumption))))
     (try clear hc1 hf1)
     go_light
     clear N1 N2 N3 N4 N5
     simp only [beq_iff_eq, beq_eq_false_iff_ne, Bool.not_eq_true', Bool.not_eq_false'] at *
     first
       | (simp_all [fullT]; done)
       | (rw [ft_un (by assumption) (by assumption)]; rfl)
       | (rw [ft_row (by assumption) (by assumption)]; (try rw [← F1.out]); rfl)
       | (subst_vars; rw [ft_real (by assumption)]; (try rw [ba_three, ← F2.out]); rfl)
       | (rw [ft_else (by assumption) (by assumption) (by assumption) (by assumption) (by assumption) (by assumption)])
       | (subst_vars; rw [ft_bool (by assumption)]; have := ft_bool1 (Int.natCast_nonneg u) (by assumption); rw [if_pos (by omega)]))
/-- A world behind which the law's value lies boxed, and all else is as it was. -/
structure AtV (w : World) (kd b : Int) (t : ByteArray) (W : World) : Prop where
  bel : Below w.heap.size w W
  blk : W.heap[w.heap.size]? = some (.cells #[.int .u8 kd, .int .u64 b, .string t] 25 (0, 0))
theorem AtV.go {w W W2 : World} {kd b : Int} {t : ByteArray} (h : AtV w kd b t W) (hb : Below W.heap.size W W2) : AtV w kd b t W2 := ⟨b_go h.bel hb, k_go h.blk hb⟩
theorem AtV.dr {w W : World} {kd b : Int} {t : ByteArray} (h : AtV w kd b t W) : AtV w kd b t W.drew := ⟨h.bel.drew, h.blk⟩
theorem AtV.c0 {w W : World} {kd b : Int} {t : ByteArray} (h : AtV w kd b t W) : W.cell? ⟨w.heap.size, 0, none⟩ = some (.int .u8 kd) := (k_cell h.blk 0).trans (by simp)
theorem AtV.c1 {w W : World} {kd b : Int} {t : ByteArray} (h : AtV w kd b t W) : W.cell? ⟨w.heap.size, 1, none⟩ = some (.int .u64 b) := (k_cell h.blk 1).trans (by simp)
theorem AtV.c2 {w W : World} {kd b : Int} {t : ByteArray} (h : AtV w kd b t W) : W.cell? ⟨w.heap.size, 2, none⟩ = some (.string t) := (k_cell h.blk 2).trans (by simp)
theorem law_Words (k : Int) (s : ByteArray) (kd b : Int) (t : ByteArray) (h0 : 0 ≤ b) (h1 : b < 18446744073709551616) (w : World) (hL : Laid w) : Calls Tryd.prog 3 #[.int .u8 k, .string s, .agg #[.int .u8 kd, .int .u64 b, .string t]] w fun e w' => e = .returned (.bool true) ∧ Below w.heap.size w w' := by
  obtain ⟨pt, hp⟩ : ∃ pt, fullT kd b t = pt := ⟨_, rfl⟩
  obtain ⟨wt, hw⟩ : ∃ wt, wordT k = wt := ⟨_, rfl⟩
  have N1 : ∀ W, AtV w kd b t W → Calls Tryd.prog 8 #[.agg #[.int .u8 kd, .int .u64 b, .string t]] W fun e w' => e = .returned (.string pt) ∧ AtV w kd b t w' := fun W hb => (v_Print kd b t h0 h1 W (hL.go hb.bel)).mono fun e w' ⟨he, h⟩ => ⟨hp ▸ he, hb.go h⟩
  have N2 : ∀ W, AtV w kd b t W → Calls Tryd.prog 9 #[.agg #[.int .u8 kd, .int .u64 b, .string t]] W fun e w' => e = .returned (.string pt) ∧ AtV w kd b t w' := fun W hb => (r_Print kd b t h0 h1 W (hL.go hb.bel)).mono fun e w' ⟨he, h⟩ => ⟨hp ▸ he, hb.go h⟩
  have W1 : ∀ W, AtV w kd b t W → Calls Tryd.prog 6 #[.int .u8 k] W fun e w' => e = .returned (.string wt) ∧ AtV w kd b t w' := fun W hb => (v_Word k W).mono fun e w' ⟨he, h⟩ => ⟨hw ▸ he, hb.go h⟩
  have W2 : ∀ W, AtV w kd b t W → Calls Tryd.prog 7 #[.int .u8 k] W fun e w' => e = .returned (.string wt) ∧ AtV w kd b t w' := fun W hb => (r_Word k W).mono fun e w' ⟨he, h⟩ => ⟨hw ▸ he, hb.go h⟩
  clear hp hw h0 h1 hL
  go_enter Tryd.func3, Tryd.ntmps3
  go_wp2_with fail
  refine (v_Kind s _).mono ?_
  rintro e w1 ⟨⟨k1, ok1, hk1, rfl⟩, hb1⟩
  have hv1 : AtV w kd b t w1 := AtV.go ⟨b_al (Below.refl _ _) _, k_new rfl⟩ hb1
  go_wp2_with fail
  refine (r_Kind s _).mono ?_
  rintro e w2 ⟨⟨k2, ok2, hk2, rfl⟩, hb2⟩
  obtain ⟨rfl, rfl⟩ := isKind_one hk1 hk2
  have hv2 := hv1.go hb2
  clear hk1 hk2 hv1 hb2 hb1
  go_upto_region 3 with fail
  go_region_held3 (fun w' => AtV w kd b t w' ∧ w'.cell? ⟨w.heap.size, 0, none⟩ = some (.int .u8 kd) ∧ w'.cell? ⟨w.heap.size, 1, none⟩ = some (.int .u64 b) ∧ w'.cell? ⟨w.heap.size, 2, none⟩ = some (.string t)) (first | exact ⟨by assumption, AtV.c0 (by assumption), AtV.c1 (by assumption), AtV.c2 (by assumption)⟩ | exact ⟨AtV.dr (by assumption), AtV.c0 (AtV.dr (by assumption)), AtV.c1 (AtV.dr (by assumption)), AtV.c2 (AtV.dr (by assumption))⟩ | go_keep) (first | (go_at_call 6; with_reducible refine (W1 _ (by first | assumption | exact AtV.dr (by assumption))).mono ?_; rintro e w3 ⟨rfl, hv3⟩) | (go_at_call 7; with_reducible refine (W2 _ (by first | assumption | exact AtV.dr (by assumption))).mono ?_; rintro e w4 ⟨rfl, hv4⟩) | (go_at_call 8; with_reducible refine (N1 _ (by first | assumption | exact AtV.dr (by assumption))).mono ?_; rintro e w5 ⟨rfl, hv5⟩) | (go_at_call 9; with_reducible refine (N2 _ (by first | assumption | exact AtV.dr (by assumption))).mono ?_; rintro e w6 ⟨rfl, hv6⟩))
  all_goals
    go_wp2_with fail
    go_ret
    exact ⟨rfl, AtV.bel (by assumption)⟩
end Go.Proofs.YthkeapopockbkaaDoor.H
