/- Contracts of a value's number and of the closure that turns a row round. Condition: the values lie in memory. -/
import Derived.Test.YtflhndjpfiklaaaGreatDoorHStdG
import Derived.Test.YtflhndjpfiklaaaGreatDoorHStdP
import Derived.BigRegion
namespace Go.Proofs.YtflhndjpfiklaaaGreatDoor.H
set_option linter.unusedVariables false
set_option linter.unusedSimpArgs false
open Go.RowKit Go.Proofs.YtflhndjpfiklaaaGreatDoor.Plain
set_option maxHeartbeats 3200000
set_option maxRecDepth 100000
attribute [local go_sem] ext_from ext_bits cell_isSome un_neg_float
theorem v_Number (k b : Int) (t : ByteArray) (h0 : 0 ≤ b) (h1 : b < 18446744073709551616) (w : World) : Calls Tryz.prog 96 #[.agg #[.int .u8 k, .int .u64 b, .string t]] w fun e w' => e = .returned (.tuple #[.int .i64 (numV k b t).1, .bool (numV k b t).2]) ∧ Below w.heap.size w w' := by
  have N1 := fun W => v_may k b t h0 h1 W
  have N2 := fun W => v_unsigned k W
  have N3 := fun W => v_row k W
  have HM := Lib.hid (fun h => @may_facts k b t h)
  obtain ⟨r, hr⟩ : ∃ r, numV k b t = r := ⟨_, rfl⟩
  rw [hr]
  have E := Lib.hid hr
  clear hr
  have H1 := Lib.hid h1
  clear h1
  go_enter Tryz.func96, Tryz.ntmps96
  go_wp2_with (first | (go_at_call 23; with_reducible refine (N1 _).mono ?_; rintro e w1 ⟨rfl, hb1⟩; obtain ⟨hc1, hf1⟩ := bcell hb1) | (go_at_call 131; with_reducible refine (N2 _).mono ?_; rintro e w' ⟨rfl, rfl⟩) | (go_at_call 73; with_reducible refine (N3 _).mono ?_; rintro e w' ⟨rfl, rfl⟩))
  all_goals
    clear N1 N2 N3
    try clear hc1 hf1
    have hr := E.out
    have hm := HM.out
    have h1 := H1.out
    clear E HM H1
    go_returns
    go_light
    simp only [beq_iff_eq, beq_eq_false_iff_ne, bne_iff_ne] at *
    refine ⟨?_, b_go (b_al (Below.refl _ _) _) hb1⟩
    clear hb1
    subst hr
    simp only [List.getElem_toArray, Array.getD, List.size_toArray, List.length_cons, List.length_nil, Nat.reduceAdd, Nat.reduceLT, dif_pos, List.getElem_cons_succ, List.getElem_cons_zero]
    simp (failIfUnchanged := false)
    have hw := wrap_cases h0 h1
    grind [numV, unB, rowB]
theorem v_swidth (k : Int) (h0 : 10 ≤ k) (h1 : k ≤ 13) (w : World) : Calls Tryz.prog 99 #[.int .u8 k] w fun e w' => e = .returned (.int .i64 (widthV k)) ∧ w' = w := by
  rcases (by omega : k = 10 ∨ k = 11 ∨ k = 12 ∨ k = 13) with rfl | rfl | rfl | rfl
  all_goals
    go_enter Tryz.func99, Tryz.ntmps99
    go_wp2
    all_goals go_ret
    all_goals simp [widthV]
theorem v_rl64 (x k : Int) (hx0 : 0 ≤ x) (hx1 : x < 18446744073709551616) (h0 : 0 ≤ k) (h1 : k < 64) (w : World) : Calls Tryz.prog 101 #[.int .u64 x, .int .i64 k] w fun e w' => e = .returned (.int .u64 (rotN 64 x.toNat k.toNat)) ∧ w' = w := by
  have e63 := and63 k h0 h1
  have hr := rot64 x k hx0 hx1 h0 (by omega)
  obtain ⟨r, hn⟩ : ∃ r : Nat, rotN 64 x.toNat k.toNat = r := ⟨_, rfl⟩
  rw [hn] at hr
  rw [hn]
  have HR := Lib.hid hr
  clear hr hn hx1
  go_enter Tryz.func101, Tryz.ntmps101
  go_wp2
  all_goals go_ret
  all_goals simp [HR.out]
/-- The count by which a row is turned to the higher bits. -/
def cntI (up : Bool) (w b1 : Int) : Int := if up = true then b1 % w else (w - b1 % w) % w
/-- A row turned round. -/
def rotV (up : Bool) (k0 b0 b1 : Int) : Int := rotN (widthV k0).toNat b0.toNat (cntI up (widthV k0) b1).toNat
/-- What turning gives: kind, bits, text, fault. -/
def rotOut (up : Bool) (k0 b0 : Int) (t0 : ByteArray) (k1 b1 : Int) (t1 : ByteArray) : Int × Int × ByteArray × Int :=
  if (numV k1 b1 t1).2 = true ∧ (numV k1 b1 t1).1 < 0 then (0, 0, ⟨#[]⟩, 3) else (k0, rotV up k0 b0 b1, t0, 0)
theorem fits_row {k b : Int} {t : ByteArray} {wd : Int} (h : mayB k b t = true) (hw : widthV k = wd) (h0 : 10 ≤ k) (h1 : k ≤ 13) : b < ((2 ^ wd.toNat : Nat) : Int) ∨ wd = 64 := by
  obtain ⟨hf, _⟩ := may_fits h (by omega) (by omega)
  subst hw
  rcases (by omega : k = 10 ∨ k = 11 ∨ k = 12 ∨ k = 13) with rfl | rfl | rfl | rfl
  all_goals (simp [fitsB, widthV] at hf ⊢)
  all_goals omega
theorem c_rotate (up : Bool) (ra l cl : Nat) (k0 b0 : Int) (t0 : ByteArray) (k1 b1 : Int) (t1 : ByteArray) (w : World) (hra : w.heap[ra]? = some (.cells #[.bool up] 4 (0, 0))) (hl : l < w.heap.size)
    (p0 : w.cell? ⟨l, 0, none⟩ = some (.int .u8 k0)) (p1 : w.cell? ⟨l, 1, none⟩ = some (.int .u64 b0)) (p2 : w.cell? ⟨l, 2, none⟩ = some (.string t0)) (p3 : w.cell? ⟨l, 3, none⟩ = some (.int .u8 k1)) (p4 : w.cell? ⟨l, 4, none⟩ = some (.int .u64 b1)) (p5 : w.cell? ⟨l, 5, none⟩ = some (.string t1))
    (hk0 : 10 ≤ k0) (hk1 : k0 ≤ 13) (hb0 : 0 ≤ b0) (hb1 : b0 < 18446744073709551616) (hm : mayB k0 b0 t0 = true) (hc0 : 0 ≤ b1) (hc1 : b1 < 18446744073709551616) :
    Calls Tryz.prog 100 #[.slice (some ⟨l, 0, none⟩) 2 cl, .pointer (some ⟨ra, 0, none⟩)] w fun e w' => e = .returned (.tuple #[.agg #[.int .u8 (rotOut up k0 b0 t0 k1 b1 t1).1, .int .u64 (rotOut up k0 b0 t0 k1 b1 t1).2.1, .string (rotOut up k0 b0 t0 k1 b1 t1).2.2.1], .int .i64 (rotOut up k0 b0 t0 k1 b1 t1).2.2.2]) ∧ Below w.heap.size w w' := by
  have N1 := fun W => v_swidth k0 hk0 hk1 W
  have N2 := fun W => v_Number k1 b1 t1 hc0 hc1 W
  obtain ⟨wd, hwd⟩ : ∃ wd, widthV k0 = wd := ⟨_, rfl⟩
  rw [hwd] at N1
  have hw : wd = 8 ∨ wd = 16 ∨ wd = 32 ∨ wd = 64 := by subst hwd; unfold widthV; grind
  obtain ⟨⟨n, f⟩, hn⟩ : ∃ x, numV k1 b1 t1 = x := ⟨_, rfl⟩
  rw [hn] at N2
  have HWD := Lib.hid hwd
  have HN := Lib.hid hn
  have HC1 := Lib.hid hc1
  have HB1 := Lib.hid hb1
  have HM := Lib.hid hm
  have HL := Lib.hid hra
  have qr := k_cv hra 0 rfl
  simp only [List.getElem_toArray, List.getElem_cons_succ, List.getElem_cons_zero] at qr
  have hlr := k_lt hra
  clear hwd hn hc1 hb1 hm hra
  simp only at N2
  rcases hw with rfl | rfl | rfl | rfl <;> cases up
  case inl.true =>
    have hlt : b0 < 256 := by rcases fits_row HM.out HWD.out hk0 hk1 with h1 | h1 <;> simp at h1; omega
    have X : Go.bits .and .u64 (Go.bits .or .u64 (IntKind.u64.wrap (b0 * 2 ^ (b1 % 8).toNat)) (b0 / 2 ^ (8 - (b1 % 8)).toNat)) 255 = (rotN 8 b0.toNat (b1 % 8).toNat : Nat) := rot_row 8 (by decide) 255 (by decide) b0 (b1 % 8) hb0 hlt (by omega) (by omega)
    have R : (if f = true ∧ n < 0 then (0, 0, ⟨#[]⟩, 3) else (k0, Go.bits .and .u64 (Go.bits .or .u64 (IntKind.u64.wrap (b0 * 2 ^ (b1 % 8).toNat)) (b0 / 2 ^ (8 - (b1 % 8)).toNat)) 255, t0, 0) : Int × Int × ByteArray × Int) = rotOut true k0 b0 t0 k1 b1 t1 := by
      rw [X]
      unfold rotOut rotV cntI
      rw [HN.out, HWD.out]
      rfl
    clear hlt X
    obtain ⟨r, hr⟩ : ∃ r, rotOut true k0 b0 t0 k1 b1 t1 = r := ⟨_, rfl⟩
    rw [hr] at R
    rw [hr]
    have E := Lib.hid R
    clear hr R
    go_enter Tryz.func100, Tryz.ntmps100
    go_wp2_with (first | (go_at_call 99; with_reducible refine (N1 _).mono ?_; rintro e w' ⟨rfl, rfl⟩) | (go_at_call 96; with_reducible refine (N2 _).mono ?_; rintro e w1 ⟨rfl, hb1⟩; obtain ⟨hc1, hf1⟩ := bcell hb1; have z0 : w.heap.size < w1.heap.size := (by have hx := hb1.size; simp at hx; omega); have z1 : l < w1.heap.size := Nat.lt_trans hl z0))
    all_goals (try go_region)
    all_goals go_wp2_with (first | (go_at_call 99; with_reducible refine (N1 _).mono ?_; rintro e w' ⟨rfl, rfl⟩) | (go_at_call 96; with_reducible refine (N2 _).mono ?_; rintro e w1 ⟨rfl, hb1⟩; obtain ⟨hc1, hf1⟩ := bcell hb1; have z0 : w.heap.size < w1.heap.size := (by have hx := hb1.size; simp at hx; omega); have z1 : l < w1.heap.size := Nat.lt_trans hl z0))
    all_goals
      clear N1 N2
      have hr := E.out
      clear E HN HC1 HB1 HM HWD HL
      have K0 : w1.heap[w.heap.size]? = some (.cells #[.int .u8 0, .int .u64 0, .string ⟨#[]⟩] 25 (0, 0)) := k_go (k_new rfl) hb1
      refine bodyPost_ret (v := .tuple #[.agg #[.int .u8 (r).1, .int .u64 (r).2.1, .string (r).2.2.1], .int .i64 (r).2.2.2]) ?hr rfl ⟨rfl, ?hB⟩
      case hB => repeat (first | exact Below.refl _ _ | apply b_al | apply b_dr | (refine b_st ?_ ?hg _; case hg => omega) | (refine b_go ?_ (by assumption)))
      case hr =>
        have q := fun (y0 y1 y2 : Value) => set3 (w1 := w1) (g := w.heap.size) K0 y0 y1 y2
        have q0 := fun (y0 y1 y2 : Value) => (q y0 y1 y2).1
        have q1 := fun (y0 y1 y2 : Value) => (q y0 y1 y2).2.1
        have q2 := fun (y0 y1 y2 : Value) => (q y0 y1 y2).2.2
        clear q hc1 hf1 hb1
        simp [results, Tryz.results100, go_sem, z0, q0, q1, q2]
        grind
  case inl.false =>
    have hlt : b0 < 256 := by rcases fits_row HM.out HWD.out hk0 hk1 with h1 | h1 <;> simp at h1; omega
    have X : Go.bits .and .u64 (Go.bits .or .u64 (IntKind.u64.wrap (b0 * 2 ^ ((8 - b1 % 8) % 8).toNat)) (b0 / 2 ^ (8 - ((8 - b1 % 8) % 8)).toNat)) 255 = (rotN 8 b0.toNat ((8 - b1 % 8) % 8).toNat : Nat) := rot_row 8 (by decide) 255 (by decide) b0 ((8 - b1 % 8) % 8) hb0 hlt (by omega) (by omega)
    have R : (if f = true ∧ n < 0 then (0, 0, ⟨#[]⟩, 3) else (k0, Go.bits .and .u64 (Go.bits .or .u64 (IntKind.u64.wrap (b0 * 2 ^ ((8 - b1 % 8) % 8).toNat)) (b0 / 2 ^ (8 - ((8 - b1 % 8) % 8)).toNat)) 255, t0, 0) : Int × Int × ByteArray × Int) = rotOut false k0 b0 t0 k1 b1 t1 := by
      rw [X]
      unfold rotOut rotV cntI
      rw [HN.out, HWD.out]
      rfl
    clear hlt X
    obtain ⟨r, hr⟩ : ∃ r, rotOut false k0 b0 t0 k1 b1 t1 = r := ⟨_, rfl⟩
    rw [hr] at R
    rw [hr]
    have E := Lib.hid R
    clear hr R
    go_enter Tryz.func100, Tryz.ntmps100
    go_wp2_with (first | (go_at_call 99; with_reducible refine (N1 _).mono ?_; rintro e w' ⟨rfl, rfl⟩) | (go_at_call 96; with_reducible refine (N2 _).mono ?_; rintro e w1 ⟨rfl, hb1⟩; obtain ⟨hc1, hf1⟩ := bcell hb1; have z0 : w.heap.size < w1.heap.size := (by have hx := hb1.size; simp at hx; omega); have z1 : l < w1.heap.size := Nat.lt_trans hl z0))
    all_goals (try go_region)
    all_goals go_wp2_with (first | (go_at_call 99; with_reducible refine (N1 _).mono ?_; rintro e w' ⟨rfl, rfl⟩) | (go_at_call 96; with_reducible refine (N2 _).mono ?_; rintro e w1 ⟨rfl, hb1⟩; obtain ⟨hc1, hf1⟩ := bcell hb1; have z0 : w.heap.size < w1.heap.size := (by have hx := hb1.size; simp at hx; omega); have z1 : l < w1.heap.size := Nat.lt_trans hl z0))
    all_goals
      clear N1 N2
      have hr := E.out
      clear E HN HC1 HB1 HM HWD HL
      have K0 : w1.heap[w.heap.size]? = some (.cells #[.int .u8 0, .int .u64 0, .string ⟨#[]⟩] 25 (0, 0)) := k_go (k_new rfl) hb1
      refine bodyPost_ret (v := .tuple #[.agg #[.int .u8 (r).1, .int .u64 (r).2.1, .string (r).2.2.1], .int .i64 (r).2.2.2]) ?hr rfl ⟨rfl, ?hB⟩
      case hB => repeat (first | exact Below.refl _ _ | apply b_al | apply b_dr | (refine b_st ?_ ?hg _; case hg => omega) | (refine b_go ?_ (by assumption)))
      case hr =>
        have q := fun (y0 y1 y2 : Value) => set3 (w1 := w1) (g := w.heap.size) K0 y0 y1 y2
        have q0 := fun (y0 y1 y2 : Value) => (q y0 y1 y2).1
        have q1 := fun (y0 y1 y2 : Value) => (q y0 y1 y2).2.1
        have q2 := fun (y0 y1 y2 : Value) => (q y0 y1 y2).2.2
        clear q hc1 hf1 hb1
        simp [results, Tryz.results100, go_sem, z0, q0, q1, q2]
        grind
  case inr.inl.true =>
    have hlt : b0 < 65536 := by rcases fits_row HM.out HWD.out hk0 hk1 with h1 | h1 <;> simp at h1; omega
    have X : Go.bits .and .u64 (Go.bits .or .u64 (IntKind.u64.wrap (b0 * 2 ^ (b1 % 16).toNat)) (b0 / 2 ^ (16 - (b1 % 16)).toNat)) 65535 = (rotN 16 b0.toNat (b1 % 16).toNat : Nat) := rot_row 16 (by decide) 65535 (by decide) b0 (b1 % 16) hb0 hlt (by omega) (by omega)
    have R : (if f = true ∧ n < 0 then (0, 0, ⟨#[]⟩, 3) else (k0, Go.bits .and .u64 (Go.bits .or .u64 (IntKind.u64.wrap (b0 * 2 ^ (b1 % 16).toNat)) (b0 / 2 ^ (16 - (b1 % 16)).toNat)) 65535, t0, 0) : Int × Int × ByteArray × Int) = rotOut true k0 b0 t0 k1 b1 t1 := by
      rw [X]
      unfold rotOut rotV cntI
      rw [HN.out, HWD.out]
      rfl
    clear hlt X
    obtain ⟨r, hr⟩ : ∃ r, rotOut true k0 b0 t0 k1 b1 t1 = r := ⟨_, rfl⟩
    rw [hr] at R
    rw [hr]
    have E := Lib.hid R
    clear hr R
    go_enter Tryz.func100, Tryz.ntmps100
    go_wp2_with (first | (go_at_call 99; with_reducible refine (N1 _).mono ?_; rintro e w' ⟨rfl, rfl⟩) | (go_at_call 96; with_reducible refine (N2 _).mono ?_; rintro e w1 ⟨rfl, hb1⟩; obtain ⟨hc1, hf1⟩ := bcell hb1; have z0 : w.heap.size < w1.heap.size := (by have hx := hb1.size; simp at hx; omega); have z1 : l < w1.heap.size := Nat.lt_trans hl z0))
    all_goals (try go_region)
    all_goals go_wp2_with (first | (go_at_call 99; with_reducible refine (N1 _).mono ?_; rintro e w' ⟨rfl, rfl⟩) | (go_at_call 96; with_reducible refine (N2 _).mono ?_; rintro e w1 ⟨rfl, hb1⟩; obtain ⟨hc1, hf1⟩ := bcell hb1; have z0 : w.heap.size < w1.heap.size := (by have hx := hb1.size; simp at hx; omega); have z1 : l < w1.heap.size := Nat.lt_trans hl z0))
    all_goals
      clear N1 N2
      have hr := E.out
      clear E HN HC1 HB1 HM HWD HL
      have K0 : w1.heap[w.heap.size]? = some (.cells #[.int .u8 0, .int .u64 0, .string ⟨#[]⟩] 25 (0, 0)) := k_go (k_new rfl) hb1
      refine bodyPost_ret (v := .tuple #[.agg #[.int .u8 (r).1, .int .u64 (r).2.1, .string (r).2.2.1], .int .i64 (r).2.2.2]) ?hr rfl ⟨rfl, ?hB⟩
      case hB => repeat (first | exact Below.refl _ _ | apply b_al | apply b_dr | (refine b_st ?_ ?hg _; case hg => omega) | (refine b_go ?_ (by assumption)))
      case hr =>
        have q := fun (y0 y1 y2 : Value) => set3 (w1 := w1) (g := w.heap.size) K0 y0 y1 y2
        have q0 := fun (y0 y1 y2 : Value) => (q y0 y1 y2).1
        have q1 := fun (y0 y1 y2 : Value) => (q y0 y1 y2).2.1
        have q2 := fun (y0 y1 y2 : Value) => (q y0 y1 y2).2.2
        clear q hc1 hf1 hb1
        simp [results, Tryz.results100, go_sem, z0, q0, q1, q2]
        grind
  case inr.inl.false =>
    have hlt : b0 < 65536 := by rcases fits_row HM.out HWD.out hk0 hk1 with h1 | h1 <;> simp at h1; omega
    have X : Go.bits .and .u64 (Go.bits .or .u64 (IntKind.u64.wrap (b0 * 2 ^ ((16 - b1 % 16) % 16).toNat)) (b0 / 2 ^ (16 - ((16 - b1 % 16) % 16)).toNat)) 65535 = (rotN 16 b0.toNat ((16 - b1 % 16) % 16).toNat : Nat) := rot_row 16 (by decide) 65535 (by decide) b0 ((16 - b1 % 16) % 16) hb0 hlt (by omega) (by omega)
    have R : (if f = true ∧ n < 0 then (0, 0, ⟨#[]⟩, 3) else (k0, Go.bits .and .u64 (Go.bits .or .u64 (IntKind.u64.wrap (b0 * 2 ^ ((16 - b1 % 16) % 16).toNat)) (b0 / 2 ^ (16 - ((16 - b1 % 16) % 16)).toNat)) 65535, t0, 0) : Int × Int × ByteArray × Int) = rotOut false k0 b0 t0 k1 b1 t1 := by
      rw [X]
      unfold rotOut rotV cntI
      rw [HN.out, HWD.out]
      rfl
    clear hlt X
    obtain ⟨r, hr⟩ : ∃ r, rotOut false k0 b0 t0 k1 b1 t1 = r := ⟨_, rfl⟩
    rw [hr] at R
    rw [hr]
    have E := Lib.hid R
    clear hr R
    go_enter Tryz.func100, Tryz.ntmps100
    go_wp2_with (first | (go_at_call 99; with_reducible refine (N1 _).mono ?_; rintro e w' ⟨rfl, rfl⟩) | (go_at_call 96; with_reducible refine (N2 _).mono ?_; rintro e w1 ⟨rfl, hb1⟩; obtain ⟨hc1, hf1⟩ := bcell hb1; have z0 : w.heap.size < w1.heap.size := (by have hx := hb1.size; simp at hx; omega); have z1 : l < w1.heap.size := Nat.lt_trans hl z0))
    all_goals (try go_region)
    all_goals go_wp2_with (first | (go_at_call 99; with_reducible refine (N1 _).mono ?_; rintro e w' ⟨rfl, rfl⟩) | (go_at_call 96; with_reducible refine (N2 _).mono ?_; rintro e w1 ⟨rfl, hb1⟩; obtain ⟨hc1, hf1⟩ := bcell hb1; have z0 : w.heap.size < w1.heap.size := (by have hx := hb1.size; simp at hx; omega); have z1 : l < w1.heap.size := Nat.lt_trans hl z0))
    all_goals
      clear N1 N2
      have hr := E.out
      clear E HN HC1 HB1 HM HWD HL
      have K0 : w1.heap[w.heap.size]? = some (.cells #[.int .u8 0, .int .u64 0, .string ⟨#[]⟩] 25 (0, 0)) := k_go (k_new rfl) hb1
      refine bodyPost_ret (v := .tuple #[.agg #[.int .u8 (r).1, .int .u64 (r).2.1, .string (r).2.2.1], .int .i64 (r).2.2.2]) ?hr rfl ⟨rfl, ?hB⟩
      case hB => repeat (first | exact Below.refl _ _ | apply b_al | apply b_dr | (refine b_st ?_ ?hg _; case hg => omega) | (refine b_go ?_ (by assumption)))
      case hr =>
        have q := fun (y0 y1 y2 : Value) => set3 (w1 := w1) (g := w.heap.size) K0 y0 y1 y2
        have q0 := fun (y0 y1 y2 : Value) => (q y0 y1 y2).1
        have q1 := fun (y0 y1 y2 : Value) => (q y0 y1 y2).2.1
        have q2 := fun (y0 y1 y2 : Value) => (q y0 y1 y2).2.2
        clear q hc1 hf1 hb1
        simp [results, Tryz.results100, go_sem, z0, q0, q1, q2]
        grind
  case inr.inr.inl.true =>
    have hlt : b0 < 4294967296 := by rcases fits_row HM.out HWD.out hk0 hk1 with h1 | h1 <;> simp at h1; omega
    have X : Go.bits .and .u64 (Go.bits .or .u64 (IntKind.u64.wrap (b0 * 2 ^ (b1 % 32).toNat)) (b0 / 2 ^ (32 - (b1 % 32)).toNat)) 4294967295 = (rotN 32 b0.toNat (b1 % 32).toNat : Nat) := rot_row 32 (by decide) 4294967295 (by decide) b0 (b1 % 32) hb0 hlt (by omega) (by omega)
    have R : (if f = true ∧ n < 0 then (0, 0, ⟨#[]⟩, 3) else (k0, Go.bits .and .u64 (Go.bits .or .u64 (IntKind.u64.wrap (b0 * 2 ^ (b1 % 32).toNat)) (b0 / 2 ^ (32 - (b1 % 32)).toNat)) 4294967295, t0, 0) : Int × Int × ByteArray × Int) = rotOut true k0 b0 t0 k1 b1 t1 := by
      rw [X]
      unfold rotOut rotV cntI
      rw [HN.out, HWD.out]
      rfl
    clear hlt X
    obtain ⟨r, hr⟩ : ∃ r, rotOut true k0 b0 t0 k1 b1 t1 = r := ⟨_, rfl⟩
    rw [hr] at R
    rw [hr]
    have E := Lib.hid R
    clear hr R
    go_enter Tryz.func100, Tryz.ntmps100
    go_wp2_with (first | (go_at_call 99; with_reducible refine (N1 _).mono ?_; rintro e w' ⟨rfl, rfl⟩) | (go_at_call 96; with_reducible refine (N2 _).mono ?_; rintro e w1 ⟨rfl, hb1⟩; obtain ⟨hc1, hf1⟩ := bcell hb1; have z0 : w.heap.size < w1.heap.size := (by have hx := hb1.size; simp at hx; omega); have z1 : l < w1.heap.size := Nat.lt_trans hl z0))
    all_goals (try go_region)
    all_goals go_wp2_with (first | (go_at_call 99; with_reducible refine (N1 _).mono ?_; rintro e w' ⟨rfl, rfl⟩) | (go_at_call 96; with_reducible refine (N2 _).mono ?_; rintro e w1 ⟨rfl, hb1⟩; obtain ⟨hc1, hf1⟩ := bcell hb1; have z0 : w.heap.size < w1.heap.size := (by have hx := hb1.size; simp at hx; omega); have z1 : l < w1.heap.size := Nat.lt_trans hl z0))
    all_goals
      clear N1 N2
      have hr := E.out
      clear E HN HC1 HB1 HM HWD HL
      have K0 : w1.heap[w.heap.size]? = some (.cells #[.int .u8 0, .int .u64 0, .string ⟨#[]⟩] 25 (0, 0)) := k_go (k_new rfl) hb1
      refine bodyPost_ret (v := .tuple #[.agg #[.int .u8 (r).1, .int .u64 (r).2.1, .string (r).2.2.1], .int .i64 (r).2.2.2]) ?hr rfl ⟨rfl, ?hB⟩
      case hB => repeat (first | exact Below.refl _ _ | apply b_al | apply b_dr | (refine b_st ?_ ?hg _; case hg => omega) | (refine b_go ?_ (by assumption)))
      case hr =>
        have q := fun (y0 y1 y2 : Value) => set3 (w1 := w1) (g := w.heap.size) K0 y0 y1 y2
        have q0 := fun (y0 y1 y2 : Value) => (q y0 y1 y2).1
        have q1 := fun (y0 y1 y2 : Value) => (q y0 y1 y2).2.1
        have q2 := fun (y0 y1 y2 : Value) => (q y0 y1 y2).2.2
        clear q hc1 hf1 hb1
        simp [results, Tryz.results100, go_sem, z0, q0, q1, q2]
        grind
  case inr.inr.inl.false =>
    have hlt : b0 < 4294967296 := by rcases fits_row HM.out HWD.out hk0 hk1 with h1 | h1 <;> simp at h1; omega
    have X : Go.bits .and .u64 (Go.bits .or .u64 (IntKind.u64.wrap (b0 * 2 ^ ((32 - b1 % 32) % 32).toNat)) (b0 / 2 ^ (32 - ((32 - b1 % 32) % 32)).toNat)) 4294967295 = (rotN 32 b0.toNat ((32 - b1 % 32) % 32).toNat : Nat) := rot_row 32 (by decide) 4294967295 (by decide) b0 ((32 - b1 % 32) % 32) hb0 hlt (by omega) (by omega)
    have R : (if f = true ∧ n < 0 then (0, 0, ⟨#[]⟩, 3) else (k0, Go.bits .and .u64 (Go.bits .or .u64 (IntKind.u64.wrap (b0 * 2 ^ ((32 - b1 % 32) % 32).toNat)) (b0 / 2 ^ (32 - ((32 - b1 % 32) % 32)).toNat)) 4294967295, t0, 0) : Int × Int × ByteArray × Int) = rotOut false k0 b0 t0 k1 b1 t1 := by
      rw [X]
      unfold rotOut rotV cntI
      rw [HN.out, HWD.out]
      rfl
    clear hlt X
    obtain ⟨r, hr⟩ : ∃ r, rotOut false k0 b0 t0 k1 b1 t1 = r := ⟨_, rfl⟩
    rw [hr] at R
    rw [hr]
    have E := Lib.hid R
    clear hr R
    go_enter Tryz.func100, Tryz.ntmps100
    go_wp2_with (first | (go_at_call 99; with_reducible refine (N1 _).mono ?_; rintro e w' ⟨rfl, rfl⟩) | (go_at_call 96; with_reducible refine (N2 _).mono ?_; rintro e w1 ⟨rfl, hb1⟩; obtain ⟨hc1, hf1⟩ := bcell hb1; have z0 : w.heap.size < w1.heap.size := (by have hx := hb1.size; simp at hx; omega); have z1 : l < w1.heap.size := Nat.lt_trans hl z0))
    all_goals (try go_region)
    all_goals go_wp2_with (first | (go_at_call 99; with_reducible refine (N1 _).mono ?_; rintro e w' ⟨rfl, rfl⟩) | (go_at_call 96; with_reducible refine (N2 _).mono ?_; rintro e w1 ⟨rfl, hb1⟩; obtain ⟨hc1, hf1⟩ := bcell hb1; have z0 : w.heap.size < w1.heap.size := (by have hx := hb1.size; simp at hx; omega); have z1 : l < w1.heap.size := Nat.lt_trans hl z0))
    all_goals
      clear N1 N2
      have hr := E.out
      clear E HN HC1 HB1 HM HWD HL
      have K0 : w1.heap[w.heap.size]? = some (.cells #[.int .u8 0, .int .u64 0, .string ⟨#[]⟩] 25 (0, 0)) := k_go (k_new rfl) hb1
      refine bodyPost_ret (v := .tuple #[.agg #[.int .u8 (r).1, .int .u64 (r).2.1, .string (r).2.2.1], .int .i64 (r).2.2.2]) ?hr rfl ⟨rfl, ?hB⟩
      case hB => repeat (first | exact Below.refl _ _ | apply b_al | apply b_dr | (refine b_st ?_ ?hg _; case hg => omega) | (refine b_go ?_ (by assumption)))
      case hr =>
        have q := fun (y0 y1 y2 : Value) => set3 (w1 := w1) (g := w.heap.size) K0 y0 y1 y2
        have q0 := fun (y0 y1 y2 : Value) => (q y0 y1 y2).1
        have q1 := fun (y0 y1 y2 : Value) => (q y0 y1 y2).2.1
        have q2 := fun (y0 y1 y2 : Value) => (q y0 y1 y2).2.2
        clear q hc1 hf1 hb1
        simp [results, Tryz.results100, go_sem, z0, q0, q1, q2]
        grind
  case inr.inr.inr.true =>
    have hlt := HB1.out
    have R : (if f = true ∧ n < 0 then (0, 0, ⟨#[]⟩, 3) else (k0, (rotN 64 b0.toNat (b1 % 64).toNat : Nat), t0, 0) : Int × Int × ByteArray × Int) = rotOut true k0 b0 t0 k1 b1 t1 := by
      unfold rotOut rotV cntI
      rw [HN.out, HWD.out]
      rfl
    have N3 := fun W => v_rl64 b0 (b1 % 64) hb0 HB1.out (by omega) (by omega) W
    clear hlt
    obtain ⟨r, hr⟩ : ∃ r, rotOut true k0 b0 t0 k1 b1 t1 = r := ⟨_, rfl⟩
    rw [hr] at R
    rw [hr]
    have E := Lib.hid R
    clear hr R
    go_enter Tryz.func100, Tryz.ntmps100
    go_wp2_with (first | (go_at_call 99; with_reducible refine (N1 _).mono ?_; rintro e w' ⟨rfl, rfl⟩) | (go_at_call 96; with_reducible refine (N2 _).mono ?_; rintro e w1 ⟨rfl, hb1⟩; obtain ⟨hc1, hf1⟩ := bcell hb1; have z0 : w.heap.size < w1.heap.size := (by have hx := hb1.size; simp at hx; omega); have z1 : l < w1.heap.size := Nat.lt_trans hl z0) | (go_at_call 101; with_reducible refine (N3 _).mono ?_; rintro e w' ⟨rfl, rfl⟩))
    all_goals (try go_region)
    all_goals go_wp2_with (first | (go_at_call 99; with_reducible refine (N1 _).mono ?_; rintro e w' ⟨rfl, rfl⟩) | (go_at_call 96; with_reducible refine (N2 _).mono ?_; rintro e w1 ⟨rfl, hb1⟩; obtain ⟨hc1, hf1⟩ := bcell hb1; have z0 : w.heap.size < w1.heap.size := (by have hx := hb1.size; simp at hx; omega); have z1 : l < w1.heap.size := Nat.lt_trans hl z0) | (go_at_call 101; with_reducible refine (N3 _).mono ?_; rintro e w' ⟨rfl, rfl⟩))
    all_goals
      clear N1 N2 N3
      have hr := E.out
      clear E HN HC1 HB1 HM HWD HL
      have K0 : w1.heap[w.heap.size]? = some (.cells #[.int .u8 0, .int .u64 0, .string ⟨#[]⟩] 25 (0, 0)) := k_go (k_new rfl) hb1
      refine bodyPost_ret (v := .tuple #[.agg #[.int .u8 (r).1, .int .u64 (r).2.1, .string (r).2.2.1], .int .i64 (r).2.2.2]) ?hr rfl ⟨rfl, ?hB⟩
      case hB => repeat (first | exact Below.refl _ _ | apply b_al | apply b_dr | (refine b_st ?_ ?hg _; case hg => omega) | (refine b_go ?_ (by assumption)))
      case hr =>
        have q := fun (y0 y1 y2 : Value) => set3 (w1 := w1) (g := w.heap.size) K0 y0 y1 y2
        have q0 := fun (y0 y1 y2 : Value) => (q y0 y1 y2).1
        have q1 := fun (y0 y1 y2 : Value) => (q y0 y1 y2).2.1
        have q2 := fun (y0 y1 y2 : Value) => (q y0 y1 y2).2.2
        clear q hc1 hf1 hb1
        simp [results, Tryz.results100, go_sem, z0, q0, q1, q2]
        grind
  case inr.inr.inr.false =>
    have hlt := HB1.out
    have R : (if f = true ∧ n < 0 then (0, 0, ⟨#[]⟩, 3) else (k0, (rotN 64 b0.toNat (-(b1 % 64) % 64).toNat : Nat), t0, 0) : Int × Int × ByteArray × Int) = rotOut false k0 b0 t0 k1 b1 t1 := by
      unfold rotOut rotV cntI
      rw [HN.out, HWD.out, show -(b1 % 64) % 64 = (64 - b1 % 64) % 64 by omega]
      rfl
    have N3 := fun W => v_rl64 b0 (-(b1 % 64) % 64) hb0 HB1.out (by omega) (by omega) W
    clear hlt
    obtain ⟨r, hr⟩ : ∃ r, rotOut false k0 b0 t0 k1 b1 t1 = r := ⟨_, rfl⟩
    rw [hr] at R
    rw [hr]
    have E := Lib.hid R
    clear hr R
    go_enter Tryz.func100, Tryz.ntmps100
    go_wp2_with (first | (go_at_call 99; with_reducible refine (N1 _).mono ?_; rintro e w' ⟨rfl, rfl⟩) | (go_at_call 96; with_reducible refine (N2 _).mono ?_; rintro e w1 ⟨rfl, hb1⟩; obtain ⟨hc1, hf1⟩ := bcell hb1; have z0 : w.heap.size < w1.heap.size := (by have hx := hb1.size; simp at hx; omega); have z1 : l < w1.heap.size := Nat.lt_trans hl z0) | (go_at_call 101; with_reducible refine (N3 _).mono ?_; rintro e w' ⟨rfl, rfl⟩))
    all_goals (try go_region)
    all_goals go_wp2_with (first | (go_at_call 99; with_reducible refine (N1 _).mono ?_; rintro e w' ⟨rfl, rfl⟩) | (go_at_call 96; with_reducible refine (N2 _).mono ?_; rintro e w1 ⟨rfl, hb1⟩; obtain ⟨hc1, hf1⟩ := bcell hb1; have z0 : w.heap.size < w1.heap.size := (by have hx := hb1.size; simp at hx; omega); have z1 : l < w1.heap.size := Nat.lt_trans hl z0) | (go_at_call 101; with_reducible refine (N3 _).mono ?_; rintro e w' ⟨rfl, rfl⟩))
    all_goals
      clear N1 N2 N3
      have hr := E.out
      clear E HN HC1 HB1 HM HWD HL
      have K0 : w1.heap[w.heap.size]? = some (.cells #[.int .u8 0, .int .u64 0, .string ⟨#[]⟩] 25 (0, 0)) := k_go (k_new rfl) hb1
      refine bodyPost_ret (v := .tuple #[.agg #[.int .u8 (r).1, .int .u64 (r).2.1, .string (r).2.2.1], .int .i64 (r).2.2.2]) ?hr rfl ⟨rfl, ?hB⟩
      case hB => repeat (first | exact Below.refl _ _ | apply b_al | apply b_dr | (refine b_st ?_ ?hg _; case hg => omega) | (refine b_go ?_ (by assumption)))
      case hr =>
        have q := fun (y0 y1 y2 : Value) => set3 (w1 := w1) (g := w.heap.size) K0 y0 y1 y2
        have q0 := fun (y0 y1 y2 : Value) => (q y0 y1 y2).1
        have q1 := fun (y0 y1 y2 : Value) => (q y0 y1 y2).2.1
        have q2 := fun (y0 y1 y2 : Value) => (q y0 y1 y2).2.2
        clear q hc1 hf1 hb1
        simp [results, Tryz.results100, go_sem, z0, q0, q1, q2]
        grind
end Go.Proofs.YtflhndjpfiklaaaGreatDoor.H
