/- Contracts of Print at numbers and BOOL, of the program and of the document. Conditions: bits are 64, the value may be, and the tables and errors of strconv are as laid. -/
import Derived.Test.YtlmmkaddlflepaaGreatDoorHConv
import Derived.Test.YtlmmkaddlflepaaGreatDoorHFmt10
import Derived.WalkSmall
namespace Go.Proofs.YtlmmkaddlflepaaGreatDoor.H
set_option linter.unusedVariables false
open Go.RowKit Go.Proofs.YtlmmkaddlflepaaGreatDoor.Plain
set_option maxHeartbeats 3200000
set_option maxRecDepth 100000
set_option linter.unusedSimpArgs false
attribute [local go_sem] ext_from ext_bits cell_isSome un_neg_float
theorem var_go {P : Program} {w w' : World} {n : String} {cs : Array Value} (h : w.var? P n = some cs) (hb : Below w.heap.size w w') : w'.var? P n = some cs := by
  unfold World.var? at h ⊢
  cases hg : P.globalNamed n with
  | none => rw [hg] at h; simp at h
  | some g =>
    rw [hg] at h
    simp only [Option.bind_some] at h ⊢
    cases hc : w.heap[g]? with
    | none => rw [hc] at h; simp at h
    | some o => rw [k_go hc hb]; rw [hc] at h; exact h
/-- What the statement's row lists of the library's variables, as far as the walks need it. -/
structure Laid (w : World) : Prop where
  tab : Lib.TabIs Tryz.prog w "internal/strconv.uint64pow10" .u64 Lib.pow10Tab
  es : ∃ tp p, w.var? Tryz.prog "strconv.ErrSyntax" = some #[.iface tp p]
  er : ∃ tp p, w.var? Tryz.prog "strconv.ErrRange" = some #[.iface tp p]
theorem Laid.go {w w' : World} (h : Laid w) (hb : Below w.heap.size w w') : Laid w' :=
  ⟨var_go h.tab hb, let ⟨tp, p, e⟩ := h.es; ⟨tp, p, var_go e hb⟩, let ⟨tp, p, e⟩ := h.er; ⟨tp, p, var_go e hb⟩⟩
theorem b_grow (w : World) (k : Nat) (os : Array Obj) : Below w.heap.size w (Go.Sort.grow (w.drewN k) os) := Lib.below_grow _ _ (Nat.le_refl _) _ _
/-- The text of a number or a BOOL. -/
def numT (kd b : Int) : ByteArray :=
  if kd = 1 then (if b = 0 then ⟨#[70, 65, 76, 83, 69]⟩ else ⟨#[84, 82, 85, 69]⟩) else if unB kd = true then ⟨(Lib.decDigits b.toNat).toArray⟩ else ⟨(Lib.itoa (wrap64 b)).toArray⟩
theorem wrap_lo (b : Int) : -9223372036854775808 ≤ wrap64 b := by unfold wrap64; omega
theorem wrap_hi (b : Int) : wrap64 b ≤ 9223372036854775807 := by unfold wrap64; omega
theorem ret_str {a b : ByteArray} (h : a = b) : Ending.returned (.string a) = Ending.returned (.string b) := by rw [h]
theorem fmtU (u : Nat) (hu : u < 18446744073709551616) {w : World} (hL : Laid w) : Calls Tryz.prog 52 #[.int .u64 u, .int .i64 10] w fun e w' => e = .returned (.string ⟨(Lib.decDigits u).toArray⟩) ∧ Below w.heap.size w w' :=
  (Tryz.FormatUint_10 u hu w hL.tab).mono fun _ _ ⟨he, _, _, hw⟩ => ⟨he, by rw [hw]; exact b_grow _ _ _⟩
theorem fmtI (n : Int) (h0 : -9223372036854775808 ≤ n) (h1 : n ≤ 9223372036854775807) {w : World} (hL : Laid w) : Calls Tryz.prog 55 #[.int .i64 n, .int .i64 10] w fun e w' => e = .returned (.string ⟨(Lib.itoa n).toArray⟩) ∧ Below w.heap.size w w' :=
  (Tryz.strconv_FormatInt_10 n h0 h1 w hL.tab).mono fun _ _ ⟨he, _, _, hw⟩ => ⟨he, by rw [hw]; exact b_grow _ _ _⟩
theorem itoaC (n : Int) (h0 : -9223372036854775808 ≤ n) (h1 : n ≤ 9223372036854775807) {w : World} (hL : Laid w) : Calls Tryz.prog 88 #[.int .i64 n] w fun e w' => e = .returned (.string ⟨(Lib.itoa n).toArray⟩) ∧ Below w.heap.size w w' :=
  (Tryz.strconv_Itoa n h0 h1 w hL.tab).mono fun _ _ ⟨he, _, _, hw⟩ => ⟨he, by rw [hw]; exact b_grow _ _ _⟩
theorem v_Print (kd b : Int) (t : ByteArray) (hk : 1 ≤ kd ∧ kd ≤ 9) (h0 : 0 ≤ b) (h1 : b < 18446744073709551616) (hm : mayB kd b t = true) (w : World) (hL : Laid w) : Calls Tryz.prog 29 #[.agg #[.int .u8 kd, .int .u64 b, .string t]] w fun e w' => e = .returned (.string (numT kd b)) ∧ Below w.heap.size w w' := by
  have N1 := fun W => v_may kd b t h0 h1 W
  obtain ⟨u, rfl⟩ := Int.eq_ofNat_of_zero_le h0
  have N2 := fun W (hb : Below w.heap.size w W) => fmtU u (by omega) (hL.go hb)
  have N3 := fun W (hb : Below w.heap.size w W) => fmtI (wrap64 u) (wrap_lo _) (wrap_hi _) (hL.go hb)
  have d1 : rowB kd = false := by unfold rowB; simp; omega
  have d2 : (kd == 18) = false := by simp; omega
  have d3 : (kd == 19) = false := by simp; omega
  clear h1 h0 hL hk
  go_enter Tryz.func29, Tryz.ntmps29
  go_wp2_with (first | (go_at_call 17; refine (N1 _).mono ?_; rintro e w1 ⟨rfl, hb⟩; obtain ⟨hc1, hf1⟩ := bcell hb) | (go_at_call 37; refine (v_unsigned _ _).mono ?_; rintro e w' ⟨rfl, rfl⟩) | (go_at_call 16; refine (v_row _ _).mono ?_; rintro e w' ⟨rfl, rfl⟩) | (go_at_call 52; refine (N2 _ ?hx).mono ?_; (case hx => (repeat (first | exact Below.refl _ _ | apply b_al | (refine b_st ?_ ?hg _; case hg => omega) | (refine b_go ?_ (by assumption))))); rintro e w1 ⟨rfl, hb2⟩) | (go_at_call 55; refine (N3 _ ?hx).mono ?_; (case hx => (repeat (first | exact Below.refl _ _ | apply b_al | (refine b_st ?_ ?hg _; case hg => omega) | (refine b_go ?_ (by assumption))))); rintro e w1 ⟨rfl, hb2⟩))
  all_goals
    (go_ret
     refine ⟨ret_str ?_, ?hB⟩
     case hB => (repeat (first | exact Below.refl _ _ | apply b_al | (refine b_st ?_ ?hg _; case hg => omega) | (refine b_go ?_ (by assumption))))
     (try clear hc1 hf1)
     go_light
     clear N1 N2 N3
     simp_all [numT])
theorem r_Print (kd b : Int) (t : ByteArray) (hk : 1 ≤ kd ∧ kd ≤ 9) (h0 : 0 ≤ b) (h1 : b < 18446744073709551616) (hm : mayB kd b t = true) (w : World) (hL : Laid w) : Calls Tryz.prog 66 #[.agg #[.int .u8 kd, .int .u64 b, .string t]] w fun e w' => e = .returned (.string (numT kd b)) ∧ Below w.heap.size w w' := by
  have N1 := fun W => r_May kd b t h0 h1 W
  obtain ⟨u, rfl⟩ := Int.eq_ofNat_of_zero_le h0
  have N2 := fun W (hb : Below w.heap.size w W) => fmtU u (by omega) (hL.go hb)
  have N3 := fun W (hb : Below w.heap.size w W) => itoaC (wrap64 u) (wrap_lo _) (wrap_hi _) (hL.go hb)
  have d1 : rowB kd = false := by unfold rowB; simp; omega
  have d2 : (kd == 18) = false := by simp; omega
  have d3 : (kd == 19) = false := by simp; omega
  have d4 : kd = 1 → (u : Int) = 0 ∨ (u : Int) = 1 := fun e => by
    subst e
    have := (may_fits hm (by decide) (by decide)).1
    have := of_decide_eq_true this
    omega
  have D4 := Lib.hid d4
  clear h1 h0 hL hk d4
  go_enter Tryz.func66, Tryz.ntmps66
  go_wp2_with (first | (go_at_call 12; refine (N1 _).mono ?_; rintro e w1 ⟨rfl, hb⟩; obtain ⟨hc1, hf1⟩ := bcell hb) | (go_at_call 41; refine (r_unsigned _ _).mono ?_; rintro e w' ⟨rfl, rfl⟩) | (go_at_call 64; refine (r_row _ _).mono ?_; rintro e w' ⟨rfl, rfl⟩) | (go_at_call 52; refine (N2 _ ?hx).mono ?_; (case hx => (repeat (first | exact Below.refl _ _ | apply b_al | (refine b_st ?_ ?hg _; case hg => omega) | (refine b_go ?_ (by assumption))))); rintro e w1 ⟨rfl, hb2⟩) | (go_at_call 88; refine (N3 _ ?hx).mono ?_; (case hx => (repeat (first | exact Below.refl _ _ | apply b_al | (refine b_st ?_ ?hg _; case hg => omega) | (refine b_go ?_ (by assumption))))); rintro e w1 ⟨rfl, hb2⟩))
  all_goals
    (go_ret
     refine ⟨ret_str ?_, ?hB⟩
     case hB => (repeat (first | exact Below.refl _ _ | apply b_al | (refine b_st ?_ ?hg _; case hg => omega) | (refine b_go ?_ (by assumption))))
     (try clear hc1 hf1)
     go_light
     clear N1 N2 N3
     have d4 := D4.out
     first | (simp_all [numT]; done) | grind [numT])
end Go.Proofs.YtlmmkaddlflepaaGreatDoor.H
