/- The law StdlibTurned: a bit row turned round and back is it. Condition: the numbers are of 64 bits. -/
import Derived.Test.YtflhndjpfiklaaaGreatDoorHStdL
import Derived.Test.YtflhndjpfiklaaaGreatDoorHInt
namespace Go.Proofs.YtflhndjpfiklaaaGreatDoor.H
set_option linter.unusedVariables false
set_option linter.unusedSimpArgs false
open Go.RowKit Go.Proofs.YtflhndjpfiklaaaGreatDoor.Plain
set_option maxHeartbeats 3200000
set_option maxRecDepth 100000
attribute [local go_sem] ext_from ext_bits cell_isSome un_neg_float
/-- What Find gives for a row and a number. -/
def findR (j : Nat) (v0 v1 : Val) : Int × Int × Int := if isRow v0.1 = true ∧ isWhole v1.1 = true then (j, v0.1, 0) else (0, 0, 91)
theorem find_rot (j : Nat) (up : Bool) (hj : j = 25 ∧ up = true ∨ j = 26 ∧ up = false) (v0 v1 : Val) (W : World) (A : Option Addr) (c : Nat) (h : Kinds W A [v0, v1]) :
    Calls Tryz.prog 11 #[.string (fnames.getD j ⟨#[]⟩), .slice A 2 c] W fun e w' => e = .returned (.tuple #[.int .i64 (findR j v0 v1).1, .int .u8 (findR j v0 v1).2.1, .int .i64 (findR j v0 v1).2.2]) ∧ Below W.heap.size W w' := by
  obtain ⟨g, rfl, hg, hc⟩ := h
  refine (c_findRot j up hj g c v0.1 v1.1 W hg (hc 0 v0 rfl) (hc 1 v1 rfl)).mono ?_
  rintro e w' ⟨he, hb⟩
  refine ⟨?_, hb⟩
  unfold FindOut at he
  unfold findR
  rw [he]
  split <;> rfl
/-- What the law's call of ROL or ROR gives: kind, bits, text, found without a fault. -/
def turnR (up : Bool) (v0 v1 : Val) : Int × Int × ByteArray × Bool := if isRow v0.1 = true ∧ isWhole v1.1 = true then callR 0 (callOut up v0 v1) else (0, 0, ⟨#[]⟩, false)
theorem c_turn (j : Nat) (up : Bool) (hj : j = 25 ∧ up = true ∨ j = 26 ∧ up = false) (l cl : Nat) (v0 v1 : Val) (w : World) (hA : Args w l [v0, v1]) (hv0 : OkV v0) (hv1 : OkV v1) :
    Calls Tryz.prog 8 #[.string (fnames.getD j ⟨#[]⟩), .slice (some ⟨l, 0, none⟩) 2 cl] w fun e w' => e = .returned (.tuple #[.agg #[.int .u8 (turnR up v0 v1).1, .int .u64 (turnR up v0 v1).2.1, .string (turnR up v0 v1).2.2.1], .bool (turnR up v0 v1).2.2.2]) ∧ Below w.heap.size w w' := by
  refine (c_lawCall (fnames.getD j ⟨#[]⟩) (findR j v0 v1).1 (findR j v0 v1).2.1 (findR j v0 v1).2.2 l 2 cl [v0, v1] (callOut up v0 v1) w hA rfl (by decide) (by decide) (fun W A c h => find_rot j up hj v0 v1 W A c h) ?_).mono ?_
  · intro he W hW
    have hf : (findR j v0 v1).1 = j := by
      unfold findR at he ⊢
      split at he
      · rw [if_pos (by assumption)]
      · cases he
    rw [hf]
    exact c_callRot j up hj l cl v0 v1 W hW hv0 hv1
  · rintro e w' ⟨he, hb⟩
    refine ⟨?_, hb⟩
    rw [he]
    have : callR (findR j v0 v1).2.2 (callOut up v0 v1) = turnR up v0 v1 := by
      unfold findR turnR
      split <;> rfl
    rw [this]
theorem row_cases {k : Int} (h : isRow k = true) : k = 10 ∨ k = 11 ∨ k = 12 ∨ k = 13 := by unfold isRow at h; simp at h; omega
theorem width_cases {k : Int} (h : isRow k = true) : (widthV k).toNat = 8 ∧ k = 10 ∨ (widthV k).toNat = 16 ∧ k = 11 ∨ (widthV k).toNat = 32 ∧ k = 12 ∨ (widthV k).toNat = 64 ∧ k = 13 := by
  rcases row_cases h with rfl | rfl | rfl | rfl <;> simp [widthV]
theorem turn_not {v k : Val} {n : Int} (h : isRow v.1 = false ∨ mayD v = false ∨ isWhole k.1 = false ∨ mayD k = false ∨ (numV k.1 k.2.1 k.2.2).2 = true ∧ (numV k.1 k.2.1 k.2.2).1 < 0) (up : Bool) : (turnR up v k).2.2.2 = false := by
  unfold turnR
  split
  · rename_i hr
    unfold callOut
    split
    · rename_i hm
      unfold rotOut
      split
      · rfl
      · rename_i hn
        rcases h with h | h | h | h | h
        · rw [h] at hr; simp at hr
        · rw [h] at hm; simp at hm
        · rw [h] at hr; simp at hr
        · rw [h] at hm; simp at hm
        · exact absurd h hn
    · rfl
  · rfl
theorem turn_is {v k : Val} (h1 : isRow v.1 = true) (h2 : mayD v = true) (h3 : isWhole k.1 = true) (h4 : mayD k = true) (h5 : ¬ ((numV k.1 k.2.1 k.2.2).2 = true ∧ (numV k.1 k.2.1 k.2.2).1 < 0)) (up : Bool) : turnR up v k = (v.1, rotV up v.1 v.2.1 k.2.1, v.2.2, true) := by
  unfold turnR
  rw [if_pos ⟨h1, h3⟩]
  unfold callOut
  rw [if_pos ⟨h2, h4, h1, h3⟩]
  unfold rotOut
  rw [if_neg h5]
  rfl
theorem row_lt {v : Val} (h1 : isRow v.1 = true) (h2 : mayD v = true) (ho : OkV v) : v.2.1.toNat < 2 ^ (widthV v.1).toNat := by
  obtain ⟨h0, h9⟩ := ho
  rcases row_cases h1 with h | h | h | h
  all_goals (unfold mayD at h2; rw [h] at h2 ⊢; obtain ⟨hf, _⟩ := may_fits h2 (by decide) (by decide); simp [fitsB, widthV] at hf ⊢; omega)
theorem rot_may {v : Val} {b : Nat} (h1 : isRow v.1 = true) (h2 : mayD v = true) (hb : b < 2 ^ (widthV v.1).toNat) : mayD (v.1, (b : Int), v.2.2) = true := by
  rcases row_cases h1 with h | h | h | h
  all_goals (unfold mayD at h2 ⊢; simp only at h2 ⊢; rw [h] at h2 hb ⊢; obtain ⟨_, ht⟩ := may_fits h2 (by decide) (by decide); unfold mayB; simp [fitsB, widthV, ht] at hb ⊢; try omega)
theorem cnt_up (m : Nat) (n : Int) (hn : 0 ≤ n) : (n % (m : Int)).toNat = n.toNat % m := by
  obtain ⟨n, rfl⟩ := Int.eq_ofNat_of_zero_le hn
  rw [← Int.natCast_emod, Int.toNat_natCast, Int.toNat_natCast]
theorem cnt_down (m : Nat) (hm : 0 < m) (n : Int) (hn : 0 ≤ n) : (((m : Int) - n % (m : Int)) % (m : Int)).toNat = (m - n.toNat % m) % m := by
  obtain ⟨n, rfl⟩ := Int.eq_ofNat_of_zero_le hn
  rw [← Int.natCast_emod, ← Int.natCast_sub (Nat.le_of_lt (Nat.mod_lt _ hm)), ← Int.natCast_emod, Int.toNat_natCast, Int.toNat_natCast]
/-- A row turned round and back. -/
theorem turn_back {v k : Val} (h1 : isRow v.1 = true) (h2 : mayD v = true) (ho : OkV v) (hk : 0 ≤ k.2.1) (h3 : isWhole k.1 = true) (h4 : mayD k = true) (h5 : ¬ ((numV k.1 k.2.1 k.2.2).2 = true ∧ (numV k.1 k.2.1 k.2.2).1 < 0)) :
    (turnR true v k).2.2.2 = true ∧ OkV ((turnR true v k).1, (turnR true v k).2.1, (turnR true v k).2.2.1) ∧ turnR false ((turnR true v k).1, (turnR true v k).2.1, (turnR true v k).2.2.1) k = (v.1, v.2.1, v.2.2, true) := by
  have hx := row_lt h1 h2 ho
  have hw : 0 < (widthV v.1).toNat := by rcases width_cases h1 with h | h | h | h <;> (rw [h.1]; decide)
  have hw0 : ((widthV v.1).toNat : Int) = widthV v.1 := by rcases row_cases h1 with h | h | h | h <;> (rw [h]; simp [widthV])
  rw [turn_is h1 h2 h3 h4 h5]
  have hc : (cntI true (widthV v.1) k.2.1).toNat = k.2.1.toNat % (widthV v.1).toNat := by
    unfold cntI
    rw [if_pos rfl]
    have e := cnt_up (widthV v.1).toNat k.2.1 hk
    rwa [hw0] at e
  have hlt : rotN (widthV v.1).toNat v.2.1.toNat (cntI true (widthV v.1) k.2.1).toNat < 2 ^ (widthV v.1).toNat := by
    rw [hc]
    exact rotN_lt (Nat.le_of_lt (Nat.mod_lt _ hw)) hx
  have hlt2 : rotN (widthV v.1).toNat v.2.1.toNat (cntI true (widthV v.1) k.2.1).toNat < 18446744073709551616 := Nat.lt_of_lt_of_le hlt (by rcases width_cases h1 with h | h | h | h <;> (rw [h.1]; decide))
  refine ⟨rfl, ⟨by simp [rotV], by simp only [rotV]; omega⟩, ?_⟩
  have hm := rot_may h1 h2 hlt
  rw [turn_is (v := (v.1, rotV true v.1 v.2.1 k.2.1, v.2.2)) h1 hm h3 h4 h5]
  have hb : rotV false v.1 (rotV true v.1 v.2.1 k.2.1) k.2.1 = v.2.1 := by
    unfold rotV
    have hc2 : (cntI false (widthV v.1) k.2.1).toNat = ((widthV v.1).toNat - k.2.1.toNat % (widthV v.1).toNat) % (widthV v.1).toNat := by
      unfold cntI
      rw [if_neg (by decide)]
      have e := cnt_down (widthV v.1).toNat hw k.2.1 hk
      rwa [hw0] at e
    rw [hc2, Int.toNat_natCast, hc, rot_there hw hx]
    have := ho.1
    omega
  simp only [hb]
theorem turn_ok {v k : Val} (h1 : OkV v) (h2 : OkV k) (up : Bool) : OkV ((turnR up v k).1, (turnR up v k).2.1, (turnR up v k).2.2.1) := by
  have hz : OkV ((0 : Int), (0 : Int), (⟨#[]⟩ : ByteArray)) := ⟨Int.le_refl _, by decide⟩
  unfold turnR
  split
  · rename_i hr
    unfold callOut
    split
    · rename_i hm
      unfold rotOut
      split
      · exact hz
      · have hx := row_lt hr.1 hm.1 h1
        have hw : 0 < (widthV v.1).toNat := by rcases width_cases hr.1 with h | h | h | h <;> (rw [h.1]; decide)
        have hw0 : ((widthV v.1).toNat : Int) = widthV v.1 := by rcases row_cases hr.1 with h | h | h | h <;> (rw [h]; simp [widthV])
        have hc : (cntI up (widthV v.1) k.2.1).toNat < (widthV v.1).toNat := by
          unfold cntI
          split
          · have e := cnt_up (widthV v.1).toNat k.2.1 h2.1
            rw [hw0] at e
            rw [e]; exact Nat.mod_lt _ hw
          · have e := cnt_down (widthV v.1).toNat hw k.2.1 h2.1
            rw [hw0] at e
            rw [e]; exact Nat.mod_lt _ hw
        have hlt := rotN_lt (Nat.le_of_lt hc) hx
        have hlt2 : rotN (widthV v.1).toNat v.2.1.toNat (cntI up (widthV v.1) k.2.1).toNat < 18446744073709551616 := Nat.lt_of_lt_of_le hlt (by rcases width_cases hr.1 with h | h | h | h <;> (rw [h.1]; decide))
        exact ⟨by simp [callR, rotV], by simp only [callR, rotV, if_pos]; omega⟩
    · exact hz
  · exact hz
theorem int_dint {n : Int} (n0 : -9223372036854775808 ≤ n) (n1 : n ≤ 9223372036854775807) : intV 4 n = (0, 0, ⟨#[]⟩, 1) ∧ (n < -2147483648 ∨ 2147483647 < n) ∨ intV 4 n = (4, n % 18446744073709551616, ⟨#[]⟩, 0) ∧ -2147483648 ≤ n ∧ n ≤ 2147483647 := by
  have hw := wrap_mod n n0 n1
  unfold intV
  simp [fitsB, hw]
  omega
/-- What the law says of what it reckons. -/
theorem pure_Turned {v : Val} {n : Int} (hv : OkV v) (n0 : -9223372036854775808 ≤ n) (n1 : n ≤ 9223372036854775807) {kk kb kf xk xb yk yb : Int} {kt xt yt : ByteArray} {xo yo : Bool} (hk : intV 4 n = (kk, kb, kt, kf)) (hx : turnR true v (kk, kb, kt) = (xk, xb, xt, xo)) (hy : turnR false (xk, xb, xt) (kk, kb, kt) = (yk, yb, yt, yo)) :
    (kf ≠ 0 ∨ mayB v.1 v.2.1 v.2.2 = false ∨ rowB v.1 = false ∨ n < 0 → xo = false) ∧ (kf = 0 → mayB v.1 v.2.1 v.2.2 = true → rowB v.1 = true → ¬ n < 0 → xo = true ∧ yo = true ∧ yk = v.1 ∧ yb = v.2.1 ∧ yt = v.2.2) := by
  have hrow : ∀ k, isRow k = rowB k := fun k => by unfold isRow rowB; simp
  rcases int_dint n0 n1 with ⟨he, hn⟩ | ⟨he, hn1, hn2⟩
  · rw [he] at hk
    injection hk with a1 a2
    injection a2 with a2 a3
    injection a3 with a3 a4
    subst a1 a2 a3 a4
    have := turn_not (v := v) (k := (0, 0, ⟨#[]⟩)) (n := n) (.inr (.inr (.inl (by decide)))) true
    rw [hx] at this
    exact ⟨fun _ => this, fun h => absurd h (by decide)⟩
  · rw [he] at hk
    injection hk with a1 a2
    injection a2 with a2 a3
    injection a3 with a3 a4
    subst a1 a2 a3 a4
    have hm4 : mayD (4, n % 18446744073709551616, ⟨#[]⟩) = true := by
      unfold mayD
      rw [may_nil]
      have hw := wrap_mod n n0 n1
      simp [bitsB, fitsB, hw, hn1, hn2]
    have hnum : numV 4 (n % 18446744073709551616) ⟨#[]⟩ = (n, true) := by
      unfold numV
      rw [if_pos ⟨hm4, by decide, by decide, by simp⟩, wrap_mod n n0 n1]
    refine ⟨fun h => ?_, fun _ h2 h3 h4 => ?_⟩
    · have := turn_not (v := v) (k := (4, n % 18446744073709551616, ⟨#[]⟩)) (n := n) (by
        rcases h with h | h | h | h
        · exact absurd rfl h
        · exact .inr (.inl h)
        · exact .inl ((hrow _).trans h)
        · exact .inr (.inr (.inr (.inr (by rw [hnum]; exact ⟨rfl, h⟩))))) true
      rwa [hx] at this
    · have := turn_back (v := v) (k := (4, n % 18446744073709551616, ⟨#[]⟩)) ((hrow _).trans h3) h2 hv (by show 0 ≤ n % 18446744073709551616; omega) (by show isWhole 4 = true; decide) hm4 (by rw [hnum]; exact fun h => h4 h.2)
      rw [hx] at this
      obtain ⟨t1, _, t3⟩ := this
      simp only at t3
      rw [hy] at t3
      injection t3 with b1 b2
      injection b2 with b2 b3
      injection b3 with b3 b4
      exact ⟨t1, b4, b1, b2, b3⟩
theorem args_two {W : World} {l : Nat} {v k : Val} {T : TypeId} (h : W.heap[l]? = some (.cells #[.int .u8 v.1, .int .u64 v.2.1, .string v.2.2, .int .u8 k.1, .int .u64 k.2.1, .string k.2.2] T (0, 0))) : Args W l [v, k] := by
  refine ⟨k_lt h, fun i d hd => ?_⟩
  match i with
  | 0 => simp at hd; subst hd; exact ⟨k_cv h 0 rfl, k_cv h 1 rfl, k_cv h 2 rfl⟩
  | 1 => simp at hd; subst hd; exact ⟨k_cv h 3 rfl, k_cv h 4 rfl, k_cv h 5 rfl⟩
  | n + 2 => simp at hd
theorem law_Turned (v : Val) (n : Int) (hv : OkV v) (n0 : -9223372036854775808 ≤ n) (n1 : n ≤ 9223372036854775807) (w : World) :
    Calls Tryz.prog 4 #[.agg #[.int .u8 v.1, .int .u64 v.2.1, .string v.2.2], .int .i64 n] w fun e w' => e = .returned (.bool true) ∧ Below w.heap.size w w' := by
  obtain ⟨⟨kk, kb, kt, kf⟩, hk⟩ : ∃ k, intV 4 n = k := ⟨_, rfl⟩
  have N1 := fun W => r_Int 4 n n0 n1 W
  rw [hk] at N1
  simp only at N1
  obtain ⟨⟨xk, xb, xt, xo⟩, hx⟩ : ∃ x, turnR true v (kk, kb, kt) = x := ⟨_, rfl⟩
  obtain ⟨⟨yk, yb, yt, yo⟩, hy⟩ : ∃ y, turnR false (xk, xb, xt) (kk, kb, kt) = y := ⟨_, rfl⟩
  have hkok : OkV (kk, kb, kt) := by
    rcases int_dint n0 n1 with ⟨he, hn⟩ | ⟨he, hn1, hn2⟩
    · rw [he] at hk; injection hk with a1 a2; injection a2 with a2 a3; subst a2; exact ⟨Int.le_refl _, by show (0 : Int) < _; decide⟩
    · rw [he] at hk; injection hk with a1 a2; injection a2 with a2 a3; subst a2; constructor <;> (simp only; omega)
  have hxok : OkV (xk, xb, xt) := by have := turn_ok hv hkok true; rwa [hx] at this
  have N2 : ∀ (l cl : Nat) (W : World), Args W l [v, (kk, kb, kt)] → Calls Tryz.prog 8 #[.string ⟨#[82, 79, 76]⟩, .slice (some ⟨l, 0, none⟩) 2 cl] W fun e w' => e = .returned (.tuple #[.agg #[.int .u8 xk, .int .u64 xb, .string xt], .bool xo]) ∧ Below W.heap.size W w' := by
    intro l cl W hA
    have h := c_turn 25 true (.inl ⟨rfl, rfl⟩) l cl v (kk, kb, kt) W hA hv hkok
    rw [hx] at h
    exact h
  have N3 : ∀ (l cl : Nat) (W : World), Args W l [(xk, xb, xt), (kk, kb, kt)] → Calls Tryz.prog 8 #[.string ⟨#[82, 79, 82]⟩, .slice (some ⟨l, 0, none⟩) 2 cl] W fun e w' => e = .returned (.tuple #[.agg #[.int .u8 yk, .int .u64 yb, .string yt], .bool yo]) ∧ Below W.heap.size W w' := by
    intro l cl W hA
    have h := c_turn 26 false (.inr ⟨rfl, rfl⟩) l cl (xk, xb, xt) (kk, kb, kt) W hA hxok hkok
    rw [hy] at h
    exact h
  have N4 := fun W => r_May v.1 v.2.1 v.2.2 hv.1 hv.2 W
  have HP := Lib.hid (pure_Turned hv n0 n1 hk hx hy)
  clear hk hx hy hkok hxok n0 n1 hv
  go_enter Tryz.func4, Tryz.ntmps4
  go_wp2_with (first | (go_at_call 7; with_reducible refine (N1 _).mono ?_; rintro e w1 ⟨rfl, hb1⟩; obtain ⟨hc1, hf1⟩ := bcell hb1; have V1 := k_go (k_new (w := w) rfl) hb1; have z0 := k_lt V1))
  refine (N2 _ _ _ (args_two (k_new (by simp)))).mono ?_
  rintro e w2 ⟨rfl, hb2⟩
  have V2 := k_go (k_al (k_al V1 _) _) hb2
  have K2 := k_go (k_al (k_new (w := w1) rfl) _) hb2
  have a0 := k_cv V2 0 rfl; have a1 := k_cv V2 1 rfl; have a2 := k_cv V2 2 rfl; have b0 := k_cv K2 0 rfl; have b1 := k_cv K2 1 rfl; have b2 := k_cv K2 2 rfl
  simp only [List.getElem_toArray, List.getElem_cons_succ, List.getElem_cons_zero] at a0 a1 a2 b0 b1 b2
  have l2 := k_lt V2
  have l3 := k_lt K2
  have hbw : Below w.heap.size w w2 := b_go (b_al (b_al (b_go (b_al (Below.refl _ _) _) hb1) _) _) hb2
  clear N2 V1 hb1 hb2 z0
  go_wp2_with (first | (go_at_call 9; go_loud (with_reducible refine (N4 _).mono ?_); rintro e w3 ⟨rfl, hb3⟩; have V3 := k_go (k_al V2 _) hb3; have K3 := k_go (k_al K2 _) hb3; have X3 := k_go (k_new (w := w2) rfl) hb3; clear a0 a1 a2 b0 b1 b2; have a0 := k_cv V3 0 rfl; have a1 := k_cv V3 1 rfl; have a2 := k_cv V3 2 rfl; have b0 := k_cv K3 0 rfl; have b1 := k_cv K3 1 rfl; have b2 := k_cv K3 2 rfl; have c0 := k_cv X3 0 rfl; have c1 := k_cv X3 1 rfl; have c2 := k_cv X3 2 rfl; simp only [List.getElem_toArray, List.getElem_cons_succ, List.getElem_cons_zero] at a0 a1 a2 b0 b1 b2 c0 c1 c2) | (go_at_call 10; with_reducible refine (r_row _ _).mono ?_; rintro e w4 ⟨rfl, rfl⟩) | (go_at_call 8; refine (N3 _ _ _ (args_two (k_new rfl))).mono ?_; rintro e w5 ⟨rfl, hb5⟩; have V5 := k_go (k_al V3 _) hb5; clear a0 a1 a2 b0 b1 b2 c0 c1 c2; have a0 := k_cv V5 0 rfl; have a1 := k_cv V5 1 rfl; have a2 := k_cv V5 2 rfl; simp only [List.getElem_toArray, List.getElem_cons_succ, List.getElem_cons_zero] at a0 a1 a2; have l5 := k_lt V5))
  all_goals
    go_ret
    have hp := HP.out
    refine ⟨ret_bool ?_, by repeat (first | exact hbw | with_reducible apply b_al | (refine b_go ?_ (by assumption)))⟩
    clear N1 N3 N4 HP
    grind
end Go.Proofs.YtflhndjpfiklaaaGreatDoor.H
