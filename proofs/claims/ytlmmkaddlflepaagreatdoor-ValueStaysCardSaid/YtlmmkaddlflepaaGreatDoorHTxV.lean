/- The program's fromText at integers and BOOL. Conditions: a string takes no more than can be read; strconv's table and errors are as laid. -/
import Derived.Test.YtlmmkaddlflepaaGreatDoorHTx
namespace Go.Proofs.YtlmmkaddlflepaaGreatDoor.H
set_option linter.unusedVariables false
open Go.RowKit Go.Proofs.YtlmmkaddlflepaaGreatDoor.Plain
set_option maxHeartbeats 3200000
set_option maxRecDepth 100000
set_option linter.unusedSimpArgs false
attribute [local go_sem] ext_from ext_bits cell_isSome un_neg_float
/-- TRUE, FALSE, or none. -/
def txtB (s : ByteArray) : Int × Int × ByteArray × Int := if s.toList = [84, 82, 85, 69] then (1, 1, ⟨#[]⟩, 0) else if s.toList = [70, 65, 76, 83, 69] then (1, 0, ⟨#[]⟩, 0) else (0, 0, ⟨#[]⟩, 7)
theorem r_fromTextB (s : ByteArray) (w : World) : Calls Tryz.prog 33 #[.int .u8 1, .string s] w fun e w' => e = .returned (.tuple #[.agg #[.int .u8 (txtB s).1, .int .u64 (txtB s).2.1, .string (txtB s).2.2.1], .int .i64 (txtB s).2.2.2]) ∧ Below w.heap.size w w' := by
  go_enter Tryz.func33, Tryz.ntmps33
  go_wp2_with (first | (go_at_call 58; ((with_reducible refine (r_Bool _ _).mono ?_); rintro e w1 ⟨rfl, hb⟩; obtain ⟨hc1, hf1⟩ := bcell hb)))
  all_goals
    (refine bodyPost_ret (v := .tuple #[.agg #[.int .u8 (txtB s).1, .int .u64 (txtB s).2.1, .string (txtB s).2.2.1], .int .i64 (txtB s).2.2.2]) ?hr rfl ⟨rfl, ?hB⟩
     case hB => repeat (first | exact Below.refl _ _ | apply b_al | (refine b_st ?_ ?hg _; case hg => omega) | (refine b_go ?_ (by assumption)))
     case hr =>
      first
       | (have q := fun (y0 y1 y2 : Value) => set3 (w1 := w1) (g := w.heap.size) (by repeat (first | (refine k_new ?_; simp; done) | apply k_al | (refine k_go ?_ (by assumption)))) y0 y1 y2
          have q0 := fun (y0 y1 y2 : Value) => (q y0 y1 y2).1
          have q1 := fun (y0 y1 y2 : Value) => (q y0 y1 y2).2.1
          have q2 := fun (y0 y1 y2 : Value) => (q y0 y1 y2).2.2
          clear q
          (try clear hb hc1 hf1)
          go_light
          simp [results, Tryz.results33, go_sem, wrap_u64, q0, q1, q2]
          (try clear q0 q1 q2)
          all_goals grind [txtB, boolV])
       | (go_light
          simp [results, Tryz.results33, go_sem, wrap_u64]
          all_goals grind [txtB, boolV]))
theorem v_fromTextB (s : ByteArray) (w : World) : Calls Tryz.prog 30 #[.int .u8 1, .string s] w fun e w' => e = .returned (.tuple #[.agg #[.int .u8 (txtB s).1, .int .u64 (txtB s).2.1, .string (txtB s).2.2.1], .int .i64 (txtB s).2.2.2]) ∧ Below w.heap.size w w' := by
  go_enter Tryz.func30, Tryz.ntmps30
  go_wp2_with (first | (go_at_call 21; ((with_reducible refine (v_Bool _ _).mono ?_); rintro e w1 ⟨rfl, hb⟩; obtain ⟨hc1, hf1⟩ := bcell hb)))
  all_goals
    (refine bodyPost_ret (v := .tuple #[.agg #[.int .u8 (txtB s).1, .int .u64 (txtB s).2.1, .string (txtB s).2.2.1], .int .i64 (txtB s).2.2.2]) ?hr rfl ⟨rfl, ?hB⟩
     case hB => repeat (first | exact Below.refl _ _ | apply b_al | (refine b_st ?_ ?hg _; case hg => omega) | (refine b_go ?_ (by assumption)))
     case hr =>
      first
       | (have q := fun (y0 y1 y2 : Value) => set3 (w1 := w1) (g := w.heap.size) (by repeat (first | (refine k_new ?_; simp; done) | apply k_al | (refine k_go ?_ (by assumption)))) y0 y1 y2
          have q0 := fun (y0 y1 y2 : Value) => (q y0 y1 y2).1
          have q1 := fun (y0 y1 y2 : Value) => (q y0 y1 y2).2.1
          have q2 := fun (y0 y1 y2 : Value) => (q y0 y1 y2).2.2
          clear q
          (try clear hb hc1 hf1)
          go_light
          simp [results, Tryz.results30, go_sem, wrap_u64, q0, q1, q2]
          (try clear q0 q1 q2)
          all_goals grind [txtB, boolV])
       | (go_light
          simp [results, Tryz.results30, go_sem, wrap_u64]
          all_goals grind [txtB, boolV]))
theorem trim_eq (l : List UInt8) : Lib.trimPrefix l [45] = if l.head? = some 45 then l.drop 1 else l := by
  unfold Lib.trimPrefix Lib.hasPrefix
  cases l with
  | nil => rfl
  | cons c r =>
    by_cases h : c = 45
    · subst h; simp
    · have h2 : ((45 : UInt8) == c) = false := by
        cases h3 : ((45 : UInt8) == c) with
        | false => rfl
        | true => exact absurd (beq_iff_eq.1 h3).symm h
      have h4 : ¬ (c :: r).head? = some 45 := by simpa using h
      rw [if_neg h4, if_neg]
      rw [List.isPrefixOf_cons_cons, h2]; simp
theorem dig45 : digV [45] = (0, false) := by decide
theorem txt_bad {k : Int} {s : ByteArray} (h : digV (Lib.trimPrefix s.data.toList [45]) = (0, false)) : txtV k s = (0, 0, ⟨#[]⟩, 7) := by
  rw [trim_eq] at h
  cases hm : mnB s with
  | true =>
    have h2 := (of_decide_eq_true hm).2
    rw [if_pos h2] at h
    rw [txt_of (k := k) (m := true) hm h]; simp
  | false =>
    have h2 := of_decide_eq_false hm
    by_cases c : s.data.toList.head? = some 45
    · have h3 : s.data.toList = [45] := by
        cases hl : s.data.toList with
        | nil => rw [hl] at c; simp at c
        | cons x r =>
          rw [hl] at c h2
          simp at c h2
          subst c
          cases r with
          | nil => rfl
          | cons y z => simp at h2
      rw [txt_of (k := k) (m := false) (n := 0) (ok := false) hm (by simp only [Bool.false_eq_true, if_false]; rw [h3]; exact dig45)]; simp
    · rw [if_neg c] at h
      rw [txt_of (k := k) (m := false) hm h]; simp
theorem txt_good {k : Int} {s : ByteArray} {u : Nat} (h : digV (Lib.trimPrefix s.data.toList [45]) = ((u : Int), true)) (hd : Lib.decDigits u = Lib.trimPrefix s.data.toList [45]) :
    txtV k s = if (s.toList == [45, 48]) = true then (0, 0, ⟨#[]⟩, 7) else ofV (!(Lib.trimPrefix s.data.toList [45] == s.toList)) u k 7 := by
  rw [ByteArray.toList_eq]
  rw [trim_eq] at h hd ⊢
  by_cases c : s.data.toList.head? = some 45
  · rw [if_pos c] at h hd ⊢
    obtain ⟨r, hl⟩ : ∃ r, s.data.toList = 45 :: r := by
      cases hl : s.data.toList with
      | nil => rw [hl] at c; simp at c
      | cons x r => rw [hl] at c; simp at c; exact ⟨r, by rw [c]⟩
    rw [hl, List.drop_one, List.tail_cons] at h hd ⊢
    have hr : r ≠ [] := by rw [← hd]; exact dec_ne u
    have hm : mnB s = true := decide_eq_true (by rw [hl]; exact ⟨by have := List.length_pos_iff.2 hr; simp only [List.length_cons]; omega, rfl⟩)
    rw [txt_of (k := k) (m := true) (n := u) (ok := true) hm (by rw [if_pos rfl, hl]; exact h)]
    have e1 : (r == 45 :: r) = false := by
      cases h2 : (r == 45 :: r) with
      | false => rfl
      | true => have := congrArg List.length (beq_iff_eq.1 h2); simp at this
    rw [e1]
    have e2 : ((45 :: r : List UInt8) == [45, 48]) = true ↔ u = 0 := by
      rw [beq_iff_eq]
      constructor
      · intro e
        have e : r = [48] := by simpa using e
        rw [e] at hd
        have := dval_dec u
        rw [hd] at this
        rw [← this]; rfl
      · rintro rfl
        rw [← hd, dec_small 0 (by decide)]; rfl
    by_cases hu : u = 0
    · rw [if_pos (e2.2 hu), if_pos (.inr ⟨rfl, by rw [hu]; rfl⟩)]
    · rw [if_neg (fun e => hu (e2.1 e)), if_neg (by simp; omega)]; rfl
  · rw [if_neg c] at h hd ⊢
    have hm : mnB s = false := decide_eq_false fun e => c e.2
    rw [txt_of (k := k) (m := false) (n := u) (ok := true) hm (by simp only [Bool.false_eq_true, if_false]; exact h)]
    have e2 : (s.data.toList == [45, 48]) = false := by
      cases h2 : (s.data.toList == [45, 48]) with
      | false => rfl
      | true => rw [beq_iff_eq.1 h2] at c; simp at c
    rw [e2]
    simp
theorem parse_okC (t : ByteArray) (ht : t.size ≤ 140737488351232) (u : Nat) (h : Lib.parseUintB 64 t.data.toList = .ok u) (w : World) : Calls Tryz.prog 57 #[.string t, .int .i64 10, .int .i64 64] w fun e w' => e = .returned (.tuple #[.int .u64 u, .nilIface]) ∧ Below w.heap.size w w' :=
  (Tryz.strconv_ParseUint_10_at64_ok t (by omega) u h w).mono fun _ _ ⟨he, hw⟩ => ⟨he, by rcases hw with hw | hw <;> rw [hw]; exact Below.refl _ _; exact Lib.bytesWorld_below _ _ _⟩
theorem parse_badC (t : ByteArray) (ht : t.size ≤ 140737488351232) (h : ∀ u, Lib.parseUintB 64 t.data.toList ≠ .ok u) {w : World} (hL : Laid w) : Calls Tryz.prog 57 #[.string t, .int .i64 10, .int .i64 64] w fun e w' => ∃ x N, e = .returned (.tuple #[.int .u64 x, .iface 114 (.pointer (some ⟨N, 0, none⟩))]) ∧ Below w.heap.size w w' := by
  rcases hp : Lib.parseUintB 64 t.data.toList with u | _ | _
  · exact absurd hp (h u)
  · obtain ⟨tp, p, hv⟩ := hL.es
    exact (Any.strconv_ParseUint_10_at64_syntax_var Tryz.laysPu14 t (by omega) hp tp p w hv).mono fun _ _ ⟨N, he, _, _, hb⟩ => ⟨_, N, he, hb⟩
  · obtain ⟨tp, p, hv⟩ := hL.er
    exact (Tryz.strconv_ParseUint_10_at64_range_var t (by omega) hp tp p w hv).mono fun _ _ ⟨N, he, _, _, hb⟩ => ⟨_, N, he, hb⟩
theorem trim_len (l : List UInt8) : (Lib.trimPrefix l [45]).length ≤ l.length := by rw [trim_eq]; split <;> simp
theorem v_fromText (k : Int) (s : ByteArray) (hs : s.size ≤ 140737488351232) (w : World) (hL : Laid w) (hk : 2 ≤ k ∧ k ≤ 9) : Calls Tryz.prog 30 #[.int .u8 k, .string s] w fun e w' => e = .returned (.tuple #[.agg #[.int .u8 (txtV k s).1, .int .u64 (txtV k s).2.1, .string (txtV k s).2.2.1], .int .i64 (txtV k s).2.2.2]) ∧ Below w.heap.size w w' := by
  have d1 : (k == 1) = false := by simp; omega
  have NT := fun W => Tryz.strings_TrimPrefix s ⟨#[45]⟩ W
  have e45 : (⟨#[45]⟩ : ByteArray).data.toList = [45] := rfl
  rw [e45] at NT
  generalize hD : Lib.trimPrefix s.data.toList [45] = D at NT
  have hDl : D.length ≤ 140737488351232 := by rw [← hD]; exact Nat.le_trans (trim_len _) (by rw [s_len]; exact hs)
  have hDs : (⟨D.toArray⟩ : ByteArray).size ≤ 140737488351232 := by show D.toArray.size ≤ _; simpa using hDl
  have hV := digV_of_parse D
  by_cases hp : ∃ u, Lib.parseUintB 64 D = .ok u
  · obtain ⟨u, hp⟩ := hp
    rw [hp] at hV
    have hu : u < 18446744073709551616 := by
      unfold Lib.parseUintB at hp
      split at hp
      · cases hp
      · exact (parse_inv D 0 u (by omega) (by rw [show (2 ^ 64 - 1 : Nat) = 18446744073709551615 by decide] at hp; exact hp)).2.2
    have N1 := fun W (_ : Below w.heap.size w W) => parse_okC ⟨D.toArray⟩ hDs u hp W
    have N2 := fun W (hb : Below w.heap.size w W) => fmtU u hu (hL.go hb)
    have N3 := fun m W => v_of m u k 7 (by omega) (by omega) W
    by_cases hd : Lib.decDigits u = D
    · have E1 : txtV k s = _ := txt_good (by rw [hD]; simpa [hd] using hV) (hd.trans hD.symm)
      rw [hD] at E1
      rw [hd] at N2
      cases h0 : (s.toList == [45, 48])
      all_goals
        rw [h0] at E1
        have E := Lib.hid E1
        have g0 := h0
        clear E1 hV hp hu hL hk hD hDl hDs hd h0
        go_enter Tryz.func30, Tryz.ntmps30
        go_wp2_with (first | (go_at_call 56; refine (NT _).mono ?_; rintro e w' ⟨rfl, rfl⟩) | (go_at_call 57; refine (N1 _ ?hx).mono ?_; (case hx => (repeat (first | exact Below.refl _ _ | apply b_al | (refine b_st ?_ ?hg _; case hg => omega) | (refine b_go ?_ (by assumption))))); rintro e w1 ⟨rfl, hb2⟩; (first | (have hb1 := b_go hb hb2; clear hb hb2 hc1 hf1; have hb := hb1; clear hb1) | (have hb1 := b_go (b_al hb _) hb2; clear hb hb2 hc1 hf1; have hb := hb1; clear hb1) | (have hb := hb2; clear hb2)); obtain ⟨hc1, hf1⟩ := bcell hb) | (go_at_call 52; refine (N2 _ ?hx).mono ?_; (case hx => (repeat (first | exact Below.refl _ _ | apply b_al | (refine b_st ?_ ?hg _; case hg => omega) | (refine b_go ?_ (by assumption))))); rintro e w1 ⟨rfl, hb2⟩; (first | (have hb1 := b_go hb hb2; clear hb hb2 hc1 hf1; have hb := hb1; clear hb1) | (have hb1 := b_go (b_al hb _) hb2; clear hb hb2 hc1 hf1; have hb := hb1; clear hb1) | (have hb := hb2; clear hb2)); obtain ⟨hc1, hf1⟩ := bcell hb) | (go_at_call 20; refine (N3 _ _).mono ?_; rintro e w1 ⟨rfl, hb2⟩; (first | (have hb1 := b_go hb hb2; clear hb hb2 hc1 hf1; have hb := hb1; clear hb1) | (have hb1 := b_go (b_al hb _) hb2; clear hb hb2 hc1 hf1; have hb := hb1; clear hb1) | (have hb := hb2; clear hb2)); obtain ⟨hc1, hf1⟩ := bcell hb))
        clear N1 N2 N3 NT
        have E0 := E.out
        clear E
        (refine bodyPost_ret (v := .tuple #[.agg #[.int .u8 (txtV k s).1, .int .u64 (txtV k s).2.1, .string (txtV k s).2.2.1], .int .i64 (txtV k s).2.2.2]) ?hr rfl ⟨rfl, ?hB⟩
         case hB => repeat (first | exact Below.refl _ _ | apply b_al | (refine b_st ?_ ?hg _; case hg => omega) | (refine b_go ?_ (by assumption)))
         case hr =>
          first
           | (have q := fun (y0 y1 y2 : Value) => set3 (w1 := w1) (g := w.heap.size) (by repeat (first | (refine k_new ?_; simp; done) | apply k_al | (refine k_go ?_ (by assumption)))) y0 y1 y2
              have q0 := fun (y0 y1 y2 : Value) => (q y0 y1 y2).1
              have q1 := fun (y0 y1 y2 : Value) => (q y0 y1 y2).2.1
              have q2 := fun (y0 y1 y2 : Value) => (q y0 y1 y2).2.2
              clear q
              (try clear hb hc1 hf1)
              go_light
              simp [results, Tryz.results30, go_sem, wrap_u64, q0, q1, q2]
              (try clear q0 q1 q2)
              all_goals grind [])
           | (go_light
              simp [results, Tryz.results30, go_sem, wrap_u64]
              all_goals grind []))
    · have E := Lib.hid (show txtV k s = (0, 0, ⟨#[]⟩, 7) from txt_bad (by rw [hD]; simpa [hd] using hV))
      have hd2 : (Lib.decDigits u == D) = false := by simpa using hd
      clear hV hp hu hL hk hD hDl hDs
      go_enter Tryz.func30, Tryz.ntmps30
      go_wp2_with (first | (go_at_call 56; refine (NT _).mono ?_; rintro e w' ⟨rfl, rfl⟩) | (go_at_call 57; refine (N1 _ ?hx).mono ?_; (case hx => (repeat (first | exact Below.refl _ _ | apply b_al | (refine b_st ?_ ?hg _; case hg => omega) | (refine b_go ?_ (by assumption))))); rintro e w1 ⟨rfl, hb2⟩; (first | (have hb1 := b_go hb hb2; clear hb hb2 hc1 hf1; have hb := hb1; clear hb1) | (have hb1 := b_go (b_al hb _) hb2; clear hb hb2 hc1 hf1; have hb := hb1; clear hb1) | (have hb := hb2; clear hb2)); obtain ⟨hc1, hf1⟩ := bcell hb) | (go_at_call 52; refine (N2 _ ?hx).mono ?_; (case hx => (repeat (first | exact Below.refl _ _ | apply b_al | (refine b_st ?_ ?hg _; case hg => omega) | (refine b_go ?_ (by assumption))))); rintro e w1 ⟨rfl, hb2⟩; (first | (have hb1 := b_go hb hb2; clear hb hb2 hc1 hf1; have hb := hb1; clear hb1) | (have hb1 := b_go (b_al hb _) hb2; clear hb hb2 hc1 hf1; have hb := hb1; clear hb1) | (have hb := hb2; clear hb2)); obtain ⟨hc1, hf1⟩ := bcell hb) | (go_at_call 20; refine (N3 _ _).mono ?_; rintro e w1 ⟨rfl, hb2⟩; (first | (have hb1 := b_go hb hb2; clear hb hb2 hc1 hf1; have hb := hb1; clear hb1) | (have hb1 := b_go (b_al hb _) hb2; clear hb hb2 hc1 hf1; have hb := hb1; clear hb1) | (have hb := hb2; clear hb2)); obtain ⟨hc1, hf1⟩ := bcell hb))
      clear N1 N2 N3 NT
      have E0 := E.out
      clear E
      (refine bodyPost_ret (v := .tuple #[.agg #[.int .u8 (txtV k s).1, .int .u64 (txtV k s).2.1, .string (txtV k s).2.2.1], .int .i64 (txtV k s).2.2.2]) ?hr rfl ⟨rfl, ?hB⟩
       case hB => repeat (first | exact Below.refl _ _ | apply b_al | (refine b_st ?_ ?hg _; case hg => omega) | (refine b_go ?_ (by assumption)))
       case hr =>
        first
         | (have q := fun (y0 y1 y2 : Value) => set3 (w1 := w1) (g := w.heap.size) (by repeat (first | (refine k_new ?_; simp; done) | apply k_al | (refine k_go ?_ (by assumption)))) y0 y1 y2
            have q0 := fun (y0 y1 y2 : Value) => (q y0 y1 y2).1
            have q1 := fun (y0 y1 y2 : Value) => (q y0 y1 y2).2.1
            have q2 := fun (y0 y1 y2 : Value) => (q y0 y1 y2).2.2
            clear q
            (try clear hb hc1 hf1)
            go_light
            simp [results, Tryz.results30, go_sem, wrap_u64, q0, q1, q2]
            (try clear q0 q1 q2)
            all_goals grind [])
         | (go_light
            simp [results, Tryz.results30, go_sem, wrap_u64]
            all_goals grind []))
  · have hpn : ∀ u, Lib.parseUintB 64 D ≠ .ok u := fun u h => hp ⟨u, h⟩
    have E := Lib.hid (show txtV k s = (0, 0, ⟨#[]⟩, 7) from txt_bad (by
      rw [hD, hV]
      rcases h : Lib.parseUintB 64 D with u | _ | _
      · exact absurd h (hpn u)
      · rfl
      · rfl))
    have N1 := fun W (hb : Below w.heap.size w W) => parse_badC ⟨D.toArray⟩ hDs hpn (hL.go hb)
    clear hV hp hpn hL hk hD hDl hDs
    go_enter Tryz.func30, Tryz.ntmps30
    go_wp2_with (first | (go_at_call 56; refine (NT _).mono ?_; rintro e w' ⟨rfl, rfl⟩) | (go_at_call 57; refine (N1 _ ?hx).mono ?_; (case hx => (repeat (first | exact Below.refl _ _ | apply b_al | (refine b_st ?_ ?hg _; case hg => omega) | (refine b_go ?_ (by assumption))))); rintro e w1 ⟨x, N, rfl, hb⟩; obtain ⟨hc1, hf1⟩ := bcell hb))
    clear N1 NT
    have E0 := E.out
    clear E
    (refine bodyPost_ret (v := .tuple #[.agg #[.int .u8 (txtV k s).1, .int .u64 (txtV k s).2.1, .string (txtV k s).2.2.1], .int .i64 (txtV k s).2.2.2]) ?hr rfl ⟨rfl, ?hB⟩
     case hB => repeat (first | exact Below.refl _ _ | apply b_al | (refine b_st ?_ ?hg _; case hg => omega) | (refine b_go ?_ (by assumption)))
     case hr =>
      first
       | (have q := fun (y0 y1 y2 : Value) => set3 (w1 := w1) (g := w.heap.size) (by repeat (first | (refine k_new ?_; simp; done) | apply k_al | (refine k_go ?_ (by assumption)))) y0 y1 y2
          have q0 := fun (y0 y1 y2 : Value) => (q y0 y1 y2).1
          have q1 := fun (y0 y1 y2 : Value) => (q y0 y1 y2).2.1
          have q2 := fun (y0 y1 y2 : Value) => (q y0 y1 y2).2.2
          clear q
          (try clear hb hc1 hf1)
          go_light
          simp [results, Tryz.results30, go_sem, wrap_u64, q0, q1, q2]
          (try clear q0 q1 q2)
          all_goals grind [])
       | (go_light
          simp [results, Tryz.results30, go_sem, wrap_u64]
          all_goals grind []))
end Go.Proofs.YtlmmkaddlflepaaGreatDoor.H
