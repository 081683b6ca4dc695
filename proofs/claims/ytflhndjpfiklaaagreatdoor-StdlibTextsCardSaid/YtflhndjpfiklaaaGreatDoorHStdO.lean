/- Contracts of the closures of the functions over texts. Conditions: the values lie in memory; the places lie in the texts. -/
import Derived.Test.YtflhndjpfiklaaaGreatDoorHStdN
import Derived.Deep.RegionWith
namespace Go.Proofs.YtflhndjpfiklaaaGreatDoor.H
set_option linter.unusedVariables false
set_option linter.unusedSimpArgs false
open Go.RowKit Go.Proofs.YtflhndjpfiklaaaGreatDoor.Plain
set_option maxHeartbeats 6400000
set_option maxRecDepth 100000
attribute [local go_sem] ext_from ext_bits cell_isSome un_neg_float
theorem c_kindsTW (o i r c cl l : Nat) (w : World) (ho : w.heap[o]? = some (.cells #[.int .u8 19] 22 (0, 0))) (hi : w.heap[i]? = some (.cells #[.slice (some ⟨r, 0, none⟩) 2 c] 91 (0, 0)))
    (hr : w.heap[r]? = some (.cells #[.func (.func 103) #[] #[], .func (.func 52) #[] #[]] 34 (0, 0))) (p0 : w.cell? ⟨l, 0, none⟩ = some (.int .u8 19)) (p1 : w.cell? ⟨l, 1, none⟩ = some (.int .u8 3)) :
    Calls Tryz.prog 91 #[.slice (some ⟨l, 0, none⟩) 2 cl, .pointer (some ⟨i, 0, none⟩), .pointer (some ⟨o, 0, none⟩)] w fun e w' => e = .returned (.tuple #[.int .u8 19, .bool true]) ∧ w' = w := by
  have q0 := k_cv ho 0 rfl
  have q1 := k_cv hi 0 rfl
  have r0 := k_cv hr 0 rfl
  have r1 := k_cv hr 1 rfl
  simp only [List.getElem_toArray, List.getElem_cons_succ, List.getElem_cons_zero] at q0 q1 r0 r1
  clear ho hi hr
  go_enter Tryz.func91, Tryz.ntmps91
  go_wp2
  refine wp_loop_rounds 3 ?_
  repeat any_goals (rw [rounds_succ]; go_wp2_with (first | (go_at_call 103; with_reducible refine (c_text _ _).mono ?_; rintro e w' ⟨rfl, rfl⟩) | (go_at_call 52; with_reducible refine (c_whole _ _).mono ?_; rintro e w' ⟨rfl, rfl⟩)))
  all_goals (go_returns; simp_all [isWhole])
theorem c_kindsTTW (o i r c cl l : Nat) (w : World) (ho : w.heap[o]? = some (.cells #[.int .u8 19] 22 (0, 0))) (hi : w.heap[i]? = some (.cells #[.slice (some ⟨r, 0, none⟩) 3 c] 91 (0, 0)))
    (hr : w.heap[r]? = some (.cells #[.func (.func 103) #[] #[], .func (.func 103) #[] #[], .func (.func 52) #[] #[]] 34 (0, 0))) (p0 : w.cell? ⟨l, 0, none⟩ = some (.int .u8 19)) (p1 : w.cell? ⟨l, 1, none⟩ = some (.int .u8 19)) (p2 : w.cell? ⟨l, 2, none⟩ = some (.int .u8 3)) :
    Calls Tryz.prog 91 #[.slice (some ⟨l, 0, none⟩) 3 cl, .pointer (some ⟨i, 0, none⟩), .pointer (some ⟨o, 0, none⟩)] w fun e w' => e = .returned (.tuple #[.int .u8 19, .bool true]) ∧ w' = w := by
  have q0 := k_cv ho 0 rfl
  have q1 := k_cv hi 0 rfl
  have r0 := k_cv hr 0 rfl
  have r1 := k_cv hr 1 rfl
  have r2 := k_cv hr 2 rfl
  simp only [List.getElem_toArray, List.getElem_cons_succ, List.getElem_cons_zero] at q0 q1 r0 r1 r2
  clear ho hi hr
  go_enter Tryz.func91, Tryz.ntmps91
  go_wp2
  refine wp_loop_rounds 4 ?_
  repeat any_goals (rw [rounds_succ]; go_wp2_with (first | (go_at_call 103; with_reducible refine (c_text _ _).mono ?_; rintro e w' ⟨rfl, rfl⟩) | (go_at_call 52; with_reducible refine (c_whole _ _).mono ?_; rintro e w' ⟨rfl, rfl⟩)))
  all_goals (go_returns; simp_all [isWhole])
theorem c_kindsTWW (o i r c cl l : Nat) (w : World) (ho : w.heap[o]? = some (.cells #[.int .u8 19] 22 (0, 0))) (hi : w.heap[i]? = some (.cells #[.slice (some ⟨r, 0, none⟩) 3 c] 91 (0, 0)))
    (hr : w.heap[r]? = some (.cells #[.func (.func 103) #[] #[], .func (.func 52) #[] #[], .func (.func 52) #[] #[]] 34 (0, 0))) (p0 : w.cell? ⟨l, 0, none⟩ = some (.int .u8 19)) (p1 : w.cell? ⟨l, 1, none⟩ = some (.int .u8 3)) (p2 : w.cell? ⟨l, 2, none⟩ = some (.int .u8 3)) :
    Calls Tryz.prog 91 #[.slice (some ⟨l, 0, none⟩) 3 cl, .pointer (some ⟨i, 0, none⟩), .pointer (some ⟨o, 0, none⟩)] w fun e w' => e = .returned (.tuple #[.int .u8 19, .bool true]) ∧ w' = w := by
  have q0 := k_cv ho 0 rfl
  have q1 := k_cv hi 0 rfl
  have r0 := k_cv hr 0 rfl
  have r1 := k_cv hr 1 rfl
  have r2 := k_cv hr 2 rfl
  simp only [List.getElem_toArray, List.getElem_cons_succ, List.getElem_cons_zero] at q0 q1 r0 r1 r2
  clear ho hi hr
  go_enter Tryz.func91, Tryz.ntmps91
  go_wp2
  refine wp_loop_rounds 4 ?_
  repeat any_goals (rw [rounds_succ]; go_wp2_with (first | (go_at_call 103; with_reducible refine (c_text _ _).mono ?_; rintro e w' ⟨rfl, rfl⟩) | (go_at_call 52; with_reducible refine (c_whole _ _).mono ?_; rintro e w' ⟨rfl, rfl⟩)))
  all_goals (go_returns; simp_all [isWhole])
theorem c_refused (w : World) : Calls Tryz.prog 108 #[] w fun e w' => e = .returned (.tuple #[.agg #[.int .u8 0, .int .u64 0, .string ⟨#[]⟩], .int .i64 3]) ∧ Below w.heap.size w w' := by
  go_enter Tryz.func108, Tryz.ntmps108
  go_wp2
  all_goals (refine bodyPost_ret (v := .tuple #[.agg #[.int .u8 0, .int .u64 0, .string ⟨#[]⟩], .int .i64 3]) (by simp [results, Tryz.results108, go_sem]) rfl ⟨rfl, b_al (Below.refl _ _) _⟩)
theorem cat_one (x : ByteArray) : cat [x] = x := by simp [cat]
theorem cat_two (x y : ByteArray) : cat [x, y] = x ++ y := by
  apply ByteArray.ext
  simp [cat]
theorem cat_three (x y z : ByteArray) : cat [x, y, z] = x ++ y ++ z := by
  apply ByteArray.ext
  simp [cat]
theorem c_join1 (x : ByteArray) (hs : (x).size ≤ 100000) (W : World) (g : Nat) (hg : W.heap[g]? = some (.cells #[.string x] 9 (0, 0))) : Calls Tryz.prog 109 #[.slice (some ⟨g, 0, none⟩) 1 1] W fun e w' => e = .returned (.tuple #[.agg #[.int .u8 (textV (x)).1, .int .u64 (textV (x)).2.1, .string (textV (x)).2.2.1], .int .i64 (textV (x)).2.2.2]) ∧ Below W.heap.size W w' := by
  have h := c_joined g 1 [x] W (fun j u hu => (k_cell hg j).trans (by
    match j with
    | 0 => simpa using hu
    | k + 1 => simp at hu)) (k_lt hg) (show 1 ≤ 1000 by decide) (Nat.le_refl _) (by rw [cat_one]; exact hs)
  rw [cat_one] at h
  exact h
theorem c_join2 (x y : ByteArray) (hs : (x ++ y).size ≤ 100000) (W : World) (g : Nat) (hg : W.heap[g]? = some (.cells #[.string x, .string y] 9 (0, 0))) : Calls Tryz.prog 109 #[.slice (some ⟨g, 0, none⟩) 2 2] W fun e w' => e = .returned (.tuple #[.agg #[.int .u8 (textV (x ++ y)).1, .int .u64 (textV (x ++ y)).2.1, .string (textV (x ++ y)).2.2.1], .int .i64 (textV (x ++ y)).2.2.2]) ∧ Below W.heap.size W w' := by
  have h := c_joined g 2 [x, y] W (fun j u hu => (k_cell hg j).trans (by
    match j with
    | 0 => simpa using hu
    | 1 => simpa using hu
    | k + 2 => simp at hu)) (k_lt hg) (show 2 ≤ 1000 by decide) (Nat.le_refl _) (by rw [cat_two]; exact hs)
  rw [cat_two] at h
  exact h
theorem c_join3 (x y z : ByteArray) (hs : (x ++ y ++ z).size ≤ 100000) (W : World) (g : Nat) (hg : W.heap[g]? = some (.cells #[.string x, .string y, .string z] 9 (0, 0))) : Calls Tryz.prog 109 #[.slice (some ⟨g, 0, none⟩) 3 3] W fun e w' => e = .returned (.tuple #[.agg #[.int .u8 (textV (x ++ y ++ z)).1, .int .u64 (textV (x ++ y ++ z)).2.1, .string (textV (x ++ y ++ z)).2.2.1], .int .i64 (textV (x ++ y ++ z)).2.2.2]) ∧ Below W.heap.size W w' := by
  have h := c_joined g 3 [x, y, z] W (fun j u hu => (k_cell hg j).trans (by
    match j with
    | 0 => simpa using hu
    | 1 => simpa using hu
    | 2 => simpa using hu
    | k + 3 => simp at hu)) (k_lt hg) (show 3 ≤ 1000 by decide) (Nat.le_refl _) (by rw [cat_three]; exact hs)
  rw [cat_three] at h
  exact h
theorem c_left (l cl : Nat) (s : ByteArray) (b : Int) (w : World) (hA : Args w l [(19, 0, s), (3, b, ⟨#[]⟩)]) (h0 : 0 ≤ b) (h1 : b ≤ s.size) (hs : s.size ≤ 254) :
    Calls Tryz.prog 106 #[.slice (some ⟨l, 0, none⟩) 2 cl] w fun e w' => e = .returned (.tuple #[.agg #[.int .u8 (textV (s.extract 0 b.toNat)).1, .int .u64 (textV (s.extract 0 b.toNat)).2.1, .string (textV (s.extract 0 b.toNat)).2.2.1], .int .i64 (textV (s.extract 0 b.toNat)).2.2.2]) ∧ Below w.heap.size w w' := by
  obtain ⟨hl, hc⟩ := hA
  obtain ⟨p0, p1, p2⟩ := hc 0 _ rfl
  obtain ⟨p3, p4, p5⟩ := hc 1 _ rfl
  simp only [Nat.zero_mul, Nat.zero_add, Nat.one_mul, Nat.reduceMul, Nat.reduceAdd] at p0 p1 p2 p3 p4 p5
  clear hc
  have hJ := fun W g hg => c_join1 (s.extract 0 b.toNat) (by simp [ByteArray.size_extract, ByteArray.size_append]; omega) W g hg
  obtain ⟨r, hr⟩ : ∃ r, textV (s.extract 0 b.toNat) = r := ⟨_, rfl⟩
  rw [hr] at hJ ⊢
  have N1 := fun W => c_cutTo b s h0 (by omega) h1 W
  go_enter Tryz.func106, Tryz.ntmps106
  go_wp2
  go_region_with (go_at_call 107; with_reducible refine (N1 _).mono ?_; rintro e w1 ⟨rfl, hb1⟩; obtain ⟨hc1, hf1⟩ := bcell hb1; have l1 : l < w1.heap.size := Nat.lt_of_lt_of_le hl (by have hx := hb1.size; simp at hx; omega))
  all_goals go_wp2_with (go_at_call 109; go_loud (with_reducible refine (hJ _ _ (by first | exact k_new (by simp) | exact k_dr (k_new (by simp)))).mono ?_); rintro e w2 ⟨rfl, hb2⟩; have K2 : w2.heap[w.heap.size]? = some R0 := (by repeat (first | exact k_new rfl | with_reducible apply k_al | with_reducible apply k_dr | (refine k_go ?_ (by assumption)))); have y0 := k_cv K2 0 rfl; have y1 := k_cv K2 1 rfl; have y2 := k_cv K2 2 rfl; have g0 := k_fr K2 0; have g1 := k_fr K2 1; have g2 := k_fr K2 2; have l2 := k_lt K2; simp only [List.getElem_toArray, List.getElem_cons_succ, List.getElem_cons_zero] at y0 y1 y2)
  all_goals
    refine bodyPost_ret (v := .tuple #[.agg #[.int .u8 (r).1, .int .u64 (r).2.1, .string (r).2.2.1], .int .i64 (r).2.2.2]) ?hr rfl ⟨rfl, ?hB⟩
    case hB => repeat (first | exact Below.refl _ _ | apply b_al | apply b_dr | (refine b_st ?_ ?hg _; case hg => exact Nat.le_refl _) | (refine b_go ?_ (by assumption)))
    case hr =>
      have q := fun (y0 y1 y2 : Value) => set3 (w1 := w2) (g := w.heap.size) K2 y0 y1 y2
      have q0 := fun (y0 y1 y2 : Value) => (q y0 y1 y2).1
      have q1 := fun (y0 y1 y2 : Value) => (q y0 y1 y2).2.1
      have q2 := fun (y0 y1 y2 : Value) => (q y0 y1 y2).2.2
      clear q
      simp [results, Tryz.results106, go_sem, l2, q0, q1, q2]
theorem c_right (l cl : Nat) (s : ByteArray) (b : Int) (w : World) (hA : Args w l [(19, 0, s), (3, b, ⟨#[]⟩)]) (h0 : 0 ≤ b) (h1 : b ≤ s.size) (hs : s.size ≤ 254) :
    Calls Tryz.prog 110 #[.slice (some ⟨l, 0, none⟩) 2 cl] w fun e w' => e = .returned (.tuple #[.agg #[.int .u8 (textV (s.extract ((s.size : Int) - b).toNat s.size)).1, .int .u64 (textV (s.extract ((s.size : Int) - b).toNat s.size)).2.1, .string (textV (s.extract ((s.size : Int) - b).toNat s.size)).2.2.1], .int .i64 (textV (s.extract ((s.size : Int) - b).toNat s.size)).2.2.2]) ∧ Below w.heap.size w w' := by
  obtain ⟨hl, hc⟩ := hA
  obtain ⟨p0, p1, p2⟩ := hc 0 _ rfl
  obtain ⟨p3, p4, p5⟩ := hc 1 _ rfl
  simp only [Nat.zero_mul, Nat.zero_add, Nat.one_mul, Nat.reduceMul, Nat.reduceAdd] at p0 p1 p2 p3 p4 p5
  clear hc
  have hJ := fun W g hg => c_join1 (s.extract ((s.size : Int) - b).toNat s.size) (by simp [ByteArray.size_extract, ByteArray.size_append]; omega) W g hg
  obtain ⟨r, hr⟩ : ∃ r, textV (s.extract ((s.size : Int) - b).toNat s.size) = r := ⟨_, rfl⟩
  rw [hr] at hJ ⊢
  have N1 := fun W => c_cutTo b s h0 (by omega) h1 W
  have hw : wrap64 ((s.size : Int) - b) = s.size - b := by unfold wrap64; omega
  go_enter Tryz.func110, Tryz.ntmps110
  go_wp2_with (first | (go_at_call 107; with_reducible refine (N1 _).mono ?_; rintro e w1 ⟨rfl, hb1⟩; obtain ⟨hc1, hf1⟩ := bcell hb1; have l1 : l < w1.heap.size := Nat.lt_of_lt_of_le hl (by have hx := hb1.size; simp at hx; omega)) | (go_at_call 109; go_loud (with_reducible refine (hJ _ _ (by first | exact k_new (by simp) | exact k_dr (k_new (by simp)))).mono ?_); rintro e w2 ⟨rfl, hb2⟩; have K2 : w2.heap[w.heap.size]? = some R0 := (by repeat (first | exact k_new rfl | with_reducible apply k_al | with_reducible apply k_dr | (refine k_go ?_ (by assumption)))); have y0 := k_cv K2 0 rfl; have y1 := k_cv K2 1 rfl; have y2 := k_cv K2 2 rfl; have g0 := k_fr K2 0; have g1 := k_fr K2 1; have g2 := k_fr K2 2; have l2 := k_lt K2; simp only [List.getElem_toArray, List.getElem_cons_succ, List.getElem_cons_zero] at y0 y1 y2))
  all_goals
    refine bodyPost_ret (v := .tuple #[.agg #[.int .u8 (r).1, .int .u64 (r).2.1, .string (r).2.2.1], .int .i64 (r).2.2.2]) ?hr rfl ⟨rfl, ?hB⟩
    case hB => repeat (first | exact Below.refl _ _ | apply b_al | apply b_dr | (refine b_st ?_ ?hg _; case hg => exact Nat.le_refl _) | (refine b_go ?_ (by assumption)))
    case hr =>
      have q := fun (y0 y1 y2 : Value) => set3 (w1 := w2) (g := w.heap.size) K2 y0 y1 y2
      have q0 := fun (y0 y1 y2 : Value) => (q y0 y1 y2).1
      have q1 := fun (y0 y1 y2 : Value) => (q y0 y1 y2).2.1
      have q2 := fun (y0 y1 y2 : Value) => (q y0 y1 y2).2.2
      clear q
      simp [results, Tryz.results110, go_sem, l2, q0, q1, q2]
theorem c_concat (l cl : Nat) (x y : ByteArray) (w : World) (hA : Args w l [(19, 0, x), (19, 0, y)]) (hx : x.size ≤ 254) (hy : y.size ≤ 254) :
    Calls Tryz.prog 114 #[.slice (some ⟨l, 0, none⟩) 2 cl] w fun e w' => e = .returned (.tuple #[.agg #[.int .u8 (textV ((⟨#[]⟩ : ByteArray) ++ x ++ y)).1, .int .u64 (textV ((⟨#[]⟩ : ByteArray) ++ x ++ y)).2.1, .string (textV ((⟨#[]⟩ : ByteArray) ++ x ++ y)).2.2.1], .int .i64 (textV ((⟨#[]⟩ : ByteArray) ++ x ++ y)).2.2.2]) ∧ Below w.heap.size w w' := by
  obtain ⟨hl, hc⟩ := hA
  obtain ⟨p0, p1, p2⟩ := hc 0 _ rfl
  obtain ⟨p3, p4, p5⟩ := hc 1 _ rfl
  simp only [Nat.zero_mul, Nat.zero_add, Nat.one_mul, Nat.reduceMul, Nat.reduceAdd] at p0 p1 p2 p3 p4 p5
  clear hc
  have hJ := fun W g hg => c_join1 ((⟨#[]⟩ : ByteArray) ++ x ++ y) (by have hz : (⟨#[]⟩ : ByteArray).size = 0 := rfl; simp [ByteArray.size_append, hz]; omega) W g hg
  obtain ⟨r, hr⟩ : ∃ r, textV ((⟨#[]⟩ : ByteArray) ++ x ++ y) = r := ⟨_, rfl⟩
  rw [hr] at hJ ⊢
  have s0 : ¬ 9223372036854775807 < x.size := by omega
  have s1 : ¬ 9223372036854775807 < x.size + y.size := by omega
  go_enter Tryz.func114, Tryz.ntmps114
  go_wp2
  refine wp_loop_rounds 3 ?_
  repeat any_goals (rw [rounds_succ]; go_wp2_with ((go_at_call 109; go_loud (with_reducible refine (hJ _ _ (by first | exact k_new (by simp) | exact k_dr (k_new (by simp)))).mono ?_); rintro e w2 ⟨rfl, hb2⟩; have K2 : w2.heap[w.heap.size]? = some R0 := (by repeat (first | exact k_new rfl | with_reducible apply k_al | with_reducible apply k_dr | (refine k_go ?_ (by assumption)))); have y0 := k_cv K2 0 rfl; have y1 := k_cv K2 1 rfl; have y2 := k_cv K2 2 rfl; have g0 := k_fr K2 0; have g1 := k_fr K2 1; have g2 := k_fr K2 2; have l2 := k_lt K2; simp only [List.getElem_toArray, List.getElem_cons_succ, List.getElem_cons_zero] at y0 y1 y2)))
  all_goals
    refine bodyPost_ret (v := .tuple #[.agg #[.int .u8 (r).1, .int .u64 (r).2.1, .string (r).2.2.1], .int .i64 (r).2.2.2]) ?hr rfl ⟨rfl, ?hB⟩
    case hB => repeat (first | exact Below.refl _ _ | apply b_al | apply b_dr | (refine b_st ?_ ?hg _; case hg => exact Nat.le_refl _) | (refine b_go ?_ (by assumption)))
    case hr =>
      have q := fun (y0 y1 y2 : Value) => set3 (w1 := w2) (g := w.heap.size) K2 y0 y1 y2
      have q0 := fun (y0 y1 y2 : Value) => (q y0 y1 y2).1
      have q1 := fun (y0 y1 y2 : Value) => (q y0 y1 y2).2.1
      have q2 := fun (y0 y1 y2 : Value) => (q y0 y1 y2).2.2
      clear q
      simp [results, Tryz.results114, go_sem, l2, q0, q1, q2]
theorem c_insert (l cl : Nat) (s t : ByteArray) (b : Int) (w : World) (hA : Args w l [(19, 0, s), (19, 0, t), (3, b, ⟨#[]⟩)]) (h0 : 0 ≤ b) (h1 : b ≤ s.size) (hs : s.size ≤ 254) (ht : t.size ≤ 254) :
    Calls Tryz.prog 115 #[.slice (some ⟨l, 0, none⟩) 3 cl] w fun e w' => e = .returned (.tuple #[.agg #[.int .u8 (textV (s.extract 0 b.toNat ++ t ++ s.extract b.toNat s.size)).1, .int .u64 (textV (s.extract 0 b.toNat ++ t ++ s.extract b.toNat s.size)).2.1, .string (textV (s.extract 0 b.toNat ++ t ++ s.extract b.toNat s.size)).2.2.1], .int .i64 (textV (s.extract 0 b.toNat ++ t ++ s.extract b.toNat s.size)).2.2.2]) ∧ Below w.heap.size w w' := by
  obtain ⟨hl, hc⟩ := hA
  obtain ⟨p0, p1, p2⟩ := hc 0 _ rfl
  obtain ⟨p3, p4, p5⟩ := hc 1 _ rfl
  obtain ⟨p6, p7, p8⟩ := hc 2 _ rfl
  simp only [Nat.zero_mul, Nat.zero_add, Nat.one_mul, Nat.reduceMul, Nat.reduceAdd] at p0 p1 p2 p3 p4 p5 p6 p7 p8
  clear hc
  have hJ := fun W g hg => c_join3 (s.extract 0 b.toNat) t (s.extract b.toNat s.size) (by simp [ByteArray.size_extract, ByteArray.size_append]; omega) W g hg
  obtain ⟨r, hr⟩ : ∃ r, textV (s.extract 0 b.toNat ++ t ++ s.extract b.toNat s.size) = r := ⟨_, rfl⟩
  rw [hr] at hJ ⊢
  have N1 := fun W => c_num b h0 (by omega) W
  go_enter Tryz.func115, Tryz.ntmps115
  go_wp2_with (first | (go_at_call 96; with_reducible refine (N1 _).mono ?_; rintro e w1 ⟨rfl, hb1⟩; obtain ⟨hc1, hf1⟩ := bcell hb1; have l1 : l < w1.heap.size := Nat.lt_of_lt_of_le hl (by have hx := hb1.size; simp at hx; omega)))
  go_region_with (go_at_call 109; go_loud (with_reducible refine (hJ _ _ (by first | exact k_new (by simp) | exact k_dr (k_new (by simp)))).mono ?_); rintro e w2 ⟨rfl, hb2⟩; have K2 : w2.heap[w.heap.size]? = some R0 := (by repeat (first | exact k_new rfl | with_reducible apply k_al | with_reducible apply k_dr | (refine k_go ?_ (by assumption)))); have y0 := k_cv K2 0 rfl; have y1 := k_cv K2 1 rfl; have y2 := k_cv K2 2 rfl; have g0 := k_fr K2 0; have g1 := k_fr K2 1; have g2 := k_fr K2 2; have l2 := k_lt K2; simp only [List.getElem_toArray, List.getElem_cons_succ, List.getElem_cons_zero] at y0 y1 y2)
  all_goals go_wp2
  all_goals
    refine bodyPost_ret (v := .tuple #[.agg #[.int .u8 (r).1, .int .u64 (r).2.1, .string (r).2.2.1], .int .i64 (r).2.2.2]) ?hr rfl ⟨rfl, ?hB⟩
    case hB => repeat (first | exact Below.refl _ _ | apply b_al | apply b_dr | (refine b_st ?_ ?hg _; case hg => exact Nat.le_refl _) | (refine b_go ?_ (by assumption)))
    case hr =>
      have q := fun (y0 y1 y2 : Value) => set3 (w1 := w2) (g := w.heap.size) K2 y0 y1 y2
      have q0 := fun (y0 y1 y2 : Value) => (q y0 y1 y2).1
      have q1 := fun (y0 y1 y2 : Value) => (q y0 y1 y2).2.1
      have q2 := fun (y0 y1 y2 : Value) => (q y0 y1 y2).2.2
      clear q
      simp [results, Tryz.results115, go_sem, l2, q0, q1, q2]
theorem c_delete (l cl : Nat) (s : ByteArray) (p n : Int) (w : World) (hA : Args w l [(19, 0, s), (3, n, ⟨#[]⟩), (3, p + 1, ⟨#[]⟩)]) (h0 : 0 ≤ p) (h1 : 0 ≤ n) (h2 : p + n ≤ s.size) (hs : s.size ≤ 254) :
    Calls Tryz.prog 116 #[.slice (some ⟨l, 0, none⟩) 3 cl] w fun e w' => e = .returned (.tuple #[.agg #[.int .u8 (textV (s.extract 0 p.toNat ++ s.extract (p + n).toNat s.size)).1, .int .u64 (textV (s.extract 0 p.toNat ++ s.extract (p + n).toNat s.size)).2.1, .string (textV (s.extract 0 p.toNat ++ s.extract (p + n).toNat s.size)).2.2.1], .int .i64 (textV (s.extract 0 p.toNat ++ s.extract (p + n).toNat s.size)).2.2.2]) ∧ Below w.heap.size w w' := by
  obtain ⟨hl, hc⟩ := hA
  obtain ⟨p0, p1, p2⟩ := hc 0 _ rfl
  obtain ⟨p3, p4, p5⟩ := hc 1 _ rfl
  obtain ⟨p6, p7, p8⟩ := hc 2 _ rfl
  simp only [Nat.zero_mul, Nat.zero_add, Nat.one_mul, Nat.reduceMul, Nat.reduceAdd] at p0 p1 p2 p3 p4 p5 p6 p7 p8
  clear hc
  have hJ := fun W g hg => c_join2 (s.extract 0 p.toNat) (s.extract (p + n).toNat s.size) (by simp [ByteArray.size_extract, ByteArray.size_append]; omega) W g hg
  obtain ⟨r, hr⟩ : ∃ r, textV (s.extract 0 p.toNat ++ s.extract (p + n).toNat s.size) = r := ⟨_, rfl⟩
  rw [hr] at hJ ⊢
  have N1 : ∀ W, Calls Tryz.prog 112 #[.string s, .agg #[.int .u8 3, .int .u64 n, .string ⟨#[]⟩], .agg #[.int .u8 3, .int .u64 (p + 1), .string ⟨#[]⟩]] W fun e w' => e = .returned (.tuple #[.int .i64 p, .int .i64 n, .bool true]) ∧ Below W.heap.size W w' := by
    intro W
    have h := c_stretch s n (p + 1) h1 (by omega) (by omega) (by omega) (by omega) hs W
    rwa [show p + 1 - 1 = p by omega] at h
  have h3 : 0 ≤ p + n := by omega
  have hw : wrap64 (p + n) = p + n := by unfold wrap64; omega
  have hw2 : IntKind.i64.wrap (p + n) = p + n := (wrap_i64 _).trans hw
  have h4 : p ≤ s.size := by omega
  have h5 : 0 ≤ p ∧ p ≤ s.size := ⟨h0, h4⟩
  have h6 : 0 ≤ p + n ∧ p + n ≤ s.size := ⟨h3, h2⟩
  go_enter Tryz.func116, Tryz.ntmps116
  go_wp2
  go_region_with (go_at_call 112; with_reducible refine (N1 _).mono ?_; rintro e w1 ⟨rfl, hb1⟩; obtain ⟨hc1, hf1⟩ := bcell hb1; have l1 : l < w1.heap.size := Nat.lt_of_lt_of_le hl (by have hx := hb1.size; simp at hx; omega))
  all_goals go_wp2
  all_goals go_region_with (go_at_call 109; go_loud (with_reducible refine (hJ _ _ (by first | exact k_new (by simp) | exact k_dr (k_new (by simp)))).mono ?_); rintro e w2 ⟨rfl, hb2⟩; have K2 : w2.heap[w.heap.size]? = some R0 := (by repeat (first | exact k_new rfl | with_reducible apply k_al | with_reducible apply k_dr | (refine k_go ?_ (by assumption)))); have y0 := k_cv K2 0 rfl; have y1 := k_cv K2 1 rfl; have y2 := k_cv K2 2 rfl; have g0 := k_fr K2 0; have g1 := k_fr K2 1; have g2 := k_fr K2 2; have l2 := k_lt K2; simp only [List.getElem_toArray, List.getElem_cons_succ, List.getElem_cons_zero] at y0 y1 y2)
  all_goals go_wp2
  all_goals
    refine bodyPost_ret (v := .tuple #[.agg #[.int .u8 (r).1, .int .u64 (r).2.1, .string (r).2.2.1], .int .i64 (r).2.2.2]) ?hr rfl ⟨rfl, ?hB⟩
    case hB => repeat (first | exact Below.refl _ _ | apply b_al | apply b_dr | (refine b_st ?_ ?hg _; case hg => exact Nat.le_refl _) | (refine b_go ?_ (by assumption)))
    case hr =>
      have q := fun (y0 y1 y2 : Value) => set3 (w1 := w2) (g := w.heap.size) K2 y0 y1 y2
      have q0 := fun (y0 y1 y2 : Value) => (q y0 y1 y2).1
      have q1 := fun (y0 y1 y2 : Value) => (q y0 y1 y2).2.1
      have q2 := fun (y0 y1 y2 : Value) => (q y0 y1 y2).2.2
      clear q
      simp [results, Tryz.results116, go_sem, l2, q0, q1, q2]
end Go.Proofs.YtflhndjpfiklaaaGreatDoor.H
