/- Contract of awake: a program that tells no bound is told; here: true. No condition. -/
import Derived.Test.YtmnaeoljpajomaaHBeQ
namespace Go.Proofs.Ytmnaeoljpajomaa.H
set_option linter.unusedVariables false
set_option linter.unusedSimpArgs false
open Go.RowKit Go.Proofs.Ytmnaeoljpajomaa.Plain Go.Sort Go.Maps
set_option maxHeartbeats 3200000
set_option maxRecDepth 100000
attribute [local go_sem] ext_from ext_bits cell_isSome un_neg_float
abbrev op1 : OpD := ⟨1, 0, 0, 0, 0, 0, 0, 0, 0, ⟨#[]⟩⟩
abbrev op21 : OpD := ⟨21, 0, 0, 0, 0, 0, 0, 0, 0, ⟨#[]⟩⟩
/-- The code that awake asks about. -/
abbrev flatA (g : Nat) : FlatD := { name := ⟨#[]⟩, what := 0, cells := 0, base := 0, regs := 1, slots := 0, ao := some ⟨g, 0, none⟩, on := 2, oc := 2, lo := none, ln := 0, lc := 0, ops := [op1, op21], loops := [] }
theorem one_sound {fs : List FlatD} {f : FlatD} (hf : fs = [f]) (hno : ∀ o ∈ f.ops, ¬ o.code = 18) : allV fs = [[]] ∧ soundV [[]] 0 = (0, 0) ∧ belongV [[]] [(0 : Int)] = [0] := by
  subst hf
  have hc : callsV f.ops = [] := by
    rw [List.eq_nil_iff_forall_not_mem]
    intro x hx
    obtain ⟨o, ho, h18, _⟩ := mem_callsV.1 hx
    exact hno o ho h18
  have hb : belongV [[]] [(0 : Int)] = [0] := by
    have h0 : Reach [[]] [(0 : Int)] 0 := .base (by simp) (by simp)
    unfold belongV
    simp [h0]
  have hb2 : belongV [[]] ([] : List Int) = [] := by
    rw [List.eq_nil_iff_forall_not_mem]
    intro x hx
    obtain ⟨k, rfl, hk, hr⟩ := belongV_mem.1 hx
    have : ∀ j, ¬ Reach [[]] ([] : List Int) j := by
      intro j h
      induction h with
      | base h _ => cases h
      | step h hl hm hk ih => exact ih
    exact this k hr
  refine ⟨by simp [allV, hc], ?_, hb⟩
  unfold soundV
  rw [if_neg (by simp), hb]
  have l0 : lostB [[]] 0 = false := by simp [lostB, listAt]
  have r0 : ringB [[]] 0 = false := by
    unfold ringB
    have : listAt [[]] 0 = [] := by simp [listAt]
    rw [this, hb2]
    rfl
  simp [l0, r0]
theorem canA (g : Nat) : CanF (flatA g) := by
  refine ⟨by show 0 < 2; omega, fun m h => by simp at h, fun i j _ h => by simp at h, fun p hp q hq => ?_⟩
  have hp2 : p < 2 := hp
  rcases (show p = 0 ∨ p = 1 by omega) with rfl | rfl
  · have : nextsV (flatA g) 0 = [1] := rfl
    rw [this] at hq
    obtain rfl := List.mem_singleton.1 hq
    exact ⟨by decide, by show (1 : Int) < 2; omega, fun h => absurd h (by decide)⟩
  · have : nextsV (flatA g) 1 = [] := rfl
    rw [this] at hq
    cases hq
theorem reckA (g : Nat) : ofV [flatA g] 3 0 = some 2 := rfl
theorem ofA (g : Nat) : ofR [flatA g] 0 2 = (2, 0, 0) ∧ Reckons [flatA g] 0 2 ∧ soundV (allV [flatA g]) 0 = (0, 0) := by
  obtain ⟨h1, h2, h3⟩ := one_sound (fs := [flatA g]) rfl (by intro o ho; simp at ho; rcases ho with rfl | rfl <;> decide)
  refine ⟨?_, fun _ _ => ⟨3, reckA g⟩, by rw [h1, h2]⟩
  unfold ofR
  rw [h1, h2, h3, if_neg (by simp)]
  have hc : canB [flatA g] 0 = true := (canB_at (fs := [flatA g]) (j := 0) rfl).2 (canA g)
  simp [hc]
theorem depthA (g : Nat) : depthV (allV [flatA g]) 1 0 = some 1 := by
  obtain ⟨h1, _, _⟩ := one_sound (fs := [flatA g]) rfl (by intro o ho; simp at ho; rcases ho with rfl | rfl <;> decide)
  rw [h1]
  rfl
theorem sl_block {W : World} {g n k : Nat} {us : List Value} {T : TypeId} (h : W.heap[g]? = some (.cells us.toArray T (0, 0))) (hl : us.length = n * k) : Sl W (some ⟨g, 0, none⟩) n k us :=
  ⟨hl, (fun h => by cases h), fun a ha => by
    obtain rfl : (⟨g, 0, none⟩ : Addr) = a := Option.some.inj ha
    refine ⟨fun m u hu => ?_, fun _ => k_lt h⟩
    rw [add_pl, k_cell h m]
    simpa using hu⟩
theorem codes_one {W : World} {b : Nat} {f : FlatD} (h : W.heap[b]? = some (.cells f.row.toArray 32 (0, 0))) (hf : FlatOk W f) : Codes W (some ⟨b, 0, none⟩) 1 [f] :=
  ⟨rfl, sl_block (us := [f].flatMap FlatD.row) (by simpa using h) (by simp [FlatD.row]), fun g hg => by obtain rfl := List.mem_singleton.1 hg; exact hf⟩
theorem box_cellsA {W : World} {b : Nat} {a0 a1 a2 a3 a4 a5 a6 a7 : Value} (h : W.heap[b]? = some (.cells #[a0, a1, a2, a3, a4, a5, a6, a7] 32 (0, 0))) : W.cell? ⟨b, 0, none⟩ = some a0 ∧ W.cell? ⟨b, 1, none⟩ = some a1 ∧ W.cell? ⟨b, 2, none⟩ = some a2 ∧ W.cell? ⟨b, 3, none⟩ = some a3 ∧ W.cell? ⟨b, 4, none⟩ = some a4 ∧ W.cell? ⟨b, 5, none⟩ = some a5 ∧ W.cell? ⟨b, 6, none⟩ = some a6 ∧ W.cell? ⟨b, 7, none⟩ = some a7 := ⟨k_cv h 0 rfl, k_cv h 1 rfl, k_cv h 2 rfl, k_cv h 3 rfl, k_cv h 4 rfl, k_cv h 5 rfl, k_cv h 6 rfl, k_cv h 7 rfl⟩
theorem c_awake (w : World) : Calls Try.prog 10 #[] w fun e w' => e = .returned (.bool true) ∧ Below w.heap.size w w' := by
  go_enter Try.func10, Try.ntmps10
  go_upto_region 2 with fail
  obtain ⟨g, hg⟩ : ∃ g, w.heap.size = g := ⟨_, rfl⟩
  obtain ⟨wB, hwB⟩ : ∃ W, W = (w.alloc (.cells ([op1, op21].flatMap OpD.row).toArray 47 (0, 0))).alloc (.cells (flatA g).row.toArray 32 (0, 0)) := ⟨_, rfl⟩
  have hbB : Below w.heap.size w wB := by rw [hwB]; exact b_al (b_al (Below.refl _ _) _) _
  have k0 : wB.heap[g]? = some (.cells ([op1, op21].flatMap OpD.row).toArray 47 (0, 0)) := by rw [hwB, ← hg]; exact k_al k_box _
  have k1 : wB.heap[g + 1]? = some (.cells (flatA g).row.toArray 32 (0, 0)) := by rw [hwB, ← hg]; exact k_n1 _ _ _ _
  have sB : wB.heap.size = g + 2 := by rw [hwB, alloc_sz, alloc_sz, hg]
  simp only [OpD.row, FlatD.row, List.flatMap_cons, List.flatMap_nil, List.append_nil, List.cons_append, List.nil_append] at hwB k0 k1
  rw [hg]
  rw [← hwB]
  have d0 := k_cv k1 0 rfl
  have d1 := k_cv k1 1 rfl
  have d2 := k_cv k1 2 rfl
  have d3 := k_cv k1 3 rfl
  have d4 := k_cv k1 4 rfl
  have d5 := k_cv k1 5 rfl
  have d6 := k_cv k1 6 rfl
  have d7 := k_cv k1 7 rfl
  simp only [List.getElem_toArray, List.getElem_cons_succ, List.getElem_cons_zero] at d0 d1 d2 d3 d4 d5 d6 d7
  have hOk : ∀ W, Below wB.heap.size wB W → FlatOk W (flatA g) := fun W hb => ⟨⟨rfl, sl_block (us := [op1, op21].flatMap OpD.row) (k_go k0 hb) rfl⟩, ⟨rfl, rfl, fun _ => rfl, fun a ha => by cases ha⟩⟩
  have hF1 : ∀ f ∈ [flatA g], FlatSz f := fun f hf => by obtain rfl := List.mem_singleton.1 hf; exact ⟨by show 2 * 88 ≤ 140737488355328; omega, by show 0 * 24 ≤ 140737488355328; omega⟩
  have hF2 : ∀ f ∈ [flatA g], Modest f := fun f hf => by obtain rfl := List.mem_singleton.1 hf; exact ⟨by show 2 ≤ 1048576; omega, by show 0 ≤ 1048576; omega⟩
  have hF3 : ∀ f ∈ [flatA g], f.ln ≤ f.lc := fun f hf => by obtain rfl := List.mem_singleton.1 hf; exact Nat.le_refl _
  obtain ⟨a1, a2, a3⟩ := ofA g
  have hall : allV [flatA g] = [[]] := (one_sound (fs := [flatA g]) rfl (by intro o ho; simp at ho; rcases ho with rfl | rfl <;> decide)).1
  have hsm : sumA (allV [flatA g]) ≤ 4194303 := by rw [hall]; decide
  have N1 := fun (b : Nat) W (h : W.heap[b]? = some (.cells #[.string ⟨#[]⟩, .int .i64 0, .int .i64 0, .int .i64 0, .int .i64 1, .int .i64 0, .slice (some ⟨g, 0, none⟩) 2 2, .slice none 0 0] 32 (0, 0))) (hb : Below wB.heap.size wB W) => c_Of (some ⟨b, 0, none⟩) 1 1 [flatA g] 0 2 W (codes_one h (hOk W hb)) hF1 hF2 hF3 (by decide) hsm a2
  have N2 := fun (b : Nat) W (h : W.heap[b]? = some (.cells #[.string ⟨#[]⟩, .int .i64 0, .int .i64 0, .int .i64 0, .int .i64 1, .int .i64 0, .slice (some ⟨g, 0, none⟩) 2 2, .slice none 0 0] 32 (0, 0))) (hb : Below wB.heap.size wB W) => c_Depth (some ⟨b, 0, none⟩) 1 1 [flatA g] 0 W (codes_one h (hOk W hb)) hF1 (by decide) (by omega) 1 (fun _ => ⟨1, by decide, depthA g⟩)
  rw [a1] at N1
  rw [a3] at N2
  simp only [if_true] at N2
  have HB := Lib.hid hbB
  clear hwB k0 hOk hF1 hF2 hF3 a1 a2 a3 hall hsm hbB
  go_wp2_with (first | (go_at_call 8; go_loud (with_reducible refine (N1 (g + 2) _ (k_new sB.symm) (b_al (Below.refl _ _) _)).mono ?_); rintro e w2 ⟨rfl, hb2⟩; have hB2 : Below wB.heap.size wB w2 := b_go (b_al (Below.refl _ _) _) hb2; obtain ⟨f0, f1, f2, f3, f4, f5, f6, f7⟩ := box_cellsA (k_go k1 hB2)) | (go_at_call 9; go_loud (with_reducible refine (N2 w2.heap.size _ k_box (b_al hB2 _)).mono ?_); rintro e w3 ⟨rfl, hb3⟩))
  go_returns
  exact ⟨by first | rfl | simp, b_go HB.out (b_go (b_al hB2 _) hb3)⟩
end Go.Proofs.Ytmnaeoljpajomaa.H
