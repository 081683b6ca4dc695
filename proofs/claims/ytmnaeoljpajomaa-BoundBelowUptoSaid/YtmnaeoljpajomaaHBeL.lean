/- Contract of bound.of: the most instructions of a run of a code, those that it calls being reckoned. Condition: the codes that belong to it can be reckoned. -/
import Derived.Test.YtmnaeoljpajomaaHBeK
import Derived.Laws.EntriesVeiled
namespace Go.Proofs.Ytmnaeoljpajomaa.H
set_option linter.unusedVariables false
set_option linter.unusedSimpArgs false
open Go.RowKit Go.Proofs.Ytmnaeoljpajomaa.Plain Go.Sort Go.Maps
set_option maxHeartbeats 3200000
set_option maxRecDepth 100000
attribute [local go_sem] ext_from ext_bits cell_isSome un_neg_float
theorem far_all (cx : Cx) (f : FlatD) (cost : OpD → Option Int) (n : Nat) (hC : CanF f) (hz : Modest f) (hc : CostOk cx f cost n) (hcr : ∀ o c, cost o = some c → 0 ≤ c ∧ c ≤ H40) : ∀ k, FarOk cx f cost n (val f cost k) ∧ OnceOk cx f cost n (val f cost k) := by
  have zero : ∀ (g : Nat → Option Nat → Option Int) (l : Option Nat) (q v : Int), (∀ m, l = some m → m < f.loops.length) → zeroB f q l = true → farOf f g l q = some v → ∀ W, RJ cx f cost n W → Calls Try.prog 45 #[.pointer (some ⟨n + 5, 0, none⟩), .int .i64 q, .int .i64 (encL l)] W (OutR cx f cost n W v) := by
    intro g l q v hl hb hv W hJ
    unfold farOf at hv
    rw [if_pos hb] at hv
    cases hv
    cases l with
    | none => cases hb
    | some m => exact far_zero cx f cost n m q (hl m rfl) hJ.flat.2.1 hb W hz hJ
  intro k
  induction k with
  | zero =>
    refine ⟨fun l q v hl hq hv W hJ => ?_, fun m v hm hv W hJ => by simp [val] at hv⟩
    rcases Bool.eq_false_or_eq_true (zeroB f q l) with hb | hb
    · exact zero _ l q v hl hb hv W hJ
    · unfold farOf at hv
      rw [if_neg (by rw [hb]; decide)] at hv
      simp [val] at hv
  | succ k ih =>
    refine ⟨fun l q v hl hq hv W hJ => ?_, fun m v hm hv W hJ => once_step cx f cost n k hC hz hc hcr ih.1 ih.2 m v hm hv W hJ⟩
    rcases Bool.eq_false_or_eq_true (zeroB f q l) with hb | hb
    · exact zero _ l q v hl hb hv W hJ
    · unfold farOf at hv
      rw [if_neg (by rw [hb]; decide)] at hv
      obtain ⟨p, rfl⟩ : ∃ p : Nat, q = p := ⟨q.toNat, by omega⟩
      exact far_step cx f cost n k hC hz hc hcr ih.1 ih.2 p l v hl (by omega) hb (by simpa using hv) W hJ
theorem OutJ.put {cx : Cx} {w w' : World} (h : OutJ cx w) (hg : w.grownBy w' (some cx.M)) (hm : Memo Try.prog 3 w' cx.M (EM cx.fs)) : OutJ cx w' := by
  have hM := h.hM
  have hl := h.memo.lt
  exact ⟨h.bel.trans ⟨hg.os, hg.tape, hg.output, hg.size, fun k hk => hg.block k (by omega) (fun e => by cases e; omega)⟩, h.hM, h.codes, hm⟩
/-- Codes that can be reckoned, and all that they call. -/
structure GoodS (fs : List FlatD) (G : Nat → Prop) : Prop where
  code : ∀ j, G j → ∃ f, fs[j]? = some f ∧ CanF f ∧ Modest f ∧ ∀ o ∈ f.ops, o.code = 18 → 0 ≤ o.b → G o.b.toNat
def OutB (cx : Cx) (W : World) (c : Int) (e : Ending) (w' : World) : Prop := e = .returned (.int .i64 c) ∧ OutJ cx w' ∧ Bar [cx.M] W w'
def OfOk (cx : Cx) (G : Nat → Prop) (k : Nat) : Prop := ∀ (j : Nat) (c : Int), G j → ofV cx.fs k j = some c → ∀ W, OutJ cx W → Calls Try.prog 25 #[.slice cx.ao cx.an cx.ac, .int .i64 j, .map (some cx.M)] W (OutB cx W c)
theorem cost_ok (cx : Cx) (G : Nat → Prop) (f : FlatD) (n k : Nat) (hG : ∀ o ∈ f.ops, o.code = 18 → 0 ≤ o.b → G o.b.toNat) (hO : OfOk cx G k) : CostOk cx f (costV cx.fs k) n := by
  intro oo hoo c hc w hJ
  have HJ := Lib.hid hJ
  have c0 := k_cv hJ.cod 0 rfl
  have c1 := k_cv hJ.kno 0 rfl
  simp only [List.getElem_toArray, List.getElem_cons_succ, List.getElem_cons_zero] at c0 c1
  have hn5 : n + 5 < w.heap.size := by have := hJ.lt; omega
  by_cases h18 : oo.code = 18
  · unfold costV at hc
    rw [if_pos h18] at hc
    by_cases hb : oo.b < 0
    · rw [if_pos hb] at hc; cases hc
    · rw [if_neg hb] at hc
      obtain ⟨x, hx, rfl⟩ := Option.map_eq_some_iff.1 hc
      obtain ⟨j, hj⟩ : ∃ j : Nat, oo.b = j := ⟨oo.b.toNat, by omega⟩
      have hGj := hG oo hoo h18 (by omega)
      rw [hj, Int.toNat_natCast] at hx hGj
      have N1 := fun W hW => hO j x hGj hx W hW
      have hxr := ofV_range k j x hx
      unfold H40 at hxr
      have N2 := fun W => c_sum 1 x W (by omega) hxr
      have hJ1 := fun o => (hJ.alloc o).out
      have hn0 : n < w.heap.size := by omega
      have hn1 : n + 1 < w.heap.size := by omega
      have e1 : ¬ n = w.heap.size := by omega
      have e2 : ¬ n + 1 = w.heap.size := by omega
      clear hJ hc hx hxr hb
      go_enter Try.func43, Try.ntmps43
      go_wp2_with (first | (go_at_call 25; go_loud (with_reducible refine (N1 _ (hJ1 _)).mono ?_); rintro e w2 ⟨rfl, hJ2, hb2⟩) | (go_at_call 44; go_loud (with_reducible refine (N2 _).mono ?_); rintro e w3 ⟨rfl, rfl⟩))
      go_returns
      refine ⟨rfl, (HJ.out.alloc _).out_go hJ2 hb2, (((Bar.refl _ w).alloc _).mono (T := rS cx n) (fun s _ h => h)).trans (hb2.mono (fun s _ h => by simp at h; simp [h]))⟩
  · unfold costV at hc
    rw [if_neg h18] at hc
    cases hc
    clear hJ
    go_enter Try.func43, Try.ntmps43
    go_wp2
    go_returns
    exact ⟨rfl, HJ.out.alloc _, (Bar.refl _ w).alloc _⟩
theorem of_step (cx : Cx) (G : Nat → Prop) (hG : GoodS cx.fs G) (hsz : cx.an ≤ 1048576) (k : Nat) (hO : OfOk cx G k) : OfOk cx G (k + 1) := by
  intro j c hj hv w hJ
  obtain ⟨f, hf, hC, hz, hcl⟩ := hG.code j hj
  have hE : EM cx.fs (.int .i64 j) c := ⟨k + 1, j, rfl, hv⟩
  have hTB : timesB f = true := timesB_of (fun m hm => (hC.loop m hm).2.2.2.1)
  rw [ofV_succ, hf] at hv
  simp only at hv
  rw [if_pos hTB] at hv
  obtain ⟨hcl1, hcl2, hcl3⟩ := hJ.codes
  have hjn : j < cx.an := by
    rcases Nat.lt_or_ge j cx.fs.length with h | h
    · omega
    · rw [List.getElem?_eq_none h] at hf; cases hf
  have hkl := keyI_of (x := (j : Int)) (by omega)
  obtain ⟨kl, hkl⟩ : ∃ kl, keyOf Try.prog 3 (.int .i64 j) = some kl := ⟨_, hkl⟩
  have hmm := @run_makeMap Try.prog
  have hS := (hcl2.go hJ.bel)
  obtain ⟨ca, hca⟩ : ∃ a, cx.ao = some a := by
    cases e : cx.ao with
    | none => exact absurd (hS.2.1 e) (by omega)
    | some a => exact ⟨a, rfl⟩
  rw [hca] at hS
  have z0 := hS.at0 FlatD.len hf rfl
  have z1 := hS.atS FlatD.len hf (j := 1) (by decide) rfl
  have z2 := hS.atS FlatD.len hf (j := 2) (by decide) rfl
  have z3 := hS.atS FlatD.len hf (j := 3) (by decide) rfl
  have z4 := hS.atS FlatD.len hf (j := 4) (by decide) rfl
  have z5 := hS.atS FlatD.len hf (j := 5) (by decide) rfl
  have z6 := hS.atS FlatD.len hf (j := 6) (by decide) rfl
  have z7 := hS.atS FlatD.len hf (j := 7) (by decide) rfl
  have hjI : (j : Int) < cx.an := by omega
  have hcb : (ca.add (j * 8)).block < w.heap.size := by rw [add_blk]; exact (hS.2.2 ca rfl).2 (by omega)
  have HJ := Lib.hid hJ
  have hM : cx.M < w.heap.size := hJ.memo.lt
  clear hJ hS hcl2
  rw [hca]
  go_enter Try.func25, Try.ntmps25
  go_upto_region 1 with fail
  obtain ⟨n, hn⟩ : ∃ n, w.heap.size = n := ⟨_, rfl⟩
  obtain ⟨wB, hwB⟩ : ∃ W, W = (w.alloc (.cells #[.slice (some ca) cx.an cx.ac] 22 (0, 0))).alloc (.cells #[.map (some cx.M)] 61 (0, 0)) := ⟨_, rfl⟩
  have hbB : Below w.heap.size w wB := by rw [hwB]; exact b_al (b_al (Below.refl _ _) _) _
  have kcod : wB.heap[n]? = some (.cells #[.slice (some ca) cx.an cx.ac] 22 (0, 0)) := by rw [hwB, ← hn]; exact k_al k_box _
  have kkno : wB.heap[n + 1]? = some (.cells #[.map (some cx.M)] 61 (0, 0)) := by rw [hwB, ← hn]; exact k_n1 _ _ _ _
  have hsB : wB.heap.size = n + 2 := by rw [hwB, alloc_sz, alloc_sz, hn]
  rw [← hwB, hn]
  clear hwB
  have y0 := (hbB.cell hcb).trans z0
  have y1 := (hbB.cell (p := ⟨(ca.add (j * 8)).block, _, none⟩) hcb).trans z1
  have y2 := (hbB.cell (p := ⟨(ca.add (j * 8)).block, _, none⟩) hcb).trans z2
  have y3 := (hbB.cell (p := ⟨(ca.add (j * 8)).block, _, none⟩) hcb).trans z3
  have y4 := (hbB.cell (p := ⟨(ca.add (j * 8)).block, _, none⟩) hcb).trans z4
  have y5 := (hbB.cell (p := ⟨(ca.add (j * 8)).block, _, none⟩) hcb).trans z5
  have y6 := (hbB.cell (p := ⟨(ca.add (j * 8)).block, _, none⟩) hcb).trans z6
  have y7 := (hbB.cell (p := ⟨(ca.add (j * 8)).block, _, none⟩) hcb).trans z7
  have d0 := k_cv kcod 0 rfl
  have d1 := k_cv kkno 0 rfl
  simp only [List.getElem_toArray, List.getElem_cons_succ, List.getElem_cons_zero] at d0 d1
  have hJB : OutJ cx wB := HJ.out.go hbB hM
  have hmM := hJB.memo
  have HBB := Lib.hid hbB
  clear z0 z1 z2 z3 z4 z5 z6 z7 hbB
  go_upto_region 2 with (at_lookup; go_loud (refine wpList_memo_look _ rfl _ _ 61 true rfl 3 3 keyI Try.underlying61 (zeroI _) cx.M _ rfl hmM _ kl rfl hkl ?_ ?_))
  · go_upto_region 5 with fail
    obtain ⟨wC, hwC⟩ : ∃ W, W = (((wB.alloc (.map #[] 0)).alloc (.map #[] 0)).alloc (.map #[] 0)).alloc (.cells #[.string f.name, .int .i64 f.what, .int .i64 f.cells, .int .i64 f.base, .int .i64 f.regs, .int .i64 f.slots, .slice f.ao f.on f.oc, .slice f.lo f.ln f.lc, .nilFunc, .map (some (n + 2)), .map (some (n + 3)), .map (some (n + 4))] 81 (0, 0)) := ⟨_, rfl⟩
    have hbC : Below wB.heap.size wB wC := by rw [hwC]; exact b_al (b_al (b_al (b_al (Below.refl _ _) _) _) _) _
    have m2 : wC.heap[n + 2]? = some (.map #[] 0) := by rw [hwC]; exact k_al (k_al (k_al (k_new hsB.symm) _) _) _
    have m3 : wC.heap[n + 3]? = some (.map #[] 0) := by rw [hwC]; exact k_al (k_al (k_new (by rw [alloc_sz, hsB])) _) _
    have m4 : wC.heap[n + 4]? = some (.map #[] 0) := by rw [hwC]; exact k_al (k_new (by rw [alloc_sz, alloc_sz, hsB])) _
    have m5 : wC.heap[n + 5]? = some (.cells #[.string f.name, .int .i64 f.what, .int .i64 f.cells, .int .i64 f.base, .int .i64 f.regs, .int .i64 f.slots, .slice f.ao f.on f.oc, .slice f.lo f.ln f.lc, .nilFunc, .map (some (n + 2)), .map (some (n + 3)), .map (some (n + 4))] 81 (0, 0)) := by rw [hwC]; exact k_new (by rw [alloc_sz, alloc_sz, alloc_sz, hsB])
    have e3 : n + 2 + 1 = n + 3 := rfl
    have e4 : n + 2 + 1 + 1 = n + 4 := rfl
    have e5 : n + 2 + 1 + 1 + 1 = n + 5 := rfl
    simp only [Nat.add_assoc, Nat.reduceAdd]
    rw [← hwC]
    clear hwC
    have q8 := k_cv m5 8 rfl
    have g8 := k_fr m5 8
    simp only [List.getElem_toArray, List.getElem_cons_succ, List.getElem_cons_zero] at q8
    go_wp2_with fail
    obtain ⟨wD, hwD⟩ : ∃ W, W = wC.setCell ⟨n + 5, 8, none⟩ (.func (.func 43) #[] #[.pointer (some ⟨n, 0, none⟩), .pointer (some ⟨n + 1, 0, none⟩)]) := ⟨_, rfl⟩
    rw [← hwD]
    have hbD : Below (n + 2) wB wD := by rw [hwD]; exact (hbC.mono (by omega)).setCell (show n + 2 ≤ n + 5 by omega) _
    have hD : ∀ g o, g ≠ n + 5 → wC.heap[g]? = some o → wD.heap[g]? = some o := fun g o hg h => by rw [hwD, Below.heap_setCell _ _ _ _ hg]; exact h
    have hJD : OutJ cx wD := hJB.go hbD (by omega)
    have hRJ : RJ cx f (costV cx.fs k) n wD := {
      out := hJD
      hM := by omega
      flat := hJD.flat hf
      low := by
        have hfl := hJD.codes.2.2 f (List.mem_of_getElem? hf)
        rintro g (⟨a, ha, hn0, rfl⟩ | ⟨a, ha, hn0, rfl⟩)
        · exact (hfl.2.2.2.2 a ha).2 hn0
        · exact (hfl.1.2.2.2 a ha).2 hn0
      cod := by rw [hca]; exact (hbD.block _ (by omega)).trans kcod
      kno := (hbD.block _ (by omega)).trans kkno
      mP := ⟨#[], 0, hD _ _ (by omega) m2, fun e he => by simp at he⟩
      mO := ⟨#[], 0, hD _ _ (by omega) m3, fun e he => by simp at he⟩
      mI := ⟨#[], 0, hD _ _ (by omega) m4, fun e he => by simp at he⟩
      blk := by rw [hwD]; exact (k_se m5).trans rfl }
    have hCost := cost_ok cx G f n k hcl hO
    have hFar := (far_all cx f (costV cx.fs k) n hC hz hCost (costV_range k) k).1
    have hN1 : farOf f (val f (costV cx.fs k) k) none 0 = some c := by unfold farOf; rw [if_neg (by simp [zeroB])]; exact hv
    have N1 := fun W hW => hFar none 0 c (fun m h => by cases h) ⟨by omega, by have := hC.pos; omega⟩ hN1 W hW
    rw [show encL none = -1 from rfl] at N1
    have hRJd := hRJ.drew
    have s1 := k_cv hRJd.kno 0 rfl
    simp only [List.getElem_toArray, List.getElem_cons_succ, List.getElem_cons_zero] at s1
    have hbw : Bar (rS cx n) w wD.drew := ((Bar.refl _ w).go (HBB.out.trans (hbD.mono (by omega)))).drew
    clear hwD hbD hD hJD hRJ hCost hFar hN1 hbC m2 m3 m4 m5 q8 g8 d0 d1 kcod kkno y0 y1 y2 y3 y4 y5 y6 y7
    go_region_held3 (fun w' => w'.cell? ⟨n + 1, 0, none⟩ = some (.map (some cx.M))) (first | assumption | go_keep) (first | (go_at_call 45; (with_reducible refine (N1 _ (by assumption)).mono ?_); rintro e w6 ⟨rfl, hJ6, hb6⟩; have s6 := k_cv hJ6.kno 0 rfl; simp only [List.getElem_toArray, List.getElem_cons_succ, List.getElem_cons_zero] at s6; obtain ⟨w9, hrun, hm9, hg9, hs9, hh9⟩ := run_memo_put (t := 61) (e := 3) hJ6.out.memo keyI Try.underlying61 hkl hE; have s9 : w9.cell? ⟨n + 1, 0, none⟩ = some (.map (some cx.M)) := (World.cell?_of_block (w := w6) (a := ⟨n + 1, 0, none⟩) (hg9.block (n + 1) (by have := hJ6.lt; omega) (fun e => by have e2 : n + 1 = cx.M := Option.some.inj e; omega))).trans s6))
    all_goals
      obtain ⟨x, hr7, hE7⟩ := run_memo_has (t := 61) (e := 3) false hm9 keyI Try.underlying61 hkl hh9
      have hxc := EM_at hE7 (k := k + 1) (c' := c) (by rw [ofV_succ, hf]; simp only; rw [if_pos hTB]; exact hv)
      subst hxc
      simp only [Bool.false_eq_true, if_false] at hr7
      go_wp2
      go_returns
      exact ⟨rfl, hJ6.out.put hg9 hm9, (((hbw.trans hb6).mono (T := [cx.M]) (fun s hs hm => by simp only [rS, List.mem_cons, List.mem_nil_iff, or_false] at hm ⊢; omega))).grown hg9 (.inl (by simp))⟩
  · intro x hx
    have hxc := EM_at hx (k := k + 1) (c' := c) (by rw [ofV_succ, hf]; simp only; rw [if_pos hTB]; exact hv)
    subst hxc
    go_wp2
    go_returns
    exact ⟨rfl, hJB, (Bar.refl _ w).go HBB.out⟩
theorem of_all (cx : Cx) (G : Nat → Prop) (hG : GoodS cx.fs G) (hsz : cx.an ≤ 1048576) : ∀ k, OfOk cx G k
  | 0 => fun j c hj hv w hJ => by simp [ofV] at hv
  | k + 1 => of_step cx G hG hsz k (of_all cx G hG hsz k)
end Go.Proofs.Ytmnaeoljpajomaa.H
