/- The law BoundApart: walked. Condition: sizes within reach. -/
import Derived.Test.YtmnaeoljpajomaaHBoL
import Derived.Deep.RegionLaw
namespace Go.Proofs.Ytmnaeoljpajomaa.H
set_option linter.unusedVariables false
set_option linter.unusedSimpArgs false
open Go.RowKit Go.Proofs.Ytmnaeoljpajomaa.Plain Go.Sort Go.Maps
set_option maxHeartbeats 3200000
set_option maxRecDepth 100000
attribute [local go_sem] ext_from ext_bits cell_isSome un_neg_float
/-- append onto a row of the walk's own, as one step of a region that draws. -/
theorem step_append_own {P : Program} {ops : Array Oper} {o : Oper} {a : Act} {w : World} {K : Act → World → Prop} {Q : Exit → Act → World → Prop} {E : Prop}
    (hg : o.guard = none) (s x : Operand) (t : TypeId) (hop : o.op = Op.call { callee := Callee.builtin Builtin.append, args := #[s, x], argTypes := #[t, t] })
    (base : Nat) (e : TypeId) (i : TypeInfo) (z : Value) (size bytes : Nat) (ht : P.underlying t = some (.slice e)) (hi : P.info? e = some i) (hz : i.zero = some z)
    (hsize : i.size = size) (hby : i.bytes = bytes) (hzs : z.cells.size = size) (hsz : 0 < size)
    (v : Value) (n : Nat) (xs : List Value) (hs : a.eval s = v) (hown : w.ownsRow base e size v n xs)
    (ad : Addr) (m c : Nat) (news : List Value) (hx : a.eval x = .slice (some ad) m c) (hl : news.length = m * size) (hnews : ∀ j u, news[j]? = some u → w.cell? (ad.add j) = some u) (h1 : ∀ u ∈ news, u.oneCell' = true)
    (h63 : n + m ≤ maxLen) (hbytes : (n + m) * bytes ≤ 140737488355328) (hbase : base ≤ w.heap.size)
    (hK : ∀ v' w', w'.ownsRow base e size v' (n + m) (xs ++ news) → w.grownBy w' v.ownBlock → K (a.put o.dst v') w') :
    if Region.wanted o (yielded ops a.tmps) = true then Oper.wp P o a w K Q else E := by
  have hw : Region.wanted o (yielded ops a.tmps) = true := by simp [Region.wanted, hg]
  rw [if_pos hw]
  exact wp_append_own w s x t hop base e i z size bytes ht hi hz hsize hby hzs hsz v n xs hs hown ad m c news hx hl hnews h1 h63 hbytes hbase fun v' w' h2 h3 _ => hK v' w' h2 h3
theorem ofR_err {fs : List FlatD} {fn v : Int} (h : (soundV (allV fs) fn).2 ≠ 1) : (ofR fs fn v).2.2 ≠ 1 := by
  unfold ofR
  split
  · exact h
  · split
    · simp
    · split <;> simp
theorem sumA_app : ∀ (ls : List (List Int)) (x : List Int), sumA (ls ++ [x]) = sumA ls + x.length
  | [], x => by simp [sumA, sumU]
  | l :: ls, x => by
    have ih := sumA_app ls x
    simp only [sumA, List.cons_append, sumU] at ih ⊢
    omega
theorem alike_same {gs fs : List FlatD} (h : Alike gs fs) : SameL gs fs := ⟨h.1, fun j f g a b => by
  obtain ⟨_, _, _, _, _, _, _, _, e9, e10⟩ := h.2 j g f b a
  exact ⟨e9.symm, e10.symm⟩⟩
theorem one_sizes {w : World} {B : Nat} {g f : FlatD} (h : g.same f) (hs : FlatSz f) (hm : Modest f) (ho : FlatOwnB w B g) : FlatSz g ∧ Modest g ∧ g.ln ≤ g.lc := by
  obtain ⟨e1, e2, e3, e4, e5, e6, e7, e8, e9, e10⟩ := h
  exact ⟨⟨by rw [e7]; exact hs.1, by rw [e8]; exact hs.2⟩, ⟨by rw [e9]; exact hm.1, by rw [e10]; exact hm.2⟩, own_cap ho.2.2⟩
/-- What is told of the longer list. -/
theorem apart_all {n j : Nat} {v d D r1 r2 r3 s1 s2 : Int} {fs gs : List FlatD} {more g : FlatD} {w5 w6 w9 : World} {B B5 B6 c9 : Nat} {a9 : Option Addr} (hl : fs.length = n) (hjn : (j : Int) < n) (hal5 : Alike gs fs) (hsame : g.same more) (hs : ∀ f ∈ fs, FlatSz f) (hm : ∀ f ∈ fs, Modest f) (hbig : n ≤ 1048575) (hT : sumA (allV fs) ≤ 1048576) (hFs : FlatSz more) (hFm : Modest more)
    (hv : Reckons fs j v) (hd : (soundV (allV fs) (j : Int)).2 = 0 → depthV (allV fs) ((allV fs).length + 1) (j : Int).toNat = some d) (hR : ofR fs j v = (r1, r2, r3)) (hS : soundV (allV fs) (j : Int) = (s1, s2)) (hD : (if s2 = 0 then d else 0) = D) (hs2 : ¬ s2 = 1)
    (hfo5 : ∀ y ∈ gs, FlatOwnB w5 B5 y) (hgo : FlatOwnB w6 B6 g) (hfo9 : ∀ y ∈ gs ++ [g], FlatOwnB w9 B y) (hown9 : w9.ownsRow B 32 8 (.slice a9 (n + 1) c9) (n + 1) (gs.flatMap FlatD.row ++ g.row)) :
    ∀ W, Below w9.heap.size w9 W → (Calls Try.prog 8 #[.slice a9 (n + 1) c9, .int .i64 j] W fun e w' => Out3 e r1 r2 r3 ∧ Below W.heap.size W w') ∧ (Calls Try.prog 9 #[.slice a9 (n + 1) c9, .int .i64 j] W fun e w' => Out3 e D s1 s2 ∧ Below W.heap.size W w') := by
  have hgl : gs.length = n := hal5.1.trans hl
  have hC9 : Codes w9 a9 (n + 1) (gs ++ [g]) := codes_own (B := B) (c := c9) (by simp [hgl]) (by rw [List.flatMap_append, List.flatMap_singleton]; exact hown9) hfo9
  obtain ⟨q1, q2, q3, q4⟩ := of_apart (more := g) (fn := j) (by omega) (alike_same hal5) (by rw [hS]; exact hs2)
  have hz1 := copies_sizes hal5 hs hm hfo5
  have hz2 := one_sizes hsame hFs hFm hgo
  have hz : ∀ y ∈ gs ++ [g], FlatSz y ∧ Modest y ∧ y.ln ≤ y.lc := fun y hy => by
    rcases List.mem_append.1 hy with h | h
    · exact hz1 y h
    · obtain rfl := List.mem_singleton.1 h
      exact hz2
  have hall : allV (gs ++ [g]) = allV fs ++ [callsV g.ops] := by rw [← (alike_same hal5).allV]; simp [allV]
  have hsum : sumA (allV (gs ++ [g])) ≤ 4194303 := by
    rw [hall, sumA_app]
    have := callsV_len g.ops
    have := hz2.2.1.1
    omega
  have hlen : (allV fs).length = n := by rw [allV_len, hl]
  intro W hb
  have h1 := c_Of a9 (n + 1) c9 (gs ++ [g]) j v W (hC9.go hb) (fun y hy => (hz y hy).1) (fun y hy => (hz y hy).2.1) (fun y hy => (hz y hy).2.2) (by omega) hsum (q3 v hv)
  have h2 := c_Depth a9 (n + 1) c9 (gs ++ [g]) j W (hC9.go hb) (fun y hy => (hz y hy).1) (by omega) (by omega) d (fun h => ⟨(allV fs).length + 1, by omega, by
    rw [Int.toNat_natCast, q4]
    have := hd (by rw [q1] at h; exact h)
    rwa [Int.toNat_natCast] at this⟩)
  rw [q2, hR] at h1
  rw [q1, hS, hD] at h2
  exact ⟨h1, h2⟩
theorem law_Apart (ao : Option Addr) (n c : Nat) (fs : List FlatD) (fn : Int) (more : FlatD) (w : World) (hC : Codes w ao n fs) (hs : ∀ f ∈ fs, FlatSz f) (hm : ∀ f ∈ fs, Modest f) (hcap : ∀ f ∈ fs, f.ln ≤ f.lc) (hbig : n ≤ 1048575) (hT : sumA (allV fs) ≤ 1048576)
    (hF : FlatOk w more) (hFs : FlatSz more) (hFm : Modest more) :
    Calls Try.prog 4 #[.slice ao n c, .int .i64 fn, more.val] w fun e w' => e = .returned (.bool true) ∧ Below w.heap.size w w' := by
  obtain ⟨v, hv⟩ := reckons_any hm fn
  obtain ⟨d, hd⟩ := depth_any (ls := allV fs) fn
  have hl := hC.1
  have hal : (allV fs).length = n := by rw [allV_len, hl]
  have N1 := fun W (hb : Below w.heap.size w W) => c_Of ao n c fs fn v W (hC.go hb) hs hm hcap (by omega) (by omega) hv
  have N2 := fun W (hb : Below w.heap.size w W) => c_Depth ao n c fs fn W (hC.go hb) hs (by omega) (by omega) d (fun h => ⟨_, by omega, hd h⟩)
  have NA := c_awake
  by_cases hin : fn < 0 ∨ (n : Int) ≤ fn
  · have hR : ofR fs fn v = (0, fn, 1) ∧ (soundV (allV fs) fn) = (fn, 1) := by
      have hsd : soundV (allV fs) fn = (fn, 1) := by unfold soundV; rw [if_pos (by rw [hal]; exact hin)]
      refine ⟨?_, hsd⟩
      unfold ofR
      rw [hsd, if_pos (by simp)]
    rw [hR.1] at N1
    rw [hR.2, if_neg (by simp)] at N2
    clear hC hs hm hcap hbig hT hF hFs hFm hv hd hR
    by_cases h0 : fn < 0
    · clear hin
      go_enter Try.func4, Try.ntmps4
      go_wp2_with (first | (go_at_call 8; go_loud (with_reducible refine (N1 _ (b_al (Below.refl _ _) _)).mono ?_); rintro e w1 ⟨rfl, hb1⟩; have hbc := b_go (b_al (Below.refl _ _) _) hb1) | (go_at_call 9; go_loud (with_reducible refine (N2 _ hbc).mono ?_); rintro e w2 ⟨rfl, hb2⟩; have hbc := b_go hbc hb2) | (go_at_call 10; go_loud (with_reducible refine (NA _).mono ?_); rintro e w3 ⟨rfl, hb3⟩; have hbc := b_go hbc hb3))
      go_returns
      exact ⟨rfl, hbc⟩
    · have h1 : (n : Int) ≤ fn := by omega
      clear hin
      go_enter Try.func4, Try.ntmps4
      go_wp2_with (first | (go_at_call 8; go_loud (with_reducible refine (N1 _ (b_al (Below.refl _ _) _)).mono ?_); rintro e w1 ⟨rfl, hb1⟩; have hbc := b_go (b_al (Below.refl _ _) _) hb1) | (go_at_call 9; go_loud (with_reducible refine (N2 _ hbc).mono ?_); rintro e w2 ⟨rfl, hb2⟩; have hbc := b_go hbc hb2) | (go_at_call 10; go_loud (with_reducible refine (NA _).mono ?_); rintro e w3 ⟨rfl, hb3⟩; have hbc := b_go hbc hb3))
      go_returns
      exact ⟨rfl, hbc⟩
  · obtain ⟨j, rfl⟩ : ∃ j : Nat, fn = j := ⟨fn.toNat, by omega⟩
    have hjn : (j : Int) < n := by omega
    clear hin
    by_cases hE : (soundV (allV fs) (j : Int)).2 = 1
    · have hR : ofR fs j v = (0, (soundV (allV fs) j).1, 1) := by
        unfold ofR
        rw [if_pos (by rw [hE]; simp), hE]
      rw [hR] at N1
      rw [hE, if_neg (by simp)] at N2
      obtain ⟨s1, hs1⟩ : ∃ s, (soundV (allV fs) (j : Int)).1 = s := ⟨_, rfl⟩
      rw [hs1] at N1 N2
      clear hC hs hm hcap hbig hT hF hFs hFm hv hd hR hE hs1
      go_enter Try.func4, Try.ntmps4
      go_wp2_with (first | (go_at_call 8; go_loud (with_reducible refine (N1 _ (b_al (Below.refl _ _) _)).mono ?_); rintro e w1 ⟨rfl, hb1⟩; have hbc := b_go (b_al (Below.refl _ _) _) hb1) | (go_at_call 9; go_loud (with_reducible refine (N2 _ hbc).mono ?_); rintro e w2 ⟨rfl, hb2⟩; have hbc := b_go hbc hb2) | (go_at_call 10; go_loud (with_reducible refine (NA _).mono ?_); rintro e w3 ⟨rfl, hb3⟩; have hbc := b_go hbc hb3))
      go_returns
      exact ⟨rfl, hbc⟩
    · have hRE := ofR_err (v := v) hE
      have N5 := fun W (hb : Below w.heap.size w W) => c_FlatsB ao n c fs W (hC.go hb) hs (by omega)
      have N6 := fun W (hb : Below w.heap.size w W) => c_FlatB more W (hF.go hb) hFs
      obtain ⟨R, hR⟩ : ∃ R, ofR fs j v = R := ⟨_, rfl⟩
      obtain ⟨S, hS⟩ : ∃ S, soundV (allV fs) (j : Int) = S := ⟨_, rfl⟩
      obtain ⟨D, hD⟩ : ∃ D, (if S.2 = 0 then d else 0) = D := ⟨_, rfl⟩
      rw [hR] at N1 hRE
      rw [hS, hD] at N2
      rw [hS] at hE
      obtain ⟨r1, r2, r3⟩ := R
      obtain ⟨s1, s2⟩ := S
      have HS := Lib.hid hs
      have HV := Lib.hid hv
      have HD := Lib.hid hd
      have HM := Lib.hid hm
      have HR := Lib.hid hR
      have HSO := Lib.hid hS
      have HDD := Lib.hid hD
      have HT := Lib.hid hT
      have HN := Lib.hid hbig
      have HFM := Lib.hid hFm
      have HFS := Lib.hid hFs
      have hr3 : ¬ r3 = 1 := hRE
      have hs2 : ¬ s2 = 1 := hE
      have hr3b : (r3 == 1) = false := by simpa using hr3
      have hs2b : (s2 == 1) = false := by simpa using hs2
      have hj0 : ¬ (j : Int) < 0 := by omega
      have hj1 : ¬ (n : Int) ≤ j := by omega
      have hj2 : ¬ n ≤ j := by omega
      clear hC hs hm hcap hbig hT hF hFs hFm hv hd hR hE hS hD hRE
      go_enter Try.func4, Try.ntmps4
      go_upto_region 7 with (first | (go_at_call 8; go_loud (with_reducible refine (N1 _ (b_al (Below.refl _ _) _)).mono ?_); rintro e w1 ⟨rfl, hb1⟩; have kb := k_go (k_new (w := w) (o := .cells #[.string more.name, .int .i64 more.what, .int .i64 more.cells, .int .i64 more.base, .int .i64 more.regs, .int .i64 more.slots, .slice more.ao more.on more.oc, .slice more.lo more.ln more.lc] 32 (0, 0)) rfl) hb1; have hbc := b_go (b_al (Below.refl _ _) _) hb1) | (go_at_call 9; go_loud (with_reducible refine (N2 _ hbc).mono ?_); rintro e w2 ⟨rfl, hb2⟩; have kb := k_go kb hb2; have hbc := b_go hbc hb2))
      obtain ⟨i0, hi, hz0, hz1, hz2⟩ := info_parts (show (Try.prog.info? 32).map (fun i => (i.zero, i.size, i.bytes)) = some (some (.agg #[.string ⟨#[]⟩, .int .i64 0, .int .i64 0, .int .i64 0, .int .i64 0, .int .i64 0, .slice none 0 0, .slice none 0 0]), 8, 104) by kernel_rfl)
      obtain ⟨x0, x1, x2, x3, x4, x5, x6, x7⟩ := box_cells kb
      have hN := HN.out
      clear N1 N2 hb1 hb2
      go_region_law (first | (refine step_append_own rfl _ _ 22 rfl w.heap.size 32 i0 _ 8 104 Try.underlying22 hi hz0 hz1 hz2 rfl (by decide) _ n _ rfl (hown6.alloc _) ⟨w6.heap.size, 0, none⟩ 1 1 g.row rfl rfl (fun j u hj => by rw [add_pl]; exact (k_cell (k_new rfl) j).trans (by simpa [FlatD.row] using hj)) (FlatD.one g) (by unfold maxLen; omega) (by omega) (by have := hc6.size; simp; omega) ?_; intro v9 w9 hown9 hg9) | (go_simp; go_wp2_with (first | (go_at_call 13; go_loud (with_reducible refine (N5 _ (by repeat (first | assumption | with_reducible apply b_dr))).mono ?_); rintro e w5 ⟨⟨ag, cg, gs, rfl, hal5, hown5, hfo5, hap5⟩, hb5⟩; rw [hl] at hown5 ⊢; obtain ⟨x0, x1, x2, x3, x4, x5, x6, x7⟩ := box_cells (k_go (k_dr kb) hb5); have hc5 := b_go (b_dr hbc) hb5) | (go_at_call 14; go_loud (with_reducible refine (N6 _ hc5).mono ?_); rintro e w6 ⟨⟨g, rfl, hsame, hgo⟩, hb6⟩; have hc6 := b_go hc5 hb6; have hown6 := own_low (own_below hown5 hb6) (B' := w.heap.size) (by have := hbc.size; simp at this ⊢; omega)))))
      all_goals
        obtain ⟨a9, c9, rfl⟩ := own_shape hown9
        have hs6 := hc6.size
        have hs5 := hc5.size
        have hsw := hbc.size
        have hbw9 : Below w.heap.size w w9 := below_grown2 (b_al hc6 _) hg9 (by simp; omega) (fun q hq => (hown6.lt q hq).1)
        have hfo9 : ∀ y ∈ gs ++ [g], FlatOwnB w9 w.heap.size y := fun y hy => by
          rcases List.mem_append.1 hy with h | h
          · exact FlatOwnB.grown ((((hfo5 y h).low (by simp; omega)).go hb6).go (b_al (Below.refl _ _) _)) (hown6.alloc _) (by decide) (by decide) hg9
          · obtain rfl := List.mem_singleton.1 h
            exact FlatOwnB.grown ((hgo.low (by omega)).go (b_al (Below.refl _ _) _)) (hown6.alloc _) (by decide) (by decide) hg9
        have NN := apart_all hl hjn hal5 hsame HS.out HM.out HN.out HT.out HFS.out HFM.out HV.out HD.out HR.out HSO.out HDD.out hs2 hfo5 hgo hfo9 hown9
        clear hal5 hsame hfo5 hgo hfo9 hown9 hown5 hown6 hg9 hap5 kb hi hz0 hz1 hz2 N5 N6
        go_wp2_with (first | (go_at_call 8; go_loud (with_reducible refine (NN _ (Below.refl _ _)).1.mono ?_); rintro e w10 ⟨rfl, hb10⟩) | (go_at_call 9; go_loud (with_reducible refine (NN _ hb10).2.mono ?_); rintro e w11 ⟨rfl, hb11⟩; have hb11' := b_go hb10 hb11) | (go_at_call 10; go_loud (with_reducible refine (NA _).mono ?_); rintro e w12 ⟨rfl, hb12⟩; have hb12' := b_go hb11' hb12))
        go_returns
        exact ⟨by first | rfl | simp, hbw9.trans (hb12'.mono hbw9.size)⟩
end Go.Proofs.Ytmnaeoljpajomaa.H
