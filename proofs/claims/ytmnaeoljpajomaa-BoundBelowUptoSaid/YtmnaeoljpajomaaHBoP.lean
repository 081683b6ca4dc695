/- The law BoundBelow: walked. Condition: sizes within reach. -/
import Derived.Test.YtmnaeoljpajomaaHBoN
namespace Go.Proofs.Ytmnaeoljpajomaa.H
set_option linter.unusedVariables false
set_option linter.unusedSimpArgs false
open Go.RowKit Go.Proofs.Ytmnaeoljpajomaa.Plain Go.Sort Go.Maps
set_option maxHeartbeats 3200000
set_option maxRecDepth 100000
attribute [local go_sem] ext_from ext_bits cell_isSome un_neg_float
theorem law_Below (ao : Option Addr) (n c : Nat) (fs : List FlatD) (fn : Int) (w : World) (hC : Codes w ao n fs) (hs : ∀ f ∈ fs, FlatSz f) (hm : ∀ f ∈ fs, Modest f) (hcap : ∀ f ∈ fs, f.ln ≤ f.lc) (hbig : n ≤ 1048576) (hT : sumA (allV fs) ≤ 4194303) :
    Calls Try.prog 3 #[.slice ao n c, .int .i64 fn] w fun e w' => e = .returned (.bool true) ∧ Below w.heap.size w w' := by
  obtain ⟨v, hv⟩ := reckons_any hm fn
  obtain ⟨d, hd⟩ := depth_any (ls := allV fs) fn
  have hl := hC.1
  have hal : (allV fs).length = n := by rw [allV_len, hl]
  have N1 := c_Of ao n c fs fn v w hC hs hm hcap hbig hT hv
  have N2 := fun W (hb : Below w.heap.size w W) => c_Depth ao n c fs fn W (hC.go hb) hs (by omega) (by omega) d (fun h => ⟨_, by omega, hd h⟩)
  have NA := c_awake
  by_cases hok : (soundV (allV fs) fn).2 = 0 ∧ (belongV (allV fs) [fn]).find? (fun k => !(canB fs k)) = none ∧ v ≤ 1048576
  · obtain ⟨h1, h2, h3⟩ := hok
    have hR : ofR fs fn v = (v, 0, 0) := by
      unfold ofR
      rw [if_neg (by simp [h1]), h2]
      dsimp only
      rw [if_neg (by omega)]
    obtain ⟨⟨j, rfl, hj⟩, _⟩ := sound_all h1
    rw [allV_len] at hj
    have hsd : soundV (allV fs) (j : Int) = (0, 0) := by
      have := (sound_ok h1).2.2.1
      exact Prod.ext this h1
    obtain ⟨f, hf⟩ : ∃ f, fs[j]? = some f := ⟨_, List.getElem?_eq_getElem hj⟩
    have hfm := List.mem_of_getElem? hf
    rw [hR] at N1
    rw [hsd, if_pos rfl] at N2
    obtain ⟨a, rfl⟩ : ∃ a, ao = some a := by
      cases e : ao with
      | none => exact absurd (hC.2.1.2.1 e) (by omega)
      | some a => exact ⟨a, rfl⟩
    have hjI : (j : Int) < n := by omega
    have hcells := fun W (hb : Below w.heap.size w W) => codes_cells (hC.go hb) hf
    have hd2 := hd h1
    rw [Int.toNat_natCast] at hd2
    have hbelow := fun z (hz : z ∈ callsV f.ops) => of_below hm hf h1 h2 (by
      obtain ⟨k, hk⟩ := hv h1 h2
      exact ⟨k, by rwa [Int.toNat_natCast] at hk⟩) h3 hd2 hz
    have N3 := fun W (hb : Below w.heap.size w W) => c_Calls f W ((hC.2.2 f hfm).go hb).1 (hs f hfm).1
    have hon := (hm f hfm).1
    have honl := (hC.2.2 f hfm).1.1
    have hcl := callsV_len f.ops
    have N4 := fun z u W (hb : Below w.heap.size w W) (hv : Reckons fs z u) => c_Of (some a) n c fs z u W (hC.go hb) hs hm hcap hbig hT hv
    have N5 := fun z W (hb : Below w.heap.size w W) (h0 : soundV (allV fs) z = (0, 0)) (u : Int) (hu : depthV (allV fs) ((allV fs).length + 1) z.toNat = some u) => c_Depth (some a) n c fs z W (hC.go hb) hs (by omega) (by omega) u (fun _ => ⟨_, by omega, hu⟩)
    have N6 := fun z W (hb : Below w.heap.size w W) => c_called f z W ((hC.2.2 f hfm).go hb) (by omega)
    obtain ⟨L, hL⟩ : ∃ L, callsV f.ops = L := ⟨_, rfl⟩
    rw [hL] at hbelow N3 hcl
    have HBE := Lib.hid hbelow
    have HN4 := Lib.hid N4
    have HN5 := Lib.hid N5
    have HN6 := Lib.hid N6
    have HHC := Lib.hid hcells
    have hLl : L.length ≤ 1048576 := by omega
    clear hC hs hm hcap hT hv h1 h2 hR hbig hd hd2 hsd hbelow N4 N5 N6 hon honl hcl hL hcells h3
    go_enter Try.func3, Try.ntmps3
    go_wp2_with (first | (go_at_call 8; go_loud (with_reducible refine N1.mono ?_); rintro e w1 ⟨rfl, hbc⟩) | (go_at_call 9; go_loud (with_reducible refine (N2 _ hbc).mono ?_); rintro e w2 ⟨rfl, hb2⟩; have hbc := b_go hbc hb2) | (go_at_call 10; go_loud (with_reducible refine (NA _).mono ?_); rintro e w3 ⟨rfl, hb3⟩; have hbc := b_go hbc hb3; obtain ⟨x0, x1, x2, x3, x4, x5, x6, x7⟩ := HHC.out w3 hbc) | (go_at_call 11; go_loud (with_reducible refine (N3 _ hbc).mono ?_); rintro e w4 ⟨⟨v4, rfl, hI4⟩, hb4⟩; obtain ⟨a4, c4, rfl⟩ := own_shape hI4; have hbc := b_go hbc hb4))
    have HI4 := Lib.hid hI4
    have HBC := Lib.hid hbc
    clear N1 N2 N3 hI4 hbc x0 x1 x2 x3 x4 x5 x6 x7 hb2 hb3 hb4
    go_loopw [48] (fun i wr => ∃ k : Nat, k ≤ L.length ∧ i = .int .i64 k ∧ Below w4.heap.size w4 wr) (fun i _ => L.length - (intOf i).toNat)
    case atStart => exact ⟨0, Nat.zero_le _, rfl, Below.refl _ _⟩
    case round =>
      obtain ⟨k, hk, rfl, hbe⟩ := hrel
      by_cases hkm : k < L.length
      · obtain ⟨z, hz⟩ : ∃ z, L[k]? = some z := ⟨_, List.getElem?_eq_getElem hkm⟩
        rcases (HI4.out.go hbe).form with ⟨_, rfl⟩ | ⟨g1, c1', he1, _, _, _, hcell⟩
        · simp at hkm
        cases he1
        have hc := hcell k _ hz
        have hbt := b_go HBC.out hbe
        obtain ⟨z1, ⟨cc, z2, z3⟩, u, z4, z5⟩ := HBE.out z (List.mem_of_getElem? hz)
        have N4 := fun W (hb : Below w.heap.size w W) => HN4.out z u W hb z4
        have N5 := fun W (hb : Below w.heap.size w W) => HN5.out z W hb z1 cc z2
        have N6 := fun W (hb : Below w.heap.size w W) => HN6.out z W hb
        rw [z1, if_pos rfl] at N5
        obtain ⟨R, hR⟩ : ∃ R, ofR fs z u = R := ⟨_, rfl⟩
        rw [hR] at N4 z5
        obtain ⟨r1, r2, r3⟩ := R
        have hkI : (k : Int) < L.length := by omega
        have hz5 : Comes f z → r3 = 0 ∧ r1 < v := fun h => by
          obtain ⟨e, h2⟩ := z5 h
          cases e
          exact ⟨rfl, h2⟩
        have HZ5 := Lib.hid hz5
        have HBT := Lib.hid hbe
        have hnc : ¬ d ≤ cc := by omega
        clear hcell z1 z2 z4 z5 hR hz5 hz hbe
        go_wp2_with (first | (go_at_call 8; go_loud (with_reducible refine (N4 _ hbt).mono ?_); rintro e w5 ⟨rfl, hb5⟩; have hb5' := b_go hbt hb5) | (go_at_call 9; go_loud (with_reducible refine (N5 _ hb5').mono ?_); rintro e w6 ⟨rfl, hb6⟩; have hb6' := b_go hb5' hb6; obtain ⟨x0, x1, x2, x3, x4, x5, x6, x7⟩ := HHC.out w6 hb6') | (go_at_call 12; go_loud (with_reducible refine (N6 _ hb6').mono ?_); rintro e w7 ⟨⟨b, rfl, hb⟩, hb7⟩; have HB := Lib.hid hb; clear hb))
        all_goals first | exact ⟨⟨k + 1, hkm, by go_num, b_go (b_go (b_go HBT.out hb5) hb6) hb7⟩, by simp [intOf]; omega⟩ | (exfalso; have h1 := HZ5.out (HB.out (by assumption)); omega)
      · obtain rfl : k = L.length := by omega
        have HBT := Lib.hid (b_go HBC.out hbe)
        go_wp2
        go_returns
        exact ⟨rfl, HBT.out⟩
  · have hR : ∃ r1 r2 r3, ofR fs fn v = (r1, r2, r3) ∧ r3 ≠ 0 := by
      unfold ofR
      by_cases c1 : (soundV (allV fs) fn).2 = 0
      · rw [if_neg (by simp [c1])]
        cases c2 : (belongV (allV fs) [fn]).find? (fun k => !(canB fs k)) with
        | some k => exact ⟨_, _, _, rfl, by decide⟩
        | none =>
          dsimp only
          rw [if_pos (by
            refine Int.not_le.1 (fun x => hok ⟨c1, c2, x⟩))]
          exact ⟨_, _, _, rfl, by decide⟩
      · rw [if_pos c1]
        exact ⟨_, _, _, rfl, c1⟩
    obtain ⟨r1, r2, r3, hR, hr3⟩ := hR
    rw [hR] at N1
    obtain ⟨S, hS⟩ : ∃ S, soundV (allV fs) fn = S := ⟨_, rfl⟩
    rw [hS] at N2
    obtain ⟨D, hD⟩ : ∃ D, (if S.2 = 0 then d else 0) = D := ⟨_, rfl⟩
    rw [hD] at N2
    obtain ⟨s1, s2⟩ := S
    clear hC hs hm hcap hbig hT hv hok hR hd hS hD
    go_enter Try.func3, Try.ntmps3
    go_wp2_with (first | (go_at_call 8; go_loud (with_reducible refine N1.mono ?_); rintro e w1 ⟨rfl, hbc⟩) | (go_at_call 9; go_loud (with_reducible refine (N2 _ hbc).mono ?_); rintro e w2 ⟨rfl, hb2⟩; have hbc := b_go hbc hb2) | (go_at_call 10; go_loud (with_reducible refine (NA _).mono ?_); rintro e w3 ⟨rfl, hb3⟩; have hbc := b_go hbc hb3))
    go_returns
    exact ⟨rfl, hbc⟩
end Go.Proofs.Ytmnaeoljpajomaa.H
