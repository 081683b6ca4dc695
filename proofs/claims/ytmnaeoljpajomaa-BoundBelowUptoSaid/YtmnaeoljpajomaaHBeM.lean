/- Contract of bound.sound: is what belongs to a code there, and without rings. Condition: all lists together within reach. -/
import Derived.Test.YtmnaeoljpajomaaHBeC
import Derived.Test.YtmnaeoljpajomaaHBeL
namespace Go.Proofs.Ytmnaeoljpajomaa.H
set_option linter.unusedVariables false
set_option linter.unusedSimpArgs false
open Go.RowKit Go.Proofs.Ytmnaeoljpajomaa.Plain Go.Sort
set_option maxHeartbeats 3200000
set_option maxRecDepth 100000
attribute [local go_sem] ext_from ext_bits cell_isSome un_neg_float
theorem c_containsI (B : Nat) (v : Value) (zs : List Int) (x : Int) (w : World) (h : Ints w B v zs) (hsz : zs.length ≤ 140737488355328) : Calls Try.prog 37 #[v, .int .i64 x] w fun e w' => e = .returned (.bool (zs.contains x)) ∧ w' = w := by
  rcases own_parts h with ⟨rfl, rfl⟩ | ⟨g, cap, rfl, h1, h2, h3, h4, h5, h6⟩
  · refine (Try.slices_Contains_int_empty none 0 x w).mono ?_
    rintro e w' ⟨rfl, rfl⟩
    exact ⟨by simp, rfl⟩
  · refine (Try.slices_Contains_int g 0 zs.length cap zs x w (Nat.le_refl _) (by omega) (fun j hj => ?_)).mono ?_
    · rw [Nat.zero_add]
      refine h5 j _ ?_
      rw [List.getElem?_eq_getElem hj, List.getD_eq_getElem?_getD, List.getElem?_eq_getElem hj]
      rfl
    · rintro e w' ⟨rfl, rfl⟩
      rw [List.take_length]
      exact ⟨rfl, rfl⟩
/-- A code's list. -/
def listAt (ls : List (List Int)) (k : Int) : List Int := ls.getD k.toNat []
/-- Does a code call one that is not there? -/
def lostB (ls : List (List Int)) (k : Int) : Bool := (listAt ls k).any (outB ls.length)
/-- Does a code lie in a ring? -/
noncomputable def ringB (ls : List (List Int)) (k : Int) : Bool := (belongV ls (listAt ls k)).contains k
/-- The code at fault, and the error. -/
noncomputable def soundV (ls : List (List Int)) (fn : Int) : Int × Int :=
  if fn < 0 ∨ (ls.length : Int) ≤ fn then (fn, 1) else match (belongV ls [fn]).find? (lostB ls) with
    | some k => (k, 1)
    | none => match (belongV ls [fn]).find? (ringB ls) with
      | some k => (k, 220)
      | none => (0, 0)
/-- A pair of a code and an error is answered. -/
def OutS (e : Ending) (r : Int × Int) : Prop := e = .returned (.tuple #[.int .i64 r.1, .int .i64 r.2])
theorem find_none {l : List Int} {p : Int → Bool} (h : ∀ (j : Nat) z, l[j]? = some z → p z = false) : l.find? p = none := by
  rw [List.find?_eq_none]
  intro x hx
  obtain ⟨i, hi, e⟩ := List.mem_iff_getElem.1 hx
  rw [h i x (by rw [← e]; exact List.getElem?_eq_getElem hi)]
  decide
theorem find_at {l : List Int} {p : Int → Bool} {k : Nat} {z : Int} (hz : l[k]? = some z) (hp : p z = true) (h : ∀ (j : Nat) y, j < k → l[j]? = some y → p y = false) : l.find? p = some z := by
  obtain ⟨hk, e⟩ := List.getElem?_eq_some_iff.1 hz
  rw [List.find?_eq_some_iff_getElem]
  exact ⟨hp, k, hk, e, fun j hj => by rw [h j _ hj (List.getElem?_eq_getElem (by omega))]; rfl⟩
theorem c_sound (Bl : Nat) (v : Value) (ls : List (List Int)) (fn : Int) (w : World) (hL : Lists w Bl v ls) (hn : ls.length ≤ 1048576) (hT : sumA ls ≤ 4194304) :
    Calls Try.prog 22 #[v, .int .i64 fn] w fun e w' => OutS e (soundV ls fn) ∧ Below w.heap.size w w' := by
  obtain ⟨al, cl, rfl, hform⟩ := hL.form
  obtain ⟨n, hln⟩ : ∃ n, ls.length = n := ⟨_, rfl⟩
  rw [hln] at hn ⊢
  obtain ⟨R, hR⟩ : ∃ R, soundV ls fn = R := ⟨_, rfl⟩
  rw [hR]
  unfold soundV at hR
  rw [hln] at hR
  by_cases hout : fn < 0 ∨ (n : Int) ≤ fn
  · rw [if_pos hout] at hR
    subst hR
    clear hL hform
    rcases hout with h | h
    · go_enter Try.func22, Try.ntmps22
      go_wp2
      all_goals go_returns
      all_goals exact ⟨rfl, Below.refl _ _⟩
    · have h2 : ¬ fn < 0 := by omega
      go_enter Try.func22, Try.ntmps22
      go_wp2
      all_goals go_returns
      all_goals exact ⟨rfl, Below.refl _ _⟩
  · rw [if_neg hout] at hR
    have h1 : ¬ fn < 0 := by omega
    have h2 : ¬ (n : Int) ≤ fn := by omega
    have hb1 : ∀ W, Below w.heap.size w W → Lists W Bl (.slice al n cl) ls := fun W hb => by have := hL.go hb; rwa [hln] at this
    have hBel : ∀ (W : World) (Bf : Nat) (vf : Value) (fr : List Int), Below w.heap.size w W → Ints W Bf vf fr → fr.length ≤ 4194304 → Calls Try.prog 23 #[.slice al n cl, vf] W fun e w' => OutI W.heap.size e (belongV ls fr) w' ∧ Below W.heap.size W w' := fun W Bf vf fr hb hI hf => c_belong Bl Bf _ vf ls fr W (hb1 W hb) hI (by omega) (by omega)
    have hmem : ∀ z ∈ belongV ls [fn], 0 ≤ z ∧ z < n := fun z hz => by
      obtain ⟨k, rfl, hk, _⟩ := belongV_mem.1 hz
      omega
    have hmlen : (belongV ls [fn]).length ≤ n := by rw [← hln]; exact belongV_len _ _
    have hLlen : ∀ k, (listAt ls k).length ≤ 4194304 := fun k => by
      unfold listAt
      rw [List.getD_eq_getElem?_getD]
      cases e : ls[k.toNat]? with
      | none => simp
      | some l => have := len_le_sumA ls _ _ e; simp; omega
    have hAt : ∀ (z : Int), 0 ≤ z → z < n → ∃ g a c, al = some ⟨g, 0, none⟩ ∧ g < w.heap.size ∧ w.cell? ⟨g, z.toNat, none⟩ = some (.slice a (listAt ls z).length c) ∧ Ints w 0 (.slice a (listAt ls z).length c) (listAt ls z) := fun z h0 hz => by
      have e : ls[z.toNat]? = some (listAt ls z) := by unfold listAt; rw [List.getD_eq_getElem?_getD, List.getElem?_eq_getElem (by omega)]; rfl
      exact hform z.toNat _ e
    obtain ⟨mine, hmine⟩ : ∃ m, belongV ls [fn] = m := ⟨_, rfl⟩
    rw [hmine] at hR hmem hmlen
    have N1 := hBel (w.alloc (.cells #[.int .i64 fn] 3 (0, 0))) 0 (.slice (some ⟨w.heap.size, 0, none⟩) 1 1) [fn] (b_al (Below.refl _ _) _) (ints_row (zs := [fn]) k_box (Nat.zero_le _) (by simp [maxLen])) (by simp)
    rw [hmine] at N1
    have HR := Lib.hid hR
    have HB := Lib.hid hBel
    have HA := Lib.hid hAt
    have HL := Lib.hid hLlen
    have HM := Lib.hid hmem
    have HLN := Lib.hid hln
    clear hBel hR hL hform hAt hLlen hb1 hmem hout hT hln
    go_enter Try.func22, Try.ntmps22
    go_wp2_with (go_at_call 23; go_loud (with_reducible refine N1.mono ?_); rintro e w1 ⟨⟨v1, rfl, hI1⟩, hb1⟩; obtain ⟨a1, c1, rfl⟩ := own_shape hI1)
    have hbw1 : Below w.heap.size w w1 := b_go (b_al (Below.refl _ _) _) hb1
    have HI1 := Lib.hid hI1
    have HB1 := Lib.hid hbw1
    clear N1 hI1 hb1 hbw1
    go_loopw [26] (fun i wr => ∃ k : Nat, k ≤ mine.length ∧ i = .int .i64 k ∧ (∀ (j : Nat) z, j < k → mine[j]? = some z → lostB ls z = false) ∧ Below w1.heap.size w1 wr) (fun i _ => mine.length - (intOf i).toNat)
    case atStart => exact ⟨0, Nat.zero_le _, rfl, fun j z h => absurd h (by omega), Below.refl _ _⟩
    case round =>
      obtain ⟨k, hk, rfl, hno, hbe⟩ := hrel
      by_cases hkm : k < mine.length
      · obtain ⟨z, hz⟩ : ∃ z, mine[k]? = some z := ⟨_, List.getElem?_eq_getElem hkm⟩
        have hzr := HM.out z (List.mem_of_getElem? hz)
        obtain ⟨g, ga, gc, rfl, hgl, hcl, hIl⟩ := HA.out z hzr.1 hzr.2
        have hbt : Below w.heap.size w wr := b_go HB1.out hbe
        rcases (HI1.out.go hbe).form with ⟨_, rfl⟩ | ⟨g1, c1', he1, _, _, _, hcell⟩
        · simp at hkm
        cases he1
        have hc := hcell k z hz
        have hq := (hbt.cell (p := ⟨g, z.toNat, none⟩) hgl).trans hcl
        obtain ⟨zi, rfl⟩ : ∃ zi : Nat, z = zi := ⟨z.toNat, by omega⟩
        rw [Int.toNat_natCast] at hq
        have hlb : lostB ls zi = (listAt ls zi).any (outB n) := by unfold lostB; rw [HLN.out]
        have N2 := c_thereB 0 _ (listAt ls zi) n wr (hIl.go hbt) (by have := HL.out zi; omega)
        rw [← hlb] at N2
        have hzn : (zi : Int) < n := hzr.2
        have hkI : (k : Int) < mine.length := by omega
        obtain ⟨X, hX⟩ : ∃ X, (listAt ls zi).length = X := ⟨_, rfl⟩
        rw [hX] at hq N2
        have HNO := Lib.hid hno
        have HBT := Lib.hid hbt
        clear hcl hIl hcell hlb hno hX hzr hbt
        rcases Bool.eq_false_or_eq_true (lostB ls zi) with hlo | hlo
        · rw [hlo] at N2
          have hfin : R = ((zi : Int), 1) := by rw [← HR.out, find_at hz hlo HNO.out]
          have HF := Lib.hid hfin
          clear hfin
          go_wp2_with (go_at_call 32; go_loud (with_reducible refine N2.mono ?_); rintro e w2 ⟨rfl, hb2⟩)
          go_returns
          exact ⟨by rw [HF.out]; rfl, b_go HBT.out hb2⟩
        · rw [hlo] at N2
          go_wp2_with (go_at_call 32; go_loud (with_reducible refine N2.mono ?_); rintro e w2 ⟨rfl, hb2⟩)
          go_roundw
          case rel =>
            refine ⟨k + 1, hkm, by go_num, fun j y hj hy => ?_, b_go hbe hb2⟩
            rcases Nat.lt_or_ge j k with c | c
            · exact HNO.out j y c hy
            · obtain rfl : j = k := by omega
              rw [hz] at hy
              cases hy
              exact hlo
          case measure => first | exact meas_next hkm | (simp [intOf]; omega)
      · obtain rfl : k = mine.length := by omega
        have hnone : mine.find? (lostB ls) = none := find_none (fun j z hz => hno j z (List.getElem?_eq_some_iff.1 hz).1 hz)
        have hR2 := HR.out
        rw [hnone] at hR2
        simp only at hR2
        have HR2 := Lib.hid hR2
        obtain ⟨wa, hwa⟩ : ∃ x, x = wr := ⟨_, rfl⟩
        subst hwa
        have HBE := Lib.hid hbe
        clear hno hnone hR2 hbe
        go_wp2_with fail
        go_loopw [42] (fun i wr => ∃ k : Nat, k ≤ mine.length ∧ i = .int .i64 k ∧ (∀ (j : Nat) z, j < k → mine[j]? = some z → ringB ls z = false) ∧ Below w1.heap.size w1 wr) (fun i _ => mine.length - (intOf i).toNat)
        case atStart => exact ⟨0, Nat.zero_le _, rfl, fun j z h => absurd h (by omega), HBE.out⟩
        case round =>
          obtain ⟨k, hk, rfl, hno, hbe⟩ := hrel
          by_cases hkm : k < mine.length
          · obtain ⟨z, hz⟩ : ∃ z, mine[k]? = some z := ⟨_, List.getElem?_eq_getElem hkm⟩
            have hzr := HM.out z (List.mem_of_getElem? hz)
            obtain ⟨g, ga, gc, rfl, hgl, hcl, hIl⟩ := HA.out z hzr.1 hzr.2
            have hbt : Below w.heap.size w wr := b_go HB1.out hbe
            rcases (HI1.out.go hbe).form with ⟨_, rfl⟩ | ⟨g1, c1', he1, _, _, _, hcell⟩
            · simp at hkm
            cases he1
            have hc := hcell k z hz
            have hq := (hbt.cell (p := ⟨g, z.toNat, none⟩) hgl).trans hcl
            obtain ⟨zi, rfl⟩ : ∃ zi : Nat, z = zi := ⟨z.toNat, by omega⟩
            rw [Int.toNat_natCast] at hq
            have N2 := HB.out wr 0 _ (listAt ls zi) hbt (hIl.go hbt) (HL.out zi)
            have hbl : (belongV ls (listAt ls zi)).length ≤ 140737488355328 := by have := belongV_len ls (listAt ls zi); have := HLN.out; omega
            have hrb : ringB ls zi = (belongV ls (listAt ls zi)).contains (zi : Int) := rfl
            have N3 := fun B v W h => c_containsI B v (belongV ls (listAt ls zi)) zi W h hbl
            rw [← hrb] at N3
            have hzn : (zi : Int) < n := hzr.2
            have hkI : (k : Int) < mine.length := by omega
            obtain ⟨X, hX⟩ : ∃ X, (listAt ls zi).length = X := ⟨_, rfl⟩
            rw [hX] at hq N2
            have HNO := Lib.hid hno
            have HBT := Lib.hid hbt
            clear hcl hIl hcell hrb hno hX hzr hbt hbl
            rcases Bool.eq_false_or_eq_true (ringB ls zi) with hlo | hlo
            · rw [hlo] at N3
              have hfin : R = ((zi : Int), 220) := by rw [← HR2.out, find_at hz hlo HNO.out]
              have HF := Lib.hid hfin
              clear hfin
              go_wp2_with (first | (go_at_call 23; go_loud (with_reducible refine N2.mono ?_); rintro e w2 ⟨⟨v2, rfl, hI2⟩, hb2⟩) | (go_at_call 37; go_loud (with_reducible refine (N3 _ _ _ hI2).mono ?_); rintro e w3 ⟨rfl, rfl⟩))
              go_returns
              exact ⟨by rw [HF.out]; rfl, b_go HBT.out hb2⟩
            · rw [hlo] at N3
              go_wp2_with (first | (go_at_call 23; go_loud (with_reducible refine N2.mono ?_); rintro e w2 ⟨⟨v2, rfl, hI2⟩, hb2⟩) | (go_at_call 37; go_loud (with_reducible refine (N3 _ _ _ hI2).mono ?_); rintro e w3 ⟨rfl, rfl⟩))
              go_roundw
              case rel =>
                refine ⟨k + 1, hkm, by go_num, fun j y hj hy => ?_, b_go hbe hb2⟩
                rcases Nat.lt_or_ge j k with c | c
                · exact HNO.out j y c hy
                · obtain rfl : j = k := by omega
                  rw [hz] at hy
                  cases hy
                  exact hlo
              case measure => first | exact meas_next hkm | (simp [intOf]; omega)
          · obtain rfl : k = mine.length := by omega
            have hnone : mine.find? (ringB ls) = none := find_none (fun j z hz => hno j z (List.getElem?_eq_some_iff.1 hz).1 hz)
            have hR3 := HR2.out
            rw [hnone] at hR3
            simp only at hR3
            have HR3 := Lib.hid hR3
            have HBE2 := Lib.hid hbe
            clear hno hnone hR3 hbe
            go_wp2_with fail
            go_returns
            exact ⟨by rw [← HR3.out]; rfl, b_go HB1.out HBE2.out⟩
end Go.Proofs.Ytmnaeoljpajomaa.H
