/- Contract of bound.Of: the most instructions of a run of a code, or the error. Condition: sizes within reach; so many steps of reckoning suffice. -/
import Derived.Test.YtmnaeoljpajomaaHBeP
namespace Go.Proofs.Ytmnaeoljpajomaa.H
set_option linter.unusedVariables false
set_option linter.unusedSimpArgs false
open Go.RowKit Go.Proofs.Ytmnaeoljpajomaa.Plain Go.Sort Go.Maps
set_option maxHeartbeats 3200000
set_option maxRecDepth 100000
attribute [local go_sem] ext_from ext_bits cell_isSome un_neg_float
theorem mem_callsV {ops : List OpD} {x : Int} : x ∈ callsV ops ↔ ∃ o ∈ ops, o.code = 18 ∧ o.b = x := by
  rw [calls_same]
  unfold docCalls
  rw [(fold_ins (callsOf ops) [] List.Pairwise.nil).2 x]
  unfold callsOf
  constructor
  · rintro (h | h)
    · cases h
    · obtain ⟨o, ho, e⟩ := List.mem_map.1 h
      obtain ⟨h1, h2⟩ := List.mem_filter.1 ho
      exact ⟨o, h1, by simpa using h2, e⟩
  · rintro ⟨o, h1, h2, e⟩
    exact .inr (List.mem_map.2 ⟨o, List.mem_filter.2 ⟨h1, by simp [h2]⟩, e⟩)
open Classical in
noncomputable def canB (fs : List FlatD) (k : Int) : Bool := match fs[k.toNat]? with
  | some f => decide (CanF f)
  | none => false
open Classical in
theorem canB_at {fs : List FlatD} {j : Nat} {f : FlatD} (h : fs[j]? = some f) : canB fs (j : Int) = true ↔ CanF f := by
  unfold canB
  rw [Int.toNat_natCast, h]
  simp
/-- What Of answers, its number being v. -/
noncomputable def ofR (fs : List FlatD) (fn v : Int) : Int × Int × Int :=
  if (soundV (allV fs) fn).2 ≠ 0 then (0, (soundV (allV fs) fn).1, (soundV (allV fs) fn).2) else match (belongV (allV fs) [fn]).find? (fun k => !(canB fs k)) with
    | some k => (0, k, 220)
    | none => if v > 1048576 then (0, fn, 241) else (v, 0, 0)
/-- So many steps of reckoning suffice. -/
def Reckons (fs : List FlatD) (fn v : Int) : Prop := (soundV (allV fs) fn).2 = 0 → (belongV (allV fs) [fn]).find? (fun k => !(canB fs k)) = none → ∃ K, ofV fs K fn.toNat = some v
theorem good_of {fs : List FlatD} {fn : Nat} (hm : ∀ f ∈ fs, Modest f) (hs : (soundV (allV fs) fn).2 = 0) (hc : (belongV (allV fs) [(fn : Int)]).find? (fun k => !(canB fs k)) = none) : GoodS fs (fun j => Reach (allV fs) [(fn : Int)] j) ∧ Reach (allV fs) [(fn : Int)] fn := by
  obtain ⟨s1, s2, s3, s4, s5⟩ := sound_ok hs
  have hfn : Reach (allV fs) [(fn : Int)] fn := .base (by simp) (by omega)
  refine ⟨⟨fun j hj => ?_⟩, hfn⟩
  have hjl : j < (allV fs).length := hj.lt
  rw [allV_len] at hjl
  have hf : fs[j]? = some fs[j] := List.getElem?_eq_getElem hjl
  have hjm : (j : Int) ∈ belongV (allV fs) [(fn : Int)] := belongV_mem.2 ⟨j, rfl, hj.lt, hj⟩
  have hcan : canB fs j = true := by
    have := find_no hc j hjm
    simpa using this
  refine ⟨fs[j], hf, (canB_at hf).1 hcan, hm _ (List.getElem_mem hjl), fun o ho h18 hb => ?_⟩
  have hlo := s4 j hjm
  have hl : (allV fs)[j]? = some (callsV fs[j].ops) := by simp [allV, hf]
  have hlist : listAt (allV fs) (j : Int) = callsV fs[j].ops := by
    unfold listAt
    rw [Int.toNat_natCast, List.getD_eq_getElem?_getD, hl]
    rfl
  unfold lostB at hlo
  rw [hlist, List.any_eq_false] at hlo
  have hmem : o.b ∈ callsV fs[j].ops := mem_callsV.2 ⟨o, ho, h18, rfl⟩
  have := hlo _ hmem
  simp [outB] at this
  exact .step hj hl (by rw [Int.toNat_of_nonneg hb]; exact hmem) (by omega)
theorem c_Of (ao : Option Addr) (n c : Nat) (fs : List FlatD) (fn v : Int) (w : World) (hC : Codes w ao n fs) (hs : ∀ f ∈ fs, FlatSz f) (hm : ∀ f ∈ fs, Modest f) (hcap : ∀ f ∈ fs, f.ln ≤ f.lc) (hbig : n ≤ 1048576) (hT : sumA (allV fs) ≤ 4194303) (hv : Reckons fs fn v) :
    Calls Try.prog 8 #[.slice ao n c, .int .i64 fn] w fun e w' => Out3 e (ofR fs fn v).1 (ofR fs fn v).2.1 (ofR fs fn v).2.2 ∧ Below w.heap.size w w' := by
  have N1 := c_calls ao n c fs w hC hs (by omega)
  have hln : (allV fs).length = n := by rw [allV_len, hC.1]
  have N2 := fun B v W hL => c_sound B v (allV fs) fn W hL (by omega) (by omega)
  have N3 := fun (B Bf : Nat) v vf W hL hI => c_belong B Bf v vf (allV fs) [fn] W hL hI (by omega) (by simp; omega)
  obtain ⟨Rr, hRr⟩ : ∃ r, ofR fs fn v = r := ⟨_, rfl⟩
  rw [hRr]
  unfold ofR at hRr
  obtain ⟨S, hS⟩ : ∃ r, soundV (allV fs) fn = r := ⟨_, rfl⟩
  rw [hS] at N2 hRr
  have hmm := @run_makeMap Try.prog
  obtain ⟨s1, s2⟩ := S
  simp only at hRr
  have HC := Lib.hid hC
  have HM := Lib.hid hm
  have HCAP := Lib.hid hcap
  have HS := Lib.hid hS
  have HV := Lib.hid hv
  have HLN := Lib.hid hln
  clear hC hs hm hcap hT hS hv hln
  by_cases he : s2 = 0
  · subst he
    rw [if_neg (by simp)] at hRr
    have hso := sound_ok (ls := allV fs) (fn := fn) (by rw [HS.out])
    rw [HS.out] at hso
    obtain ⟨h0, h1, rfl, h4, h5⟩ := hso
    obtain ⟨j, rfl⟩ : ∃ j : Nat, fn = j := ⟨fn.toNat, by omega⟩
    have hmine : ∀ z ∈ belongV (allV fs) [(j : Int)], ∃ k : Nat, z = k ∧ k < n := fun z hz => by
      obtain ⟨k, rfl, hk, _⟩ := belongV_mem.1 hz
      exact ⟨k, rfl, by rw [← HLN.out]; exact hk⟩
    have hml : (belongV (allV fs) [(j : Int)]).length ≤ n := by rw [← HLN.out]; exact belongV_len _ _
    have HR := Lib.hid hRr
    obtain ⟨mine, hmi⟩ : ∃ m, belongV (allV fs) [(j : Int)] = m := ⟨_, rfl⟩
    have HMI := Lib.hid hmi
    rw [hmi] at N3 hmine hml
    have HMN := Lib.hid hmine
    clear h4 h5 hRr hmine hmi h0 h1
    go_enter Try.func8, Try.ntmps8
    go_wp2_with (first | (go_at_call 21; go_loud (with_reducible refine N1.mono ?_); rintro e w1 ⟨⟨v1, rfl, hL⟩, hb1⟩) | (go_at_call 22; go_loud (with_reducible refine (N2 _ v1 _ hL).mono ?_); rintro e w2 ⟨rfl, hb2⟩; have N4 := N3 w.heap.size 0 v1 (.slice (some ⟨w2.heap.size, 0, none⟩) 1 1) (w2.alloc (.cells #[.int .i64 j] 3 (0, 0))) (hL.go (b_al hb2 _)) (ints_row (zs := [(j : Int)]) k_box (Nat.zero_le _) (by simp [maxLen]))) | (go_at_call 23; go_loud (with_reducible refine N4.mono ?_); rintro e w3 ⟨⟨v3, rfl, hI3⟩, hb3⟩; obtain ⟨a3, c3, rfl⟩ := own_shape hI3))
    have hbw3 : Below w.heap.size w w3 := b_go (b_al (b_go hb1 hb2) _) hb3
    have HI3 := Lib.hid hI3
    have HB3 := Lib.hid hbw3
    clear N1 N2 N3 N4 hL hb1 hb2 hb3 hI3 hbw3
    go_loopw [30] (fun i wr => ∃ k : Nat, k ≤ mine.length ∧ i = .int .i64 k ∧ (∀ (j' : Nat) z, j' < k → mine[j']? = some z → (!(canB fs z)) = false) ∧ Below w3.heap.size w3 wr) (fun i _ => mine.length - (intOf i).toNat)
    case atStart => exact ⟨0, Nat.zero_le _, rfl, fun j' z h => absurd h (by omega), Below.refl _ _⟩
    case round =>
      obtain ⟨k, hk, rfl, hno, hbe⟩ := hrel
      by_cases hkm : k < mine.length
      · obtain ⟨z, hz⟩ : ∃ z, mine[k]? = some z := ⟨_, List.getElem?_eq_getElem hkm⟩
        obtain ⟨zi, rfl, hzn⟩ := HMN.out z (List.mem_of_getElem? hz)
        rcases (HI3.out.go hbe).form with ⟨_, rfl⟩ | ⟨g1, c1', he1, _, _, _, hcell⟩
        · simp at hkm
        cases he1
        have hc := hcell k _ hz
        have hbt := b_go HB3.out hbe
        have hCr := HC.out.go hbt
        have hfl := hCr.1
        obtain ⟨f, hf⟩ : ∃ f, fs[zi]? = some f := ⟨_, List.getElem?_eq_getElem (by omega)⟩
        have hfm := List.mem_of_getElem? hf
        obtain ⟨ca, hca⟩ : ∃ a, ao = some a := by
          cases e : ao with
          | none => exact absurd (hCr.2.1.2.1 e) (by omega)
          | some a => exact ⟨a, rfl⟩
        subst hca
        have hS := hCr.2.1
        have z0 := hS.at0 FlatD.len hf rfl
        have z1 := hS.atS FlatD.len hf (j := 1) (by decide) rfl
        have z2 := hS.atS FlatD.len hf (j := 2) (by decide) rfl
        have z3 := hS.atS FlatD.len hf (j := 3) (by decide) rfl
        have z4 := hS.atS FlatD.len hf (j := 4) (by decide) rfl
        have z5 := hS.atS FlatD.len hf (j := 5) (by decide) rfl
        have z6 := hS.atS FlatD.len hf (j := 6) (by decide) rfl
        have z7 := hS.atS FlatD.len hf (j := 7) (by decide) rfl
        have NC : Calls Try.prog 24 #[f.val] wr fun e w' => e = .returned (.bool (canB fs zi)) ∧ Below wr.heap.size wr w' := (c_can f wr (hCr.2.2 f hfm) (HM.out f hfm) (HCAP.out f hfm)).mono fun e w' ⟨⟨b, he, hb⟩, hbl⟩ => ⟨by
          rw [he]
          have h2 := canB_at hf
          cases b <;> cases hx : canB fs (zi : Int) <;> simp_all, hbl⟩
        have hznI : (zi : Int) < n := by omega
        have hkI : (k : Int) < mine.length := by omega
        have HNO := Lib.hid hno
        have HBT := Lib.hid hbt
        clear hcell hCr hS hno hbt hf
        rcases Bool.eq_false_or_eq_true (canB fs zi) with hb | hb
        · rw [hb] at NC
          go_wp2_with (go_at_call 24; go_loud (with_reducible refine NC.mono ?_); rintro e w4 ⟨rfl, hb4⟩)
          go_roundw
          case rel =>
            refine ⟨k + 1, hkm, by go_num, fun j' y hj' hy => ?_, b_go hbe hb4⟩
            rcases Nat.lt_or_ge j' k with c | c
            · exact HNO.out j' y c hy
            · obtain rfl : j' = k := by omega
              rw [hz] at hy
              cases hy
              rw [hb]
              rfl
          case measure => first | exact meas_next hkm | (simp [intOf]; omega)
        · rw [hb] at NC
          have hfin : Rr = (0, (zi : Int), 220) := by
            have h := HR.out
            rw [HMI.out, find_at hz (by rw [hb]; rfl) HNO.out] at h
            exact h.symm
          have HF := Lib.hid hfin
          clear hfin
          go_wp2_with (go_at_call 24; go_loud (with_reducible refine NC.mono ?_); rintro e w4 ⟨rfl, hb4⟩)
          go_returns
          exact ⟨by rw [HF.out]; rfl, b_go HBT.out hb4⟩
      · obtain rfl : k = mine.length := by omega
        have hnone : mine.find? (fun k => !(canB fs k)) = none := find_none (fun j' z hz => hno j' z (List.getElem?_eq_some_iff.1 hz).1 hz)
        have hR2 := HR.out
        rw [HMI.out, hnone] at hR2
        simp only at hR2
        obtain ⟨K, hK⟩ := HV.out (by rw [HS.out]) (by rw [HMI.out]; exact hnone)
        rw [Int.toNat_natCast] at hK
        have hbt := b_go HB3.out hbe
        have hCr := HC.out.go hbt
        have hgood := good_of HM.out (by rw [HS.out]) (by rw [HMI.out]; exact hnone)
        have NO := of_all ⟨fs, ao, n, c, wr, wr.heap.size⟩ _ hgood.1 hbig K j v hgood.2 hK (wr.alloc (.map #[] 0)) ⟨b_al (Below.refl _ _) _, Nat.le_refl _, hCr, memo_made _ _ _ _⟩
        have hvr := ofV_range K j v hK
        unfold H40 at hvr
        have HR2 := Lib.hid hR2
        have HBT := Lib.hid hbt
        clear hno hnone hR2 hbe hbt hCr hK hgood
        by_cases hg : v > 1048576
        · have hfin : Rr = (0, (j : Int), 241) := by have h := HR2.out; rw [if_pos hg] at h; exact h.symm
          have HF := Lib.hid hfin
          clear hfin
          go_wp2_with (go_at_call 25; go_loud (with_reducible refine NO.mono ?_); rintro e w5 ⟨rfl, hJ5, hb5⟩)
          go_returns
          exact ⟨by rw [HF.out]; rfl, HBT.out.trans (hJ5.bel.mono HBT.out.size)⟩
        · have hfin : Rr = (v, 0, 0) := by have h := HR2.out; rw [if_neg hg] at h; exact h.symm
          have HF := Lib.hid hfin
          clear hfin
          go_wp2_with (go_at_call 25; go_loud (with_reducible refine NO.mono ?_); rintro e w5 ⟨rfl, hJ5, hb5⟩)
          go_returns
          exact ⟨by rw [HF.out]; rfl, HBT.out.trans (hJ5.bel.mono HBT.out.size)⟩
  · rw [if_pos (by simpa using he)] at hRr
    subst hRr
    clear N3
    go_enter Try.func8, Try.ntmps8
    go_wp2_with (first | (go_at_call 21; go_loud (with_reducible refine N1.mono ?_); rintro e w1 ⟨⟨v1, rfl, hL⟩, hb1⟩) | (go_at_call 22; go_loud (with_reducible refine (N2 _ v1 _ hL).mono ?_); rintro e w2 ⟨rfl, hb2⟩))
    go_returns
    exact ⟨rfl, b_go hb1 hb2⟩
end Go.Proofs.Ytmnaeoljpajomaa.H
