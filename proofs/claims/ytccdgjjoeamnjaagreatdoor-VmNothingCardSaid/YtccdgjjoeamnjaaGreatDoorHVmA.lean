/- Contracts for VmNothing: what cells begin with, of the document. Conditions: bits are 64, and sizes lie within reach. -/
import Derived.Test.YtccdgjjoeamnjaaGreatDoorHMay
import Derived.Test.YtccdgjjoeamnjaaGreatDoorHVmP
import Derived.WalkSmall
import Derived.Handy
import Derived.OwnWalk
import Derived.Laws.OwnMore
import Derived.Laws.AppendOwnNone
import Derived.Deep.RegionHeld3
import Derived.Deep.QuietTactic
import Derived.BigQuiet
namespace Go.Proofs.YtccdgjjoeamnjaaGreatDoor.H
set_option linter.unusedVariables false
set_option linter.unusedSimpArgs false
open Go.RowKit Go.Proofs.YtccdgjjoeamnjaaGreatDoor.Plain
set_option maxHeartbeats 3200000
set_option maxRecDepth 100000
attribute [local go_sem] ext_from ext_bits cell_isSome un_neg_float
theorem own_below {B : Nat} {e : TypeId} {k : Nat} {v : Value} {n : Nat} {xs : List Value} {w w' : World} (h : w.ownsRow B e k v n xs) (hb : Below w.heap.size w w') : w'.ownsRow B e k v n xs := by
  obtain ⟨h1, h2⟩ := h
  refine ⟨h1, ?_⟩
  rcases h2 with h2 | ⟨g, cap, cur, e1, e2, e3, e4⟩
  · exact .inl h2
  · exact .inr ⟨g, cap, cur, e1, e2, k_go e3 hb, e4⟩
theorem add_blk (a : Addr) (m : Nat) : (a.add m).block = a.block := by unfold Addr.add; split <;> rfl
theorem add_at (a : Addr) (m j : Nat) (hj : 1 ≤ j) : a.add (m + j) = ⟨(a.add m).block, (a.add m).off + j, none⟩ := by
  unfold Addr.add
  rw [if_neg (by omega)]
  by_cases h : m = 0
  · subst h; simp
  · rw [if_neg h]; simp [Nat.add_assoc]
/-- A row of cells in memory. -/
structure CellsAt (w : World) (a : Addr) (ds : List CellD) : Prop where
  cell : ∀ i d, ds[i]? = some d → ∀ j u, d.row[j]? = some u → w.cell? (a.add (i * 11 + j)) = some u
  lt : ds ≠ [] → a.block < w.heap.size
theorem CellsAt.go {w w' : World} {a : Addr} {ds : List CellD} (h : CellsAt w a ds) (hb : Below w.heap.size w w') : CellsAt w' a ds :=
  ⟨fun i d hd j u hu => (hb.cell (p := a.add (i * 11 + j)) (by rw [add_blk]; exact h.lt (by rintro rfl; simp at hd))).trans (h.cell i d hd j u hu), fun hn => Nat.lt_of_lt_of_le (h.lt hn) hb.size⟩
theorem r_Zero (k : Int) (w : World) : Calls Tryz.prog 11 #[.int .u8 k] w fun e w' => e = .returned (.agg #[.int .u8 (zeroV k).1, .int .u64 (zeroV k).2.1, .string (zeroV k).2.2]) ∧ Below w.heap.size w w' := by
  go_enter Tryz.func11, Tryz.ntmps11
  go_wp2_with (first | (go_at_call 19; with_reducible refine (r_elem _ _).mono ?_; rintro e w' ⟨rfl, rfl⟩))
  all_goals
    (refine bodyPost_ret (v := .agg #[.int .u8 (zeroV k).1, .int .u64 (zeroV k).2.1, .string (zeroV k).2.2]) ?_ rfl ⟨rfl, by (repeat (first | exact Below.refl _ _ | apply b_al | (refine b_st ?_ ?hg _; case hg => omega) | (refine b_go ?_ (by assumption))))⟩
     simp only [Bool.not_eq_true', Bool.not_eq_false', elB, decide_eq_true_eq, decide_eq_false_iff_not] at *
     simp [results, Tryz.results11, go_sem, zeroV, *])
theorem r_kept (d : CellD) (k b : Int) (t : ByteArray) (h0 : 0 ≤ b) (h1 : b < 18446744073709551616) (w : World) :
    Calls Tryz.prog 10 #[.agg #[.int .u8 d.k, .bool d.sb, .int .i64 d.lo, .int .i64 d.hi, .int .i64 d.mx, .int .u8 d.ik, .int .u64 d.ib, .string d.it, .bool d.kp, .int .i64 d.dir, .string d.ad], .agg #[.int .u8 k, .int .u64 b, .string t]] w fun e w' => e = .returned (.bool (keptB d.k (k, b, t))) ∧ Below w.heap.size w w' := by
  have N1 := fun W x => r_May x b t h0 h1 W
  clear h0 h1
  obtain ⟨ck, sb, lo, hi, mx, ik, ib, it, kp, dir, ad⟩ := d
  go_enter Tryz.func10, Tryz.ntmps10
  go_wp2_with (first | (go_at_call 18; with_reducible refine (N1 _ _).mono ?_; rintro e w1 ⟨rfl, hb⟩))
  all_goals
    (go_ret
     refine ⟨ret_bool ?_, by (repeat (first | exact Below.refl _ _ | apply b_al | (refine b_st ?_ ?hg _; case hg => omega) | (refine b_go ?_ (by assumption))))⟩
     (try clear N1 hb)
     subst_vars
     simp [keptB, *])
theorem take_step {ds : List CellD} {k : Nat} {d : CellD} (hd : ds[k]? = some d) : flat ((ds.take (k + 1)).map initV) = flat ((ds.take k).map initV) ++ vcells (initV d) := by
  rw [List.take_add_one, hd]
  simp [flat_app, flat_one]
theorem three_at (W : World) (v : Val) (T : TypeId) : ∀ j u, (vcells v)[j]? = some u → (W.alloc (.cells #[.int .u8 v.1, .int .u64 v.2.1, .string v.2.2] T)).cell? ((⟨W.heap.size, 0, none⟩ : Addr).add j) = some u := by
  intro j u hj
  match j, hj with
  | 0, hj => simp [vcells] at hj; subst hj; exact (k_cell (k_new rfl) 0).trans rfl
  | 1, hj => simp [vcells] at hj; subst hj; exact (k_cell (k_new rfl) 1).trans rfl
  | 2, hj => simp [vcells] at hj; subst hj; exact (k_cell (k_new rfl) 2).trans rfl
theorem vcells_one (v : Val) : ∀ u ∈ vcells v, u.oneCell' = true := by
  intro u hu
  simp [vcells] at hu
  rcases hu with rfl | rfl | rfl <;> rfl
theorem r_Start (ao : Option Addr) (n c : Nat) (ds : List CellD) (w : World) (hn : ds.length = n) (h0 : ao = none → n = 0) (hc : ∀ a, ao = some a → CellsAt w a ds) (hok : ∀ d ∈ ds, OkD d) (hbig : n * 96 ≤ 140737488355328) :
    Calls Tryz.prog 4 #[.slice ao n c] w fun e w' => ∃ v, e = .returned v ∧ w'.ownsRow w.heap.size 28 3 v n (flat (ds.map initV)) ∧ Below w.heap.size w w' := by
  go_enter Tryz.func4, Tryz.ntmps4
  go_wp2_with fail
  obtain ⟨i0, hi, hz0, hz1, hz2⟩ := info_parts (show (Tryz.prog.info? 28).map (fun i => (i.zero, i.size, i.bytes)) = some (some (.agg #[.int .u8 0, .int .u64 0, .string ⟨#[]⟩]), 3, 32) by kernel_rfl)
  go_loopw [3, 8] (fun v i wr => ∃ k : Nat, k ≤ n ∧ i = .int .i64 k ∧ wr.ownsRow w.heap.size 28 3 v k (flat ((ds.take k).map initV)) ∧ Below w.heap.size w wr) (fun _ i _ => n - (intOf i).toNat)
  case atStart => exact ⟨0, Nat.zero_le _, rfl, by simpa [flat] using World.ownsRow_nil _ _ _ _, Below.refl _ _⟩
  case round =>
    obtain ⟨k, hk, rfl, hown, hbel⟩ := hrel
    by_cases hkn : k < n
    · rcases ao with _ | a
      · exact absurd (h0 rfl) (by omega)
      have HC := (hc a rfl).go hbel
      obtain ⟨d, hd⟩ : ∃ d, ds[k]? = some d := ⟨_, List.getElem?_eq_getElem (by omega)⟩
      have hcell := HC.cell k d hd
      have q0 := hcell 0 _ rfl
      rw [Nat.add_zero] at q0
      have q1 := hcell 1 _ rfl
      rw [add_at a _ 1 (by decide)] at q1
      have q2 := hcell 2 _ rfl
      rw [add_at a _ 2 (by decide)] at q2
      have q3 := hcell 3 _ rfl
      rw [add_at a _ 3 (by decide)] at q3
      have q4 := hcell 4 _ rfl
      rw [add_at a _ 4 (by decide)] at q4
      have q5 := hcell 5 _ rfl
      rw [add_at a _ 5 (by decide)] at q5
      have q6 := hcell 6 _ rfl
      rw [add_at a _ 6 (by decide)] at q6
      have q7 := hcell 7 _ rfl
      rw [add_at a _ 7 (by decide)] at q7
      have q8 := hcell 8 _ rfl
      rw [add_at a _ 8 (by decide)] at q8
      have q9 := hcell 9 _ rfl
      rw [add_at a _ 9 (by decide)] at q9
      have q10 := hcell 10 _ rfl
      rw [add_at a _ 10 (by decide)] at q10
      clear hcell hc
      have hdok := hok d (List.mem_of_getElem? hd)
      have hz : w.heap.size ≤ wr.heap.size := hbel.size
      rcases Bool.eq_false_or_eq_true (keptB d.k (d.ik, d.ib, d.it)) with hkp | hkp
      · have NK : ∀ W, Calls Tryz.prog 10 _ W fun e w' => e = .returned (.bool true) ∧ Below W.heap.size W w' := fun W => hkp ▸ r_kept d d.ik d.ib d.it hdok.1 hdok.2 W
        have hiv : initV d = (d.ik, d.ib, d.it) := by simp [initV, CellD.init, hkp]
        have HIV := Lib.hid hiv
        clear hiv hkp hdok
        go_wp2_with (first | (go_at_call 10; with_reducible refine (NK _).mono ?_; rintro e w1 ⟨rfl, hb1⟩; obtain ⟨hc1, hf1⟩ := bcell hb1) | (at_builtin; refine wpList_append_own _ rfl _ _ 23 rfl w.heap.size 28 i0 _ 3 32 Tryz.underlying23 hi hz0 hz1 hz2 rfl (by decide) _ _ _ rfl ((own_below (hown.alloc _) hb1).alloc _) ⟨w1.heap.size, 0, none⟩ 1 1 (vcells (d.ik, d.ib, d.it)) rfl rfl (three_at w1 (d.ik, d.ib, d.it) _) (vcells_one _) (by unfold maxLen; omega) (by omega) (by have h1 := hbel.size; have h2 := hb1.size; (try have h3 := hb2.size); simp at h2 ⊢; omega) ?_; intro v' w3 hown' hgrow hnil))
        have hiv := HIV.out
        go_wp2
        go_roundw
        case rel =>
          refine ⟨k + 1, by omega, by go_num, ?_, ?_⟩
          · rw [take_step hd, hiv]; exact hown'
          · refine Below.grown (row := u3.ownBlock) (by repeat (first | exact hbel | with_reducible apply b_al | with_reducible refine b_go ?_ (by assumption))) hgrow (by have h1 := hbel.size; have h2 := hb1.size; (try have h3 := hb2.size); simp at h2 ⊢; omega) (fun g hg => (hown.lt g hg).1)
        case measure => simp [intOf]; omega
      · have NK : ∀ W, Calls Tryz.prog 10 _ W fun e w' => e = .returned (.bool false) ∧ Below W.heap.size W w' := fun W => hkp ▸ r_kept d d.ik d.ib d.it hdok.1 hdok.2 W
        by_cases h20 : d.k = 20
        · have hiv : initV d = (20, 0, ⟨#[]⟩) := by unfold initV; rw [if_neg (by simp [CellD.init, hkp]), if_pos h20]
          have HIV := Lib.hid hiv
          have hb20 : (d.k == 20) = true := by simpa using h20
          clear hiv hkp hdok h20
          go_wp2_with (first | (go_at_call 10; with_reducible refine (NK _).mono ?_; rintro e w1 ⟨rfl, hb1⟩; obtain ⟨hc1, hf1⟩ := bcell hb1) | (at_builtin; refine wpList_append_own _ rfl _ _ 23 rfl w.heap.size 28 i0 _ 3 32 Tryz.underlying23 hi hz0 hz1 hz2 rfl (by decide) _ _ _ rfl ((own_below (hown.alloc _) hb1).alloc _) ⟨w1.heap.size, 0, none⟩ 1 1 (vcells ((20, 0, ⟨#[]⟩))) rfl rfl (three_at w1 ((20, 0, ⟨#[]⟩)) _) (vcells_one _) (by unfold maxLen; omega) (by omega) (by have h1 := hbel.size; have h2 := hb1.size; (try have h3 := hb2.size); simp at h2 ⊢; omega) ?_; intro v' w3 hown' hgrow hnil))
          have hiv := HIV.out
          go_wp2
          go_roundw
          case rel =>
            refine ⟨k + 1, by omega, by go_num, ?_, ?_⟩
            · rw [take_step hd, hiv]; exact hown'
            · refine Below.grown (row := u3.ownBlock) (by repeat (first | exact hbel | with_reducible apply b_al | with_reducible refine b_go ?_ (by assumption))) hgrow (by have h1 := hbel.size; have h2 := hb1.size; (try have h3 := hb2.size); simp at h2 ⊢; omega) (fun g hg => (hown.lt g hg).1)
          case measure => simp [intOf]; omega
        · have hiv : initV d = zeroV d.k := by unfold initV; rw [if_neg (by simp [CellD.init, hkp]), if_neg h20]
          have HIV := Lib.hid hiv
          have hb20 : (d.k == 20) = false := by simpa using h20
          clear hiv hkp hdok h20
          go_wp2_with (first | (go_at_call 10; with_reducible refine (NK _).mono ?_; rintro e w1 ⟨rfl, hb1⟩; obtain ⟨hc1, hf1⟩ := bcell hb1) | (go_at_call 11; with_reducible refine (r_Zero _ _).mono ?_; rintro e w2 ⟨rfl, hb2⟩) | (at_builtin; refine wpList_append_own _ rfl _ _ 23 rfl w.heap.size 28 i0 _ 3 32 Tryz.underlying23 hi hz0 hz1 hz2 rfl (by decide) _ _ _ rfl ((own_below (own_below (hown.alloc _) hb1) hb2).alloc _) ⟨w2.heap.size, 0, none⟩ 1 1 (vcells (zeroV d.k)) rfl rfl (three_at w2 (zeroV d.k) _) (vcells_one _) (by unfold maxLen; omega) (by omega) (by have h1 := hbel.size; have h2 := hb1.size; (try have h3 := hb2.size); simp at h2 ⊢; omega) ?_; intro v' w3 hown' hgrow hnil))
          have hiv := HIV.out
          go_wp2
          go_roundw
          case rel =>
            refine ⟨k + 1, by omega, by go_num, ?_, ?_⟩
            · rw [take_step hd, hiv]; exact hown'
            · refine Below.grown (row := u3.ownBlock) (by repeat (first | exact hbel | with_reducible apply b_al | with_reducible refine b_go ?_ (by assumption))) hgrow (by have h1 := hbel.size; have h2 := hb1.size; (try have h3 := hb2.size); simp at h2 ⊢; omega) (fun g hg => (hown.lt g hg).1)
          case measure => simp [intOf]; omega
    · obtain rfl : k = n := by omega
      clear hc
      go_wp2
      go_ret
      refine ⟨_, rfl, ?_, hbel⟩
      rw [List.take_of_length_le (by omega)] at hown
      exact hown
end Go.Proofs.YtccdgjjoeamnjaaGreatDoor.H
