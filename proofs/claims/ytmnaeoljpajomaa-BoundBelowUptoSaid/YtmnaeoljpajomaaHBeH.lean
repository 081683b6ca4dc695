/- Contract of within: the loop that begins at a place. Condition: the code can be reckoned. -/
import Derived.Test.YtmnaeoljpajomaaHBeG
namespace Go.Proofs.Ytmnaeoljpajomaa.H
set_option linter.unusedVariables false
set_option linter.unusedSimpArgs false
open Go.RowKit Go.Proofs.Ytmnaeoljpajomaa.Plain Go.Sort Go.Maps
set_option maxHeartbeats 3200000
set_option maxRecDepth 100000
attribute [local go_sem] ext_from ext_bits cell_isSome un_neg_float
/-- The loop so far. -/
def withinK (f : FlatD) (p : Int) (l : Option Nat) (k : Nat) : Option Nat := (List.range k).foldl (withinStep f p l) none
theorem withinK_succ (f : FlatD) (p : Int) (l : Option Nat) (k : Nat) : withinK f p l (k + 1) = withinStep f p l (withinK f p l k) k := by
  unfold withinK
  rw [List.range_succ, List.foldl_append]
  rfl
theorem withinK_lt {f : FlatD} {p : Int} {l : Option Nat} {k m : Nat} (h : withinK f p l k = some m) : m < k := (within_lt (m := m) k m h).1
theorem step_skip {f : FlatD} {p : Int} {l out : Option Nat} {k : Nat} (h : skipB f p l k = true) : withinStep f p l out k = out := by unfold withinStep; rw [if_pos h]
theorem step_none {f : FlatD} {p : Int} {l : Option Nat} {k : Nat} (h : skipB f p l k = false) : withinStep f p l none k = some k := by unfold withinStep; rw [if_neg (by rw [h]; decide)]
theorem step_some {f : FlatD} {p : Int} {l : Option Nat} {k o : Nat} (h : skipB f p l k = false) : withinStep f p l (some o) k = if inB f o k then some k else some o := by unfold withinStep; rw [if_neg (by rw [h]; decide)]
theorem skip_head {f : FlatD} {p : Int} {l : Option Nat} {k : Nat} (h : ¬ (loopAt f k).head = p) : skipB f p l k = true := by unfold skipB; simp [h]
theorem skip_none {f : FlatD} {p : Int} {k : Nat} (h : (loopAt f k).head = p) : skipB f p none k = false := by unfold skipB; simp [h]
theorem skip_some {f : FlatD} {p : Int} {k l : Nat} (h : (loopAt f k).head = p) : skipB f p (some l) k = (!(inB f k l) || (l == k)) := by unfold skipB; simp [h]
theorem encL_some (m : Nat) : encL (some m) = m := rfl
theorem enc_small {l : Option Nat} {n : Nat} (hn : n ≤ 1048576) (h : ∀ m, l = some m → m < n) : -1 ≤ encL l ∧ encL l ≤ 1048576 := by
  cases l with
  | none => simp [encL]
  | some m => have := h m rfl; simp [encL]; omega
theorem RJ_cells {cx : Cx} {f : FlatD} {cost : OpD → Option Int} {n : Nat} {w : World} (h : RJ cx f cost n w) : w.cell? ⟨n + 5, 0, none⟩ = some (.string f.name) ∧ w.cell? ⟨n + 5, 1, none⟩ = some (.int .i64 f.what) ∧ w.cell? ⟨n + 5, 2, none⟩ = some (.int .i64 f.cells) ∧ w.cell? ⟨n + 5, 3, none⟩ = some (.int .i64 f.base) ∧ w.cell? ⟨n + 5, 4, none⟩ = some (.int .i64 f.regs) ∧ w.cell? ⟨n + 5, 5, none⟩ = some (.int .i64 f.slots) ∧ w.cell? ⟨n + 5, 6, none⟩ = some (.slice f.ao f.on f.oc) ∧ w.cell? ⟨n + 5, 7, none⟩ = some (.slice f.lo f.ln f.lc) := ⟨k_cv h.blk 0 rfl, k_cv h.blk 1 rfl, k_cv h.blk 2 rfl, k_cv h.blk 3 rfl, k_cv h.blk 4 rfl, k_cv h.blk 5 rfl, k_cv h.blk 6 rfl, k_cv h.blk 7 rfl⟩
theorem c_within (cx : Cx) (f : FlatD) (cost : OpD → Option Int) (n p : Nat) (l : Option Nat) (w : World) (hJ : RJ cx f cost n w) (hz : Modest f) (hp : p ≤ 1048576) (hl : ∀ m, l = some m → m < f.loops.length) :
    Calls Try.prog 55 #[.pointer (some ⟨n + 5, 0, none⟩), .int .i64 p, .int .i64 (encL l)] w fun e w' => e = .returned (.int .i64 (encL (withinV f p l))) ∧ RJ cx f cost n w' ∧ Bar (rS cx n) w w' := by
  have hkey := keyP_of (x := p) (y := encL l) (by omega) (by have := enc_small hz.2 hl; omega)
  obtain ⟨kl, hkl⟩ := hkey
  have hmI := hJ.mI
  have hln := hJ.flat.2.1
  have hSl := hJ.flat.2.2
  have k6 := k_cv hJ.blk 6 rfl
  have k7 := k_cv hJ.blk 7 rfl
  have k11 := k_cv hJ.blk 11 rfl
  simp only [List.getElem_toArray, List.getElem_cons_succ, List.getElem_cons_zero] at k6 k7 k11
  have HJ := Lib.hid hJ
  have HZ := Lib.hid hz
  clear hJ hz
  go_enter Try.func55, Try.ntmps55
  go_wp2_with (at_lookup; go_loud (refine wpList_memo_look _ rfl _ _ 78 true rfl 91 3 keyP Try.underlying78 (zeroI _) (n + 4) _ rfl hmI _ kl rfl hkl ?_ ?_))
  · have hzl := HZ.out.2
    have hlnI : (f.ln : Int) ≤ 1048576 := by have := HJ.out.flat.2.1; omega
    clear hzl
    go_loopw [9, 31] (fun u i wr => ∃ k : Nat, k ≤ f.ln ∧ i = .int .i64 k ∧ u = .int .i64 (encL (withinK f p l k)) ∧ Below w.heap.size w wr) (fun _ i _ => f.ln - (intOf i).toNat)
    case atStart => exact ⟨0, Nat.zero_le _, rfl, rfl, Below.refl _ _⟩
    case round =>
      obtain ⟨k, hk, rfl, rfl, hbel⟩ := hrel
      by_cases hkn : k < f.ln
      · have hx := loopAt_get (f := f) (p := k) (by omega)
        obtain ⟨x, hxx⟩ : ∃ x, loopAt f k = x := ⟨_, rfl⟩
        rw [hxx] at hx
        have hL : ∀ W, Below w.heap.size w W → Loops W f.lo f.ln f.loops := fun W hb => (HJ.out.of_bel hb).flat.2
        obtain ⟨la, hla⟩ : ∃ a, f.lo = some a := by
          cases e : f.lo with
          | none => exact absurd (hSl.2.1 e) (by omega)
          | some a => exact ⟨a, rfl⟩
        rw [hla]
        have hS1 := (hL wr hbel).2
        rw [hla] at hS1
        have p0 := hS1.at0 LoopD.len hx rfl
        have p1 := hS1.atS LoopD.len hx (j := 1) (by decide) rfl
        have p2 := hS1.atS LoopD.len hx (j := 2) (by decide) rfl
        have q6 := (hbel.cell (p := ⟨n + 5, 6, none⟩) (show n + 5 < w.heap.size by have := HJ.out.lt; omega)).trans k6
        have q7 := (hbel.cell (p := ⟨n + 5, 7, none⟩) (show n + 5 < w.heap.size by have := HJ.out.lt; omega)).trans k7
        have Q0 := (RJ_cells (HJ.out.of_bel hbel))
        obtain ⟨r0, r1, r2, r3, r4, r5, _, _⟩ := Q0
        have hn5 : n + 5 < wr.heap.size := by have := HJ.out.lt; have := hbel.size; omega
        have hn6 : ¬ n + 5 = wr.heap.size := by omega
        have hn7 : ¬ wr.heap.size = n + 5 := by omega
        rw [hla] at q7
        have hsl : f.ln * 24 ≤ 140737488355328 := by omega
        have HS := Lib.hid hsl
        obtain ⟨O, hO⟩ : ∃ O, withinK f p l k = O := ⟨_, rfl⟩
        have hOk : ∀ m, O = some m → m < k := fun m h => withinK_lt (hO.trans h)
        have hstep := withinK_succ f p l k
        rw [hO] at hstep
        rw [hO]
        have hkw : wrap64 ((k : Int) + 1) = k + 1 := by unfold wrap64; omega
        clear hx hS1 hO hsl k6 k7 k11 hSl hmI hkl
        by_cases c1 : (loopAt f k).head = p
        · have c1b : (x.head == (p : Int)) = true := by rw [← hxx]; simp [c1]
          have c1x : x.head = p := by rw [← hxx]; exact c1
          cases l with
          | none =>
            have hskip := skip_none c1
            have hkm : ¬ (k : Int) = -1 := by omega
            have hkmb : ((k : Int) == -1) = false := by first | (simp; done) | (simp; omega)
            clear c1 HZ
            cases O with
            | none =>
              rw [step_none hskip] at hstep
              (try rw [show encL none = -1 from rfl])
              go_wp2_with fail
              go_roundw
              case rel => exact ⟨k + 1, hkn, by first | go_num | (simp; done) | (rw [hkw]; simp), by first | (rw [hstep]; done) | (rw [hstep]; rfl), (by repeat (first | exact hbb | exact hbel | with_reducible apply b_al | with_reducible apply b_dr | with_reducible refine b_go ?_ (by assumption)))⟩
              case measure => first | exact meas_next hkn | (rw [hkw]; exact meas_next hkn) | (simp [intOf]; omega)
            | some o =>
              have hok : o < k := hOk o rfl
              have ho0 : ¬ (o : Int) < 0 := by omega
              rw [step_some hskip] at hstep
              (try rw [show encL none = -1 from rfl])
              rw [encL_some o]
              have N2 := fun W hb => c_inside f o k W (hL W hb) (by omega) hkn HS.out
              simp only [FlatD.val, hla] at N2
              obtain ⟨R2, hR2⟩ : ∃ R, inB f o k = R := ⟨_, rfl⟩
              rw [hR2] at N2 hstep
              cases R2 with
              | true =>
                rw [if_pos rfl] at hstep
                go_wp2_with (first | (go_at_call 69; go_loud (with_reducible refine (N2 _ (by repeat (first | exact hbb | exact hbel | with_reducible apply b_al | with_reducible apply b_dr | with_reducible refine b_go ?_ (by assumption)))).mono ?_); rintro e w2 ⟨rfl, hb2⟩))
                go_roundw
                case rel => exact ⟨k + 1, hkn, by first | go_num | (simp; done) | (rw [hkw]; simp), by first | (rw [hstep]; done) | (rw [hstep]; rfl), (by repeat (first | exact hbb | exact hbel | with_reducible apply b_al | with_reducible apply b_dr | with_reducible refine b_go ?_ (by assumption)))⟩
                case measure => first | exact meas_next hkn | (rw [hkw]; exact meas_next hkn) | (simp [intOf]; omega)
              | false =>
                rw [if_neg (by decide)] at hstep
                go_wp2_with (first | (go_at_call 69; go_loud (with_reducible refine (N2 _ (by repeat (first | exact hbb | exact hbel | with_reducible apply b_al | with_reducible apply b_dr | with_reducible refine b_go ?_ (by assumption)))).mono ?_); rintro e w2 ⟨rfl, hb2⟩))
                go_roundw
                case rel => exact ⟨k + 1, hkn, by first | go_num | (simp; done) | (rw [hkw]; simp), by first | (rw [hstep]; done) | (rw [hstep]; rfl), (by repeat (first | exact hbb | exact hbel | with_reducible apply b_al | with_reducible apply b_dr | with_reducible refine b_go ?_ (by assumption)))⟩
                case measure => first | exact meas_next hkn | (rw [hkw]; exact meas_next hkn) | (simp [intOf]; omega)
          | some l0 =>
            have hskip := skip_some (l := l0) c1
            have hl0 : l0 < f.loops.length := hl l0 rfl
            have hl0n : l0 < f.ln := by have := HJ.out.flat.2.1; omega
            have hge : (l0 : Int) ≥ 0 := by omega
            have hnn : ¬ (l0 : Int) < 0 := by omega
            have N1 := fun W hb => c_inside f k l0 W (hL W hb) hkn hl0n HS.out
            simp only [FlatD.val, hla] at N1
            obtain ⟨R1, hR1⟩ : ∃ R, inB f k l0 = R := ⟨_, rfl⟩
            rw [hR1] at N1 hskip
            rw [encL_some l0]
            clear c1 HZ
            cases R1 with
            | false =>
              rw [step_skip (by rw [hskip]; rfl)] at hstep
              go_wp2_with (go_at_call 69; go_loud (with_reducible refine (N1 _ (by repeat (first | exact hbb | exact hbel | with_reducible apply b_al | with_reducible apply b_dr | with_reducible refine b_go ?_ (by assumption)))).mono ?_); rintro e w1 ⟨rfl, hb1⟩; have hbb : Below w.heap.size w w1 := (by repeat (first | exact hbb | exact hbel | with_reducible apply b_al | with_reducible apply b_dr | with_reducible refine b_go ?_ (by assumption))); obtain ⟨s0, s1, s2, s3, s4, s5, s6, s7⟩ := RJ_cells (HJ.out.of_bel hbb); rw [hla] at s7)
              go_roundw
              case rel => exact ⟨k + 1, hkn, by first | go_num | (simp; done) | (rw [hkw]; simp), by first | (rw [hstep]; done) | (rw [hstep]; rfl), (by repeat (first | exact hbb | exact hbel | with_reducible apply b_al | with_reducible apply b_dr | with_reducible refine b_go ?_ (by assumption)))⟩
              case measure => first | exact meas_next hkn | (rw [hkw]; exact meas_next hkn) | (simp [intOf]; omega)
            | true =>
              by_cases ckl : l0 = k
              · have ckm := ckl.symm
                subst ckm
                rw [step_skip (by rw [hskip]; simp)] at hstep
                go_wp2_with (go_at_call 69; go_loud (with_reducible refine (N1 _ (by repeat (first | exact hbb | exact hbel | with_reducible apply b_al | with_reducible apply b_dr | with_reducible refine b_go ?_ (by assumption)))).mono ?_); rintro e w1 ⟨rfl, hb1⟩; have hbb : Below w.heap.size w w1 := (by repeat (first | exact hbb | exact hbel | with_reducible apply b_al | with_reducible apply b_dr | with_reducible refine b_go ?_ (by assumption))); obtain ⟨s0, s1, s2, s3, s4, s5, s6, s7⟩ := RJ_cells (HJ.out.of_bel hbb); rw [hla] at s7)
                go_roundw
                case rel => exact ⟨k + 1, hkn, by first | go_num | (simp; done) | (rw [hkw]; simp), by first | (rw [hstep]; done) | (rw [hstep]; rfl), (by repeat (first | exact hbb | exact hbel | with_reducible apply b_al | with_reducible apply b_dr | with_reducible refine b_go ?_ (by assumption)))⟩
                case measure => first | exact meas_next hkn | (rw [hkw]; exact meas_next hkn) | (simp [intOf]; omega)
              · have cki : ¬ (k : Int) = l0 := by omega
                have ckb : ((k : Int) == (l0 : Int)) = false := by first | (simp; done) | (simp; omega)
                replace hskip : skipB f p (some l0) k = false := by rw [hskip]; simp [ckl]
                cases O with
                | none =>
                  rw [step_none hskip] at hstep
                  (try rw [show encL none = -1 from rfl])
                  go_wp2_with (first | (go_at_call 69; go_loud (with_reducible refine (N1 _ (by repeat (first | exact hbb | exact hbel | with_reducible apply b_al | with_reducible apply b_dr | with_reducible refine b_go ?_ (by assumption)))).mono ?_); rintro e w1 ⟨rfl, hb1⟩; have hbb : Below w.heap.size w w1 := (by repeat (first | exact hbb | exact hbel | with_reducible apply b_al | with_reducible apply b_dr | with_reducible refine b_go ?_ (by assumption))); obtain ⟨s0, s1, s2, s3, s4, s5, s6, s7⟩ := RJ_cells (HJ.out.of_bel hbb); rw [hla] at s7))
                  go_roundw
                  case rel => exact ⟨k + 1, hkn, by first | go_num | (simp; done) | (rw [hkw]; simp), by first | (rw [hstep]; done) | (rw [hstep]; rfl), (by repeat (first | exact hbb | exact hbel | with_reducible apply b_al | with_reducible apply b_dr | with_reducible refine b_go ?_ (by assumption)))⟩
                  case measure => first | exact meas_next hkn | (rw [hkw]; exact meas_next hkn) | (simp [intOf]; omega)
                | some o =>
                  have hok : o < k := hOk o rfl
                  have ho0 : ¬ (o : Int) < 0 := by omega
                  rw [step_some hskip] at hstep
                  (try rw [show encL none = -1 from rfl])
                  rw [encL_some o]
                  have N2 := fun W hb => c_inside f o k W (hL W hb) (by omega) hkn HS.out
                  simp only [FlatD.val, hla] at N2
                  obtain ⟨R2, hR2⟩ : ∃ R, inB f o k = R := ⟨_, rfl⟩
                  rw [hR2] at N2 hstep
                  cases R2 with
                  | true =>
                    rw [if_pos rfl] at hstep
                    go_wp2_with (first | (go_at_call 69; go_loud (with_reducible refine (N1 _ (by repeat (first | exact hbb | exact hbel | with_reducible apply b_al | with_reducible apply b_dr | with_reducible refine b_go ?_ (by assumption)))).mono ?_); rintro e w1 ⟨rfl, hb1⟩; have hbb : Below w.heap.size w w1 := (by repeat (first | exact hbb | exact hbel | with_reducible apply b_al | with_reducible apply b_dr | with_reducible refine b_go ?_ (by assumption))); obtain ⟨s0, s1, s2, s3, s4, s5, s6, s7⟩ := RJ_cells (HJ.out.of_bel hbb); rw [hla] at s7) | (go_at_call 69; go_loud (with_reducible refine (N2 _ (by repeat (first | exact hbb | exact hbel | with_reducible apply b_al | with_reducible apply b_dr | with_reducible refine b_go ?_ (by assumption)))).mono ?_); rintro e w2 ⟨rfl, hb2⟩))
                    go_roundw
                    case rel => exact ⟨k + 1, hkn, by first | go_num | (simp; done) | (rw [hkw]; simp), by first | (rw [hstep]; done) | (rw [hstep]; rfl), (by repeat (first | exact hbb | exact hbel | with_reducible apply b_al | with_reducible apply b_dr | with_reducible refine b_go ?_ (by assumption)))⟩
                    case measure => first | exact meas_next hkn | (rw [hkw]; exact meas_next hkn) | (simp [intOf]; omega)
                  | false =>
                    rw [if_neg (by decide)] at hstep
                    go_wp2_with (first | (go_at_call 69; go_loud (with_reducible refine (N1 _ (by repeat (first | exact hbb | exact hbel | with_reducible apply b_al | with_reducible apply b_dr | with_reducible refine b_go ?_ (by assumption)))).mono ?_); rintro e w1 ⟨rfl, hb1⟩; have hbb : Below w.heap.size w w1 := (by repeat (first | exact hbb | exact hbel | with_reducible apply b_al | with_reducible apply b_dr | with_reducible refine b_go ?_ (by assumption))); obtain ⟨s0, s1, s2, s3, s4, s5, s6, s7⟩ := RJ_cells (HJ.out.of_bel hbb); rw [hla] at s7) | (go_at_call 69; go_loud (with_reducible refine (N2 _ (by repeat (first | exact hbb | exact hbel | with_reducible apply b_al | with_reducible apply b_dr | with_reducible refine b_go ?_ (by assumption)))).mono ?_); rintro e w2 ⟨rfl, hb2⟩))
                    go_roundw
                    case rel => exact ⟨k + 1, hkn, by first | go_num | (simp; done) | (rw [hkw]; simp), by first | (rw [hstep]; done) | (rw [hstep]; rfl), (by repeat (first | exact hbb | exact hbel | with_reducible apply b_al | with_reducible apply b_dr | with_reducible refine b_go ?_ (by assumption)))⟩
                    case measure => first | exact meas_next hkn | (rw [hkw]; exact meas_next hkn) | (simp [intOf]; omega)
        · have c1b : (x.head == (p : Int)) = false := by rw [← hxx]; simp [c1]
          have c1x : ¬ x.head = p := by rw [← hxx]; exact c1
          rw [step_skip (skip_head c1)] at hstep
          clear c1 HZ
          go_wp2_with fail
          go_roundw
          case rel => exact ⟨k + 1, hkn, by first | go_num | (simp; done) | (rw [hkw]; simp), by first | (rw [hstep]; done) | (rw [hstep]; rfl), (by repeat (first | exact hbb | exact hbel | with_reducible apply b_al | with_reducible apply b_dr | with_reducible refine b_go ?_ (by assumption)))⟩
          case measure => first | exact meas_next hkn | (rw [hkw]; exact meas_next hkn) | (simp [intOf]; omega)
      · obtain rfl : k = f.ln := by omega
        have hfin : withinK f p l f.ln = withinV f p l := by unfold withinK withinV; rw [hln]
        have hEI : EI f (pairV p (encL l)) (encL (withinK f p l f.ln)) := ⟨p, l, rfl, by rw [hfin]⟩
        have q11 := (hbel.cell (p := ⟨n + 5, 11, none⟩) (show n + 5 < w.heap.size by have := HJ.out.lt; omega)).trans k11
        have HB := Lib.hid hbel
        have HJ2 := HJ.out.of_bel hbel
        have hmI2 := HJ2.mI
        clear hmI hln hSl k6 k7 k11
        go_wp2_with (at_mapUpdate; go_loud (refine wpList_memo_put _ rfl _ _ _ 78 rfl 91 3 keyP Try.underlying78 (n + 4) _ rfl hmI2 _ kl rfl hkl _ rfl hEI ?_))
        intro w3 hm3 hg3 hs3 hh3
        have hJ3 : RJ cx f cost n w3 := HJ2.put hg3 (by omega) (fun e => by omega) (fun e => by omega) (fun _ => hm3)
        have hB3 : Bar (rS cx n) w w3 := ((Bar.refl _ w).go HB.out).grown hg3 (.inl (by simp))
        have HJ3 := Lib.hid hJ3
        clear hJ3 hm3 hh3 hg3
        go_wp2
        go_returns
        exact ⟨by first | rfl | (rw [hfin]; rfl), HJ3.out, hB3⟩
  · intro v hv
    obtain rfl := EI_at hv
    go_wp2
    go_returns
    exact ⟨rfl, HJ.out, Bar.refl _ _⟩
end Go.Proofs.Ytmnaeoljpajomaa.H
