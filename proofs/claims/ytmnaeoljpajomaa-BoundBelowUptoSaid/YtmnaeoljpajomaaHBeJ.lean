/- Contract of through: a whole loop, and what is behind it. Condition: the code can be reckoned, its size is modest. -/
import Derived.Test.YtmnaeoljpajomaaHBeI
import Derived.Maps.AppendAt
namespace Go.Proofs.Ytmnaeoljpajomaa.H
set_option linter.unusedVariables false
set_option linter.unusedSimpArgs false
open Go.RowKit Go.Proofs.Ytmnaeoljpajomaa.Plain Go.Sort Go.Maps
set_option maxHeartbeats 3200000
set_option maxRecDepth 100000
attribute [local go_sem] ext_from ext_bits cell_isSome un_neg_float
def outP (f : FlatD) (m i : Nat) : List Int := (nextsV f ((loopAt f m).head.toNat + i)).filter fun q => !(hasB (loopAt f m) q)
def outsK (f : FlatD) (m j : Nat) : List Int := (List.range j).flatMap (outP f m)
theorem outsK_succ (f : FlatD) (m j : Nat) : outsK f m (j + 1) = outsK f m j ++ outP f m j := by
  unfold outsK
  rw [List.range_succ, List.flatMap_append]
  simp
theorem outsK_end (f : FlatD) (m : Nat) : outsK f m ((loopAt f m).stop.toNat - (loopAt f m).head.toNat) = outsV f m := rfl
theorem outP_len (f : FlatD) (m i : Nat) : (outP f m i).length ≤ 2 := Nat.le_trans (List.length_filter_le _ _) (nextI_len _ _)
theorem outsK_len (f : FlatD) (m : Nat) : ∀ j, (outsK f m j).length ≤ 2 * j
  | 0 => by simp [outsK]
  | j + 1 => by
    rw [outsK_succ, List.length_append]
    have := outsK_len f m j
    have := outP_len f m j
    omega
theorem filt_step {x : LoopD} {qs : List Int} {k : Nat} {q : Int} (h : qs[k]? = some q) : (qs.take (k + 1)).filter (fun q => !(hasB x q)) = (qs.take k).filter (fun q => !(hasB x q)) ++ (if hasB x q then [] else [q]) := by
  rw [List.take_add_one, h, List.filter_append]
  congr 1
  cases hh : hasB x q <;> simp [hh]
theorem outsV_in {f : FlatD} (hC : CanF f) {m : Nat} (hm : m < f.loops.length) : ∀ q ∈ outsV f m, 0 ≤ q ∧ q < f.ops.length := by
  intro q hq
  obtain ⟨i, hi, h⟩ := List.mem_flatMap.1 hq
  have hi := List.mem_range.1 hi
  obtain ⟨h1, _⟩ := List.mem_filter.1 h
  obtain ⟨l1, l2, l3, _, _⟩ := hC.loop m hm
  have := hC.next ((loopAt f m).head.toNat + i) (by omega) q h1
  exact ⟨this.1, this.2.1⟩
theorem ints_low {w : World} {B B' : Nat} {v : Value} {zs : List Int} (h : Ints w B v zs) (hB : B' ≤ B) : Ints w B' v zs := own_low h hB
theorem c_through (cx : Cx) (f : FlatD) (cost : OpD → Option Int) (n : Nat) (g : Nat → Option Nat → Option Int) (hC : CanF f) (hz : Modest f) (hF : FarOk cx f cost n g) (hO : OnceOk cx f cost n g) (hR : ∀ p l c, g p l = some c → 0 ≤ c ∧ c ≤ H40)
    (m : Nat) (l : Option Nat) (o : Int) (fs : List Int) (hm : m < f.loops.length) (hl : ∀ m, l = some m → m < f.loops.length) (ho : g (loopAt f m).head.toNat (some m) = some o) (hfs : (outsV f m).mapM (farOf f g l) = some fs) (w : World) (hJ : RJ cx f cost n w) :
    Calls Try.prog 56 #[.pointer (some ⟨n + 5, 0, none⟩), .int .i64 m, .int .i64 (encL l)] w (OutR cx f cost n w (sumC (mulC o (loopAt f m).times) (maxV fs))) := by
  obtain ⟨i0, hi, hz0, hz1, hz2⟩ := info_parts (show (Try.prog.info? 3).map (fun i => (i.zero, i.size, i.bytes)) = some (some (.int .i64 0), 1, 8) by kernel_rfl)
  obtain ⟨l1, l2, l3, l4, l5⟩ := hC.loop m hm
  have hln := hJ.flat.2.1
  have hon := hJ.flat.1.1
  have hx := loopAt_get hm
  obtain ⟨x, hxx⟩ : ∃ x, loopAt f m = x := ⟨_, rfl⟩
  have hor := hR _ _ _ ho
  have hfr : ∀ b ∈ fs, b ≤ H40 := fun b hb => by
    obtain ⟨q, _, hq⟩ := mapM_mem _ _ hfs b hb
    unfold farOf at hq
    split at hq
    · cases hq; decide
    · exact (hR _ _ _ hq).2
  have hmx : 0 ≤ maxV fs ∧ maxV fs ≤ H40 := ⟨maxV_nonneg _, maxV_le fs 0 (by decide) hfr⟩
  have N3 := fun W hJ => hO m o hm ho W hJ
  have N4 := fun v W hJ hI => c_farthest cx f cost n g hF l hl v (outsV f m) fs hfs (outsV_in hC hm) (by
    have := outsK_len f m ((loopAt f m).stop.toNat - (loopAt f m).head.toNat)
    rw [outsK_end] at this
    have := hz.1
    omega) W hJ hI
  have hEnd := outsK_end f m
  have hnext := hC.next
  rw [hxx] at hx l1 l2 l3 l4 l5 hEnd ⊢
  obtain ⟨lo, hlo⟩ : ∃ a, f.lo = some a := by
    cases e : f.lo with
    | none => exact absurd (hJ.flat.2.2.2.1 e) (by omega)
    | some a => exact ⟨a, rfl⟩
  have hpos : 0 < f.ops.length := hC.pos
  obtain ⟨ao, hao⟩ : ∃ a, f.ao = some a := by
    cases e : f.ao with
    | none => exact absurd (hJ.flat.1.2.2.1 e) (by omega)
    | some a => exact ⟨a, rfl⟩
  have hS1 := hJ.flat.2.2
  rw [hlo] at hS1
  have p0 := hS1.at0 LoopD.len hx rfl
  have p1 := hS1.atS LoopD.len hx (j := 1) (by decide) rfl
  have p2 := hS1.atS LoopD.len hx (j := 2) (by decide) rfl
  obtain ⟨r0, r1, r2, r3, r4, r5, r6, r7⟩ := RJ_cells hJ
  rw [hlo] at r7
  have hmln : (m : Int) < f.ln := by omega
  obtain ⟨hd, hhd⟩ : ∃ h : Nat, x.head = h := ⟨x.head.toNat, by omega⟩
  obtain ⟨st, hst⟩ : ∃ h : Nat, x.stop = h := ⟨x.stop.toNat, by omega⟩
  have hEnd2 : outsK f m (st - hd) = outsV f m := by rw [← hEnd]; congr 1; omega
  have hons : f.ops.length ≤ 1048576 := hz.1
  have hst2 : st ≤ f.ops.length := by omega
  have hhs : hd < st := by omega
  rw [hhd] at p0
  rw [hst] at p1
  have HJ := Lib.hid hJ
  have HON := Lib.hid hon
  have HX := Lib.hid hxx
  have HNX := Lib.hid hnext
  have HHD := Lib.hid hhd
  have HST := Lib.hid hst
  have N1 := fun (P : Nat) W (hP : P ≤ 1099511627776) => c_irNext (opAt f P) P W hP
  have N2 := fun q W => c_has x q W
  have e7 : x.val = .agg #[.int .i64 hd, .int .i64 st, .int .i64 x.times] := by show Value.agg #[.int .i64 x.head, .int .i64 x.stop, .int .i64 x.times] = _; rw [hhd, hst]
  simp only [e7] at N2
  have HE := Lib.hid hEnd2
  have HP := Lib.hid hmx
  have HO := Lib.hid hor
  have HT := Lib.hid (And.intro l4 l5)
  have HF := Lib.hid hst2
  have HNS := Lib.hid hons
  clear hJ hz hO hF hR ho hfs hS1 hC hx hfr hln hon hxx hnext hhd hst e7 hEnd hEnd2 hmx hor l1 l2 l3 l4 l5 hpos hst2 hons
  go_enter Try.func56, Try.ntmps56
  go_wp2_with fail
  obtain ⟨w1, hw1⟩ : ∃ W, W = w.alloc (.cells #[.int .i64 hd, .int .i64 st, .int .i64 x.times] 40 (0, 0)) := ⟨_, rfl⟩
  have kb7 : w1.heap[w.heap.size]? = some (.cells #[.int .i64 hd, .int .i64 st, .int .i64 x.times] 40 (0, 0)) := by rw [hw1]; exact k_box
  have hbl1 : Below w.heap.size w w1 := by rw [hw1]; exact b_al (Below.refl _ _) _
  rw [← hw1]
  have HB1 := Lib.hid hbl1
  have HK7 := Lib.hid kb7
  clear hbl1 kb7 hw1 p0 p1 p2 r0 r1 r2 r3 r4 r5 r6 r7
  go_loopw [8, 9] (fun u i wr => ∃ j : Nat, j ≤ st - hd ∧ i = .int .i64 ((hd + j : Nat) : Int) ∧ Ints wr (w.heap.size + 1) u (outsK f m j) ∧ Below (w.heap.size + 1) w1 wr) (fun _ i _ => st - (intOf i).toNat)
  case atStart => exact ⟨0, Nat.zero_le _, rfl, World.ownsRow_nil _ _ _ _, Below.refl _ _⟩
  case round =>
    obtain ⟨j, hj, rfl, hI, hbe⟩ := hrel
    obtain ⟨a8, c8, rfl⟩ := own_shape hI
    have hs1 := k_lt HK7.out
    have hbw : Below w.heap.size w wr := HB1.out.trans (hbe.mono (Nat.le_succ _))
    have hJr := HJ.out.of_bel hbw
    obtain ⟨r0, r1, r2, r3, r4, r5, r6, r7⟩ := RJ_cells hJr
    rw [hao] at r6
    rw [hlo] at r7
    have kb := (hbe.block _ (Nat.lt_succ_self _)).trans HK7.out
    have z0 := k_cv kb 0 rfl
    have z1 := k_cv kb 1 rfl
    have z2 := k_cv kb 2 rfl
    simp only [List.getElem_toArray, List.getElem_cons_succ, List.getElem_cons_zero] at z0 z1 z2
    by_cases hjs : j < st - hd
    · obtain ⟨P, hP⟩ : ∃ P, hd + j = P := ⟨_, rfl⟩
      rw [hP]
      have hPon : P < f.ops.length := by have := HF.out; omega
      have hop := opAt_get hPon
      have hS2 := hJr.flat.1.2
      rw [hao] at hS2
      obtain ⟨oo, hoo⟩ : ∃ o, opAt f P = o := ⟨_, rfl⟩
      rw [hoo] at hop
      have y0 := hS2.at0 OpD.len hop rfl
      have y1 := hS2.atS OpD.len hop (j := 1) (by decide) rfl
      have y2 := hS2.atS OpD.len hop (j := 2) (by decide) rfl
      have y3 := hS2.atS OpD.len hop (j := 3) (by decide) rfl
      have y4 := hS2.atS OpD.len hop (j := 4) (by decide) rfl
      have y5 := hS2.atS OpD.len hop (j := 5) (by decide) rfl
      have y6 := hS2.atS OpD.len hop (j := 6) (by decide) rfl
      have y7 := hS2.atS OpD.len hop (j := 7) (by decide) rfl
      have y8 := hS2.atS OpD.len hop (j := 8) (by decide) rfl
      have y9 := hS2.atS OpD.len hop (j := 9) (by decide) rfl
      have hPI : (P : Int) < st := by omega
      have hPn : (P : Int) < f.on := by have := HON.out; omega
      have hNs := HNS.out
      have NN := N1 P wr (by omega)
      rw [hoo] at NN
      obtain ⟨qs, hqs⟩ : ∃ qs, nextI oo P = qs := ⟨_, rfl⟩
      rw [hqs] at NN
      have hql : qs.length ≤ 2 := by rw [← hqs]; exact nextI_len _ _
      have hout : outP f m j = qs.filter (fun q => !(hasB x q)) := by
        unfold outP nextsV
        rw [HX.out, show x.head.toNat + j = P by have := HHD.out; omega, hoo, hqs]
      have hPs : (P : Int) + 1 ≤ 1048576 := by omega
      have HRE := Lib.hid hI
      have HBW := Lib.hid hbw
      have HBE := Lib.hid hbe
      clear hNs N1 hS2 hop hqs hoo hJr hI hbw hbe
      go_wp2_with (go_at_call 39; go_loud (with_reducible refine NN.mono ?_); rintro e w2 ⟨⟨v2, rfl, hI2⟩, hb2⟩; obtain ⟨a39, c39, rfl⟩ := own_shape hI2)
      obtain ⟨wo, hwo⟩ : ∃ W, W = wr := ⟨_, rfl⟩
      subst hwo
      have h92 : ∀ g, (Value.slice a39 qs.length c39).ownBlock = some g → wo.heap.size ≤ g ∧ g < w2.heap.size := fun g hg => World.ownsRow.lt hI2 g hg
      have h82 : ∀ g, (Value.slice a8 (outsK f m j).length c8).ownBlock = some g → g < wo.heap.size := fun g hg => (World.ownsRow.lt HRE.out g hg).2
      have HI2 := Lib.hid hI2
      have HB2 := Lib.hid (b_go (w := w) HBW.out hb2)
      have HE2 := Lib.hid (HBE.out.trans (hb2.mono (Nat.le_trans (Nat.succ_le_of_lt hs1) HBE.out.size)))
      have HRE2 := Lib.hid (HRE.out.go hb2)
      have HKB := Lib.hid (k_go kb hb2)
      have hwr2 := hb2.size
      clear hI2 hb2 NN r0 r1 r2 r3 r4 r5 r6 r7 y0 y1 y2 y3 y4 y5 y6 y7 y8 y9 z0 z1 z2 kb
      go_loopw [8, 41] (fun u i w3 => ∃ k : Nat, k ≤ qs.length ∧ i = .int .i64 k ∧ Ints w3 (w.heap.size + 1) u (outsK f m j ++ (qs.take k).filter fun q => !(hasB x q)) ∧ (∀ g, u.ownBlock = some g → g < wo.heap.size ∨ w2.heap.size ≤ g) ∧ Below (w.heap.size + 1) w1 w3 ∧ Ints w3 wo.heap.size (.slice a39 qs.length c39) qs ∧ w2.heap.size ≤ w3.heap.size) (fun _ i _ => qs.length - (intOf i).toNat)
      case atStart => exact ⟨0, Nat.zero_le _, rfl, by simpa using HRE2.out, fun g hg => .inl (h82 g hg), HE2.out, HI2.out, Nat.le_refl _⟩
      case round =>
        obtain ⟨k, hk, rfl, hO3, hown3, hbe3, hI3, hs3⟩ := hrel
        by_cases hkq : k < qs.length
        · obtain ⟨q, hq⟩ : ∃ q, qs[k]? = some q := ⟨_, List.getElem?_eq_getElem hkq⟩
          have hstep := filt_step (x := x) hq
          rcases hI3.form with ⟨_, rfl⟩ | ⟨g9, c9, he9, hcap9, hge9, hlt9, hcell⟩
          · simp at hkq
          cases he9
          have hc := hcell k q hq
          have kb3 := (hbe3.block _ (Nat.lt_succ_self _)).trans HK7.out
          have z0 := k_cv kb3 0 rfl
          have z1 := k_cv kb3 1 rfl
          have z2 := k_cv kb3 2 rfl
          simp only [List.getElem_toArray, List.getElem_cons_succ, List.getElem_cons_zero] at z0 z1 z2
          obtain ⟨b, hb⟩ : ∃ b, hasB x q = b := ⟨_, rfl⟩
          have NH := N2 q wr
          rw [hb] at NH hstep
          have hol := outsK_len f m j
          have hfl : ((qs.take k).filter fun q => !(hasB x q)).length ≤ 2 := Nat.le_trans (List.length_filter_le _ _) (by rw [List.length_take]; omega)
          obtain ⟨L, hL⟩ : ∃ L, (outsK f m j ++ (qs.take k).filter fun q => !(hasB x q)) = L := ⟨_, rfl⟩
          have hLl : L.length ≤ 2 * j + 2 := by rw [← hL, List.length_append]; omega
          have hstepL : (outsK f m j ++ (qs.take (k + 1)).filter fun q => !(hasB x q)) = L ++ (if b then [] else [q]) := by rw [hstep, ← hL, List.append_assoc]
          rw [hL] at hO3
          have HO3 := Lib.hid hO3
          have HBE3 := Lib.hid hbe3
          have HI3 := Lib.hid hI3
          have hB1s : w.heap.size + 1 ≤ wr.heap.size := Nat.le_trans (Nat.succ_le_of_lt hs1) hbe3.size
          have hkI : (k : Int) < qs.length := by omega
          have hNs := HNS.out
          have hst' := HF.out
          have hLm : L.length + 1 ≤ 2097160 := by omega
          obtain ⟨a83, c83, rfl⟩ := own_shape hO3
          clear hstep hO3 hbe3 hI3 hcell N2 hL hol hfl hNs hst'
          cases b with
          | true =>
            have hS0 : (outsK f m j ++ (qs.take (k + 1)).filter fun q => !(hasB x q)) = L := by rw [hstepL]; simp
            have HS := Lib.hid hS0
            clear hstepL hS0
            go_wp2_with (go_at_call 42; go_loud (with_reducible refine NH.mono ?_); rintro e w4 ⟨rfl, hb4⟩)
            go_roundw
            case rel => exact ⟨k + 1, hkq, by go_num, HS.out ▸ HO3.out.go hb4, hown3, HBE3.out.trans (hb4.mono hB1s), HI3.out.go hb4, Nat.le_trans hs3 hb4.size⟩
            case measure => first | exact meas_next hkq | (simp [intOf]; omega)
          | false =>
            have hS0 : (outsK f m j ++ (qs.take (k + 1)).filter fun q => !(hasB x q)) = L ++ [q] := by rw [hstepL]; simp
            have HS := Lib.hid hS0
            clear hstepL hS0
            have hm1 : L.length + 1 ≤ maxLen := by unfold maxLen; omega
            have hm2 : (L.length + 1) * 8 ≤ 140737488355328 := by omega
            go_wp2_with (first | (go_at_call 42; go_loud (with_reducible refine NH.mono ?_); rintro e w4 ⟨rfl, hb4⟩) | (at_builtin; go_loud (refine wpList_append_own_at _ rfl _ _ 27 rfl (w.heap.size + 1) 3 i0 _ 1 8 Try.underlying27 hi hz0 hz1 hz2 rfl (by decide) _ _ _ rfl (World.ownsRow.alloc (HO3.out.go hb4) _) ⟨w4.heap.size, 0, none⟩ 1 1 [.int .i64 q] rfl rfl (fun i u hu => by rw [add_pl]; exact (k_cell (k_new (w := w4) (by simp)) i).trans (by simpa using hu)) (fun u hu => by obtain rfl := List.mem_singleton.1 hu; rfl) hm1 hm2 (by have := hb4.size; simp; omega) ?_)))
            intro v' w5 hown' hgrow hnil hat
            have hb5 : Below (w.heap.size + 1) w1 w5 := Below.grown (row := (Value.slice a83 L.length c83).ownBlock) (((HBE3.out.trans (hb4.mono hB1s))).alloc (by have := hb4.size; omega) _) hgrow (by have := hb4.size; simp; omega) (fun q hq => (World.ownsRow.lt HO3.out q hq).1)
            have hI5 : Ints w5 (w.heap.size + 1) v' (L ++ [q]) := ints_add hown' rfl
            have hn5 : ∀ g, v'.ownBlock = some g → g < wo.heap.size ∨ w2.heap.size ≤ g := by
              intro g hg
              rcases hat with e | e
              · exact hown3 g (e ▸ hg)
              · rw [e] at hg
                cases hg
                right
                have := hb4.size
                simp
                omega
            have hq5 : Ints w5 wo.heap.size (.slice (some ⟨g9, 0, none⟩) qs.length c39) qs := by
              have h4 : Ints (w4.alloc (.cells #[.int .i64 q] 3 (0, 0))) wo.heap.size (.slice (some ⟨g9, 0, none⟩) qs.length c39) qs := World.ownsRow.alloc (HI3.out.go hb4) _
              refine h4.kept hgrow (.inr (fun e => ?_))
              have := hown3 g9 e.symm
              have := h92 g9 rfl
              omega
            have HI5 := Lib.hid hI5
            have HB5 := Lib.hid hb5
            have HN5 := Lib.hid hn5
            have HQ5 := Lib.hid hq5
            have hs5 : w2.heap.size ≤ w5.heap.size := by
              have h1 := hgrow.size
              have h2 := hb4.size
              simp at h1
              omega
            obtain ⟨a85, c85, rfl⟩ := own_shape hI5
            clear hI5 hb5 hn5 hq5 hown' hgrow hat
            go_wp2
            go_roundw
            case rel => exact ⟨k + 1, hkq, by go_num, HS.out ▸ HI5.out, HN5.out, HB5.out, HQ5.out, hs5⟩
            case measure => first | exact meas_next hkq | (simp [intOf]; omega)
        · obtain rfl : k = qs.length := by omega
          rw [List.take_length, ← hout, ← outsK_succ] at hO3
          have HO3 := Lib.hid hO3
          have HBE3 := Lib.hid hbe3
          obtain ⟨a83, c83, rfl⟩ := own_shape hO3
          clear hO3 hbe3 hI3 hown3
          go_wp2_with fail
          refine ⟨⟨j + 1, by omega, by congr 1; omega, HO3.out, HBE3.out⟩, by simp [intOf]; omega⟩
    · obtain rfl : j = st - hd := by omega
      rw [HE.out] at hI ⊢
      rw [show hd + (st - hd) = st by omega]
      have N3r := N3 wr hJr
      have HI := Lib.hid hI
      have HBW := Lib.hid hbw
      have HPB := HP.out
      have HOB := HO.out
      have HTB := HT.out
      unfold H40 at HPB HOB
      have hB7 : n + 6 ≤ w.heap.size := HJ.out.lt
      clear hI hbe hJr N3 N1 N2
      obtain ⟨V, hV⟩ : ∃ V, maxV fs = V := ⟨_, rfl⟩
      rw [hV] at HPB N4 ⊢
      obtain ⟨t0, ht0⟩ : ∃ t, x.times = t := ⟨_, rfl⟩
      rw [ht0] at HTB z2 ⊢
      have hmr := mulC_range (o := o) (t := t0) HOB.1 HOB.2 HTB.1
      unfold H40 at hmr
      have hmulC : mulC o t0 = if o ≤ 1099511627776 / (t0 + 1) then o * (t0 + 1) else 1099511627776 := rfl
      have c_go : ∀ W, RJ cx f cost n W → Ints W (n + 6) (.slice a8 (outsV f m).length c8) (outsV f m) → Calls Try.prog 57 #[.pointer (some ⟨n + 5, 0, none⟩), .slice a8 (outsV f m).length c8, .int .i64 (encL l)] W (OutR cx f cost n W V) := fun W h1 h2 => N4 _ W h1 h2
      by_cases cq : o ≤ 1099511627776 / (t0 + 1)
      · rw [if_pos cq] at hmulC
        have hmr2 : 0 ≤ o * (t0 + 1) ∧ o * (t0 + 1) ≤ 1099511627776 := by rw [← hmulC]; exact hmr
        have hfin : sumC (mulC o x.times) (maxV fs) = sumC (o * (t0 + 1)) V := by rw [ht0, hV, hmulC]
        rw [hmulC] at hmr ⊢
        clear hmulC
        have hne : ¬ t0 + 1 = 0 := by omega
        have cq2 : o ≤ Int.tdiv 1099511627776 (t0 + 1) := by rw [Int.tdiv_eq_ediv_of_nonneg (by decide)]; exact cq
        have t1 : 0 ≤ t0 := HTB.1
        have t2 : t0 ≤ 65536 := HTB.2
        clear HTB N4
        go_wp2_with (first | (go_at_call 70; go_loud (with_reducible refine N3r.mono ?_); rintro e w5 ⟨rfl, hJ5, hb5⟩; have kb5 := hb5.keep kb (by have := HJ.out.hM; simp only [rS, List.mem_cons, List.mem_nil_iff, or_false]; omega); have x2 := k_cv kb5 2 rfl; simp only [List.getElem_toArray, List.getElem_cons_succ, List.getElem_cons_zero] at x2; rw [ht0] at x2) | (go_at_call 57; go_loud (with_reducible refine (c_go w5 hJ5 (ints_low (bar_ints HI.out (Nat.le_succ_of_le hB7) HJ.out.hM hb5) (Nat.le_succ_of_le hB7))).mono ?_); rintro e w6 ⟨rfl, hJ6, hb6⟩) | (go_at_call 44; go_loud (with_reducible refine (c_sum _ _ _ hmr HPB).mono ?_); rintro e w7 ⟨rfl, rfl⟩))
        have hbf := ((((Bar.refl (rS cx n) w).go HBW.out).trans hb5).trans hb6)
        go_returns
        exact ⟨by rw [hfin]; rfl, hJ6, hbf⟩
      · rw [if_neg cq] at hmulC
        have hne : ¬ t0 + 1 = 0 := by omega
        have cq2 : ¬ o ≤ Int.tdiv 1099511627776 (t0 + 1) := by rw [Int.tdiv_eq_ediv_of_nonneg (by decide)]; exact cq
        have cq3 : Int.tdiv 1099511627776 (t0 + 1) < o := by omega
        have cq4 : 1099511627776 / (t0 + 1) < o := by omega
        have t1 : 0 ≤ t0 := HTB.1
        have t2 : t0 ≤ 65536 := HTB.2
        have hfin : sumC (mulC o x.times) (maxV fs) = sumC 1099511627776 V := by rw [ht0, hV, hmulC]
        rw [hmulC] at hmr ⊢
        clear HTB N4 hmulC
        go_wp2_with (first | (go_at_call 70; go_loud (with_reducible refine N3r.mono ?_); rintro e w5 ⟨rfl, hJ5, hb5⟩; have kb5 := hb5.keep kb (by have := HJ.out.hM; simp only [rS, List.mem_cons, List.mem_nil_iff, or_false]; omega); have x2 := k_cv kb5 2 rfl; simp only [List.getElem_toArray, List.getElem_cons_succ, List.getElem_cons_zero] at x2; rw [ht0] at x2) | (go_at_call 57; go_loud (with_reducible refine (c_go w5 hJ5 (ints_low (bar_ints HI.out (Nat.le_succ_of_le hB7) HJ.out.hM hb5) (Nat.le_succ_of_le hB7))).mono ?_); rintro e w6 ⟨rfl, hJ6, hb6⟩) | (go_at_call 44; go_loud (with_reducible refine (c_sum _ _ _ hmr HPB).mono ?_); rintro e w7 ⟨rfl, rfl⟩))
        have hbf := ((((Bar.refl (rS cx n) w).go HBW.out).trans hb5).trans hb6)
        go_returns
        exact ⟨by rw [hfin]; rfl, hJ6, hbf⟩
end Go.Proofs.Ytmnaeoljpajomaa.H
