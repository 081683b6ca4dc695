/- The statement VmNothing of the seat's rows and its tied card, proved out of the walk of the law. Conditions: the row's own (the listed variables read as laid; the walk reads none of them). -/
import Derived.Test.YtccdgjjoeamnjaaGreatDoorCards
import Derived.Test.YtccdgjjoeamnjaaGreatDoorTie
import Derived.Test.YtccdgjjoeamnjaaGreatDoorHVmW
import Derived.Test.YtccdgjjoeamnjaaGreatDoorHLawNJ1
import Derived.Test.YtccdgjjoeamnjaaGreatDoorHLawNJ2
import Derived.Test.YtccdgjjoeamnjaaGreatDoorHLawNJ3
import Derived.Test.YtccdgjjoeamnjaaGreatDoorHLawNJ4
import Derived.Deep.Slices
import Derived.ChangeSame
import Derived.Deep.Strs
import Derived.SizedLaws
import Derived.ProofKit
import Derived.OpenShut
import Derived.ShutString
import Derived.LaidMore
import Derived.Lay
import Derived.LaidHandle
import Derived.MakeChecks
import Derived.Lib.SmallJoins
import Derived.Carry
import Derived.Stop.Joined
import Derived.SevenTiedAt
namespace Go.Proofs.YtccdgjjoeamnjaaGreatDoor.H
set_option linter.unusedSimpArgs false
set_option linter.unusedVariables false
open Go.RowKit Go.ChangeShapes Go.WideShapes Go.ChangeAt Go.Deep Go.Proofs.YtccdgjjoeamnjaaGreatDoor.Plain
theorem ownH : ownKnob Tryz.prog.godebug = none := by kernel_rfl
theorem laidOutH : laidOutB Tryz.prog = true := by kernel_rfl
theorem all_ltH {H : Type} {enc : TypeId × Value → H} {P : Program} {w : World} {t : TypeId} {v : Value} {y : DataW H} {p : List MemPlace} (h : DataW.Trod enc P w 0 (fun _ => true) true t v y p) : ∀ x ∈ p, x.block < w.heap.size := by
  obtain ⟨m, hm⟩ := h
  exact DataW.trod_lt m _ _ _ hm
theorem eleven {cs : List Value} (h : cs.length = 11) : ∃ c0 c1 c2 c3 c4 c5 c6 c7 c8 c9 c10, cs = [c0, c1, c2, c3, c4, c5, c6, c7, c8, c9, c10] := by
  match cs, h with
  | [c0, c1, c2, c3, c4, c5, c6, c7, c8, c9, c10], _ => exact ⟨c0, c1, c2, c3, c4, c5, c6, c7, c8, c9, c10, rfl⟩
theorem trod_struct9 {H : Type} {enc : TypeId × Value → H} {P : Program} {w : World} {base : Nat} {spare : Nat → Bool} {held : Bool} {t : TypeId} {f0 f1 f2 f3 f4 f5 f6 f7 f8 : Field} {fuel : Nat} {cs : List Value} {x : DataW H × List MemPlace} (ht : P.underlying t = some (.struct #[f0, f1, f2, f3, f4, f5, f6, f7, f8])) (h : DataW.trod enc P w base spare held fuel t cs = some x) :
    ∃ y0 y1 y2 y3 y4 y5 y6 y7 y8 n, cs.length = P.cellsOf t ∧ DataW.trod enc P w base spare held n f0.type ((cs.drop f0.offset).take (P.cellsOf f0.type)) = some y0 ∧ DataW.trod enc P w base spare held n f1.type ((cs.drop f1.offset).take (P.cellsOf f1.type)) = some y1 ∧ DataW.trod enc P w base spare held n f2.type ((cs.drop f2.offset).take (P.cellsOf f2.type)) = some y2 ∧ DataW.trod enc P w base spare held n f3.type ((cs.drop f3.offset).take (P.cellsOf f3.type)) = some y3 ∧ DataW.trod enc P w base spare held n f4.type ((cs.drop f4.offset).take (P.cellsOf f4.type)) = some y4 ∧ DataW.trod enc P w base spare held n f5.type ((cs.drop f5.offset).take (P.cellsOf f5.type)) = some y5 ∧ DataW.trod enc P w base spare held n f6.type ((cs.drop f6.offset).take (P.cellsOf f6.type)) = some y6 ∧ DataW.trod enc P w base spare held n f7.type ((cs.drop f7.offset).take (P.cellsOf f7.type)) = some y7 ∧ DataW.trod enc P w base spare held n f8.type ((cs.drop f8.offset).take (P.cellsOf f8.type)) = some y8 := by
  obtain ⟨xs, n, _, rfl, hl, hlen, hf⟩ := DataW.trod_struct ht h
  match xs, hlen with
  | [y0, y1, y2, y3, y4, y5, y6, y7, y8], _ => exact ⟨y0, y1, y2, y3, y4, y5, y6, y7, y8, n, hl, by simpa using hf 0 f0 rfl, by simpa using hf 1 f1 rfl, by simpa using hf 2 f2 rfl, by simpa using hf 3 f3 rfl, by simpa using hf 4 f4 rfl, by simpa using hf 5 f5 rfl, by simpa using hf 6 f6 rfl, by simpa using hf 7 f7 rfl, by simpa using hf 8 f8 rfl⟩
set_option maxRecDepth 100000 in
theorem cell_one {H : Type} {enc : TypeId × Value → H} {W : World} {base : Nat} {sp : Nat → Bool} {hd : Bool} {fuel : Nat} {cs : List Value} {x : DataW H × List MemPlace} (h : DataW.trod enc Tryz.prog W base sp hd fuel 40 cs = some x) : ∃ d : CellD, cs = d.row ∧ OkD d := by
  obtain ⟨y0, y1, y2, y3, y4, y5, y6, y7, y8, n, hl, h0, h1, h2, h3, h4, h5, h6, h7, h8⟩ := trod_struct9 Tryz.underlying40 h
  have hl11 : cs.length = 11 := hl.trans (by kernel_rfl)
  obtain ⟨c0, c1, c2, c3, c4, c5, c6, c7, c8, c9, c10, rfl⟩ := eleven hl11
  have e1 : Tryz.prog.cellsOf 9 = 1 := by kernel_rfl
  have e2 : Tryz.prog.cellsOf 25 = 1 := by kernel_rfl
  have e3 : Tryz.prog.cellsOf 26 = 1 := by kernel_rfl
  have e4 : Tryz.prog.cellsOf 4 = 1 := by kernel_rfl
  have e5 : Tryz.prog.cellsOf 3 = 1 := by kernel_rfl
  have e6 : Tryz.prog.cellsOf 28 = 3 := by kernel_rfl
  obtain ⟨z0, z1, z2, m, _, _, g0, g1, g2⟩ := trod_struct3 Tryz.underlying28 h5
  simp [e1, e2, e3, e4, e5, e6] at h0 h1 h2 h3 h4 h6 h7 h8 g0 g1 g2
  obtain ⟨n0, q0, _, _⟩ := DataW.trod_int Tryz.underlying25 h0
  obtain ⟨b1, q1, _⟩ := DataW.trod_bool Tryz.underlying4 h1
  obtain ⟨n2, q2, _, _⟩ := DataW.trod_int Tryz.underlying3 h2
  obtain ⟨n3, q3, _, _⟩ := DataW.trod_int Tryz.underlying3 h3
  obtain ⟨n4, q4, _, _⟩ := DataW.trod_int Tryz.underlying3 h4
  obtain ⟨n5, q5, _, _⟩ := DataW.trod_int Tryz.underlying25 g0
  obtain ⟨n6, q6, _, w6⟩ := DataW.trod_int Tryz.underlying26 g1
  obtain ⟨s7, q7, _, _⟩ := DataW.trod_string Tryz.underlying9 g2
  obtain ⟨b8, q8, _⟩ := DataW.trod_bool Tryz.underlying4 h6
  obtain ⟨n9, q9, _, _⟩ := DataW.trod_int Tryz.underlying3 h7
  obtain ⟨s10, q10, _, _⟩ := DataW.trod_string Tryz.underlying9 h8
  (try simp only [List.cons.injEq, and_true] at q0 q1 q2 q3 q4 q5 q6 q7 q8 q9 q10)
  subst q0 q1 q2 q3 q4 q5 q6 q7 q8 q9 q10
  have r6 : 0 ≤ n6 ∧ n6 ≤ 18446744073709551615 := (show IntKind.u64.min ≤ n6 ∧ n6 ≤ IntKind.u64.max by simpa only [Lit.wf, Bool.and_eq_true, decide_eq_true_eq] using w6)
  exact ⟨⟨n0, b1, n2, n3, n4, n5, n6, s7, b8, n9, s10⟩, rfl, r6.1, by show n6 < 18446744073709551616; omega⟩
theorem lt_of_cell {w : World} {a : Addr} {v : Value} (h : w.cell? a = some v) : a.block < w.heap.size := by
  unfold World.cell? at h
  rcases Nat.lt_or_ge a.block w.heap.size with c | c
  · exact c
  · rw [Array.getElem?_eq_none c] at h; cases h
theorem rows_cells {w : World} {a : Addr} : ∀ n, (∀ i, i < n → ∃ cs, w.cells? 0 (a.add (i * 11)) 11 = some cs ∧ ∃ d : CellD, cs = d.row ∧ OkD d) →
    ∃ ds : List CellD, ds.length = n ∧ (∀ i d, ds[i]? = some d → ∀ j u, d.row[j]? = some u → w.cell? (a.add (i * 11 + j)) = some u) ∧ ∀ d ∈ ds, OkD d
  | 0, _ => ⟨[], rfl, fun i d h => by simp at h, fun d h => by simp at h⟩
  | n + 1, h => by
    obtain ⟨ds, hl, hc, h1⟩ := rows_cells n (fun i hi => h i (by omega))
    obtain ⟨cs, hcs, d, rfl, hd⟩ := h n (by omega)
    obtain ⟨_, hlen, hcell⟩ := World.cells?_some hcs
    refine ⟨ds ++ [d], by simp [hl], fun i d' hd' j u hu => ?_, fun d' hd' => ?_⟩
    · by_cases c : i < ds.length
      · rw [List.getElem?_append_left c] at hd'; exact hc i d' hd' j u hu
      · have e : i = n := by
          rcases Nat.lt_or_ge n i with x | x
          · rw [List.getElem?_append_right (by omega), List.getElem?_eq_none (by simp; omega)] at hd'; cases hd'
          · omega
        subst e
        rw [List.getElem?_append_right (by omega), hl, Nat.sub_self] at hd'
        obtain rfl : d = d' := by simpa using hd'
        have hj : j < 11 := by
          rcases Nat.lt_or_ge j 11 with x | x
          · exact x
          · rw [List.getElem?_eq_none (by simpa [CellD.row] using x)] at hu; cases hu
        have := hcell _ hj
        rw [hu] at this
        rw [← Addr.add_add]
        exact this
    · rcases List.mem_append.1 hd' with x | x
      · exact h1 d' x
      · obtain rfl := List.mem_singleton.1 x; exact hd
set_option maxRecDepth 100000 in
theorem open_cells {H : Type} {enc : TypeId × Value → H} {W : World} {base : Nat} {ts : List TypeId} {ds : List (DataW H)} {j : Nat} {v : Value} {d : DataW H} {p : List MemPlace}
    (hsz : (DataW.weightsEach Tryz.prog ts ds).all (· ≤ reachBytes) = true) (ht : ts[j]? = some 22) (hd : ds[j]? = some d)
    (hval : Value.okWide Tryz.prog W .any base 22 v) (h : DataW.Trod enc Tryz.prog W 0 (fun _ => true) true 22 v d p) :
    ∃ ao n c cds, v = .slice ao n c ∧ Cells W ao n cds ∧ (∀ d ∈ cds, OkD d) ∧ n * 96 ≤ 140737488355328 := by
  obtain ⟨a0, len, cap, rfl⟩ := okWide_slice Tryz.underlying22 hval
  obtain ⟨m, hm⟩ := h
  rcases open_slice Tryz.underlying22 hm with ⟨hcs, _⟩ | ⟨a, len', cap', m', n', D, Pl, hcs, _, hlc, hmx, hmm, hx, hall⟩
  · have : a0 = none ∧ len = 0 ∧ cap = 0 := by simpa [Value.cells] using hcs
    obtain ⟨rfl, rfl, rfl⟩ := this
    exact ⟨none, 0, 0, [], rfl, ⟨rfl, fun _ => rfl, fun a ha => by cases ha⟩, fun d hd => by simp at hd, by decide⟩
  · have : a0 = some a ∧ len = len' ∧ cap = cap' := by simpa [Value.cells] using hcs
    obtain ⟨rfl, rfl, rfl⟩ := this
    have c11 : Tryz.prog.cellsOf 40 = 11 := by kernel_rfl
    have b96 : Tryz.prog.bytesOf 40 = 96 := by kernel_rfl
    rw [c11] at hall
    simp at hmm
    subst hmm
    simp only [Prod.mk.injEq] at hx
    have sz := sized_slice hsz ht (hx.1 ▸ hd) Tryz.underlying22
    rw [b96] at sz
    obtain ⟨cds, hl, hc, h1⟩ := rows_cells (w := W) (a := a) len (fun i hi => by
      obtain ⟨cs', q1, q2⟩ := hall i (by omega)
      exact ⟨cs', q1, cell_one q2⟩)
    have hr := reachBytes_lt
    simp only [List.length_map, List.length_range] at sz
    by_cases h0 : len = 0
    · subst h0
      obtain rfl : cds = [] := List.eq_nil_of_length_eq_zero hl
      exact ⟨some a, 0, _, [], rfl, ⟨rfl, fun _ => rfl, fun a' ha => ⟨fun i d hd => by simp at hd, fun h => absurd rfl h⟩⟩, fun d hd => by simp at hd, by decide⟩
    · have hlt : a.block < W.heap.size := by
        have hd0 : cds[0]? = some (cds[0]'(by omega)) := List.getElem?_eq_getElem (by omega)
        have := lt_of_cell (hc 0 _ hd0 0 _ rfl)
        rwa [add_blk] at this
      exact ⟨some a, len, _, cds, rfl, ⟨hl, (fun h => by cases h), (fun a' ha => (Option.some.inj ha) ▸ ⟨hc, fun _ => hlt⟩)⟩, h1, by omega⟩
end Go.Proofs.YtccdgjjoeamnjaaGreatDoor.H
namespace Go.Proofs.YtccdgjjoeamnjaaGreatDoor.vmNothing
set_option linter.unusedSimpArgs false
set_option linter.unusedVariables false
open Go.RowKit Go.ChangeShapes Go.WideShapes Go.ChangeAt Go.Proofs.YtccdgjjoeamnjaaGreatDoor.H
set_option maxRecDepth 100000 in
theorem lifted (os : Os) (started : os.Started) (H : Type) (enc : TypeId × Value → H) :
    ReturnsInHanded {} Tryz.checked os 3 .any (fun w args => (Rows.vmNothingSpec.pre enc Tryz.prog Tryz.f3 Rows.vmNothingRow.domain false w args ∧ laidMetH Tryz.prog Rows.vmNothingRow.laid w) ∧ sizedMet enc Tryz.prog Tryz.f3 (OpenSpec.ofChange Rows.vmNothingSpec) false w args)
      (Rows.vmNothingSpec.post enc Tryz.prog Tryz.f3 false true false false) := by
  refine returnsInHanded_of_change_and (C := Tryz.checked) (X := fun w _ => laidMetH Tryz.prog Rows.vmNothingRow.laid w) (fun _ _ _ hh h => h.of_heap hh) ownH started (by kernel_rfl) Tryz.func3
    (ChangeSpec.witness_shaped (enc := enc) (C := Tryz.checked) (os := os) (X := fun w _ => laidMetH Tryz.prog Rows.vmNothingRow.laid w) false (World.laidAll Tryz.prog os Rows.vmNothingRow.laid) #[.slice none 0 0, .int .i64 0, .int .i64 0] 8 (World.laidAll_os _ _ _)
      (World.shaped_of_ZipB (by kernel_rfl) (by kernel_rfl)) (by kernel_rfl) (by kernel_rfl) (by kernel_rfl)
      (by rw [MakeChecks.laidMetH_plain _ _ _ (by kernel_rfl)]; exact laidMet_laidAll _ (by kernel_rfl) (by kernel_rfl))) ?_
  intro W base args ds gs before hval0 hW hc hsz0 hL _
  have hsz : (DataW.weightsEach Tryz.prog (Tryz.f3.params.toList ++ Rows.vmNothingSpec.plain.varTypes Tryz.prog) (ds ++ gs)).all (· ≤ reachBytes) = true := hsz0
  have hval : ∀ (j : Nat) t v, Tryz.f3.params[j]? = some t → args[j]? = some v → Value.okWide Tryz.prog W .any base t v := hval0
  have hW' := hW
  obtain ⟨p, q, hA0, hV, rfl, _, _⟩ := hW
  have hA : DataW.TrodAll enc Tryz.prog W 0 (fun _ => true) true Tryz.f3.params.toList args.toList ds p := hA0
  rw [Tryz.params3] at hA hval hsz
  obtain ⟨v0, vs0, d0, ds0, p0, q0, hargs, rfl, rfl, h0, r0⟩ := trodAll_cons hA
  obtain ⟨v1, vs1, d1, ds1, p1, q1, rfl, rfl, rfl, h1, r1⟩ := trodAll_cons r0
  obtain ⟨v2, vs2, d2, ds2, p2, q2, rfl, rfl, rfl, h2, r2⟩ := trodAll_cons r1
  obtain ⟨rfl, rfl, rfl⟩ := trodAll_nil r2
  obtain rfl : args = #[v0, v1, v2] := by cases args; simp_all
  obtain ⟨rfl, rfl⟩ := trodVars_none hV
  have lt0 := all_ltH h0
  have b0 := fun {W' : World} (bel : Below W.heap.size W W') => Below.trod laidOutH (by kernel_rfl) (of_decide_eq_true (by kernel_rfl)) h0 bel lt0
  obtain ⟨ao, n, c, cds, rfl, hC, hok, hbig⟩ := open_cells hsz (j := 0) rfl rfl (hval 0 22 v0 rfl rfl) h0
  obtain ⟨x1, rfl, rfl, rfl, w1⟩ := open_int Tryz.underlying3 (hval 1 3 v1 rfl rfl) h1
  obtain ⟨x2, rfl, rfl, rfl, w2⟩ := open_int Tryz.underlying3 (hval 2 3 v2 rfl rfl) h2
  clear hA0 hval0 hsz0 hsz
  refine (law_Nothing ao n c cds x1 x2 W hC hok hbig).mono fun e W' ⟨he, bel0⟩ => ?_
  have bel : Below W.heap.size W W' := bel0
  subst he
  exact ⟨_, rfl, _, _, _, [], _, [], hW', trodAll_mk1 (shut_bool Tryz.underlying4 _), (trodAll_cons_mk (b0 bel) (trodAll_cons_mk (shut_int Tryz.underlying3 w1) (trodAll_cons_mk (shut_int Tryz.underlying3 w2) trodAll_mk0))), rfl, bel.frame _, fun h => by cases h⟩
theorem andT {a b : Bool} (ha : a = true) (hb : b = true) : (a && b) = true := by rw [ha, hb]; rfl
set_option maxRecDepth 100000 in
theorem joined : joinedFacts Tryz.pinned.checked.prog 3 Tryz.f3 Rows.vmNothingSpec Rows.vmNothingRow = true := by
  unfold joinedFacts
  exact (andT (andT (andT (andT (andT (andT (andT (andT (andT (andT (andT (andT (andT (andT (andT (andT (andT (andT (andT (andT (andT (andT (andT (andT (andT (andT (andT (andT (andT (andT (andT j0 j1) j2) j3) j4) j5) j6) j7) j8) j9) j10) j11) j12) j13) j14) j15) j16) j17) j18) j19) j20) j21) j22) j23) j24) j25) j26) j27) j28) j29) j30) j31)
theorem over : Rows.vmNothingRow.holds Tryz.pinned (OpenSpec.ofChange Rows.vmNothingSpec) :=
  OpenClaim.holds_of_wide 3 Tryz.f3 rfl rfl rfl rfl rfl rfl rfl ⟨rfl, rfl, rfl, rfl, rfl⟩ rfl rfl rfl rfl rfl named Tryz.func3 joined inst wrap
    (fun os started H enc _ => lifted os started H enc)
theorem card : Rows.VmNothingCardSaid :=
  Claim7.holds_tied_plain_at .later [] [.data, .data, .data, .data, .sentinel, .sentinel, .pinned, .pinned] true (true, "0c1772b8f431f8495515ed4d0f64e031754700f12223d4afb373c0e3edea085c") true over (fun _ h => by cases h) (by kernel_rfl) (fun _ h => by cases h) vmNothing_row_tie rfl ⟨rfl, rfl⟩ (by kernel_rfl) rfl
    (fun f fn hf hfn => by
      obtain rfl : f = 3 := Option.some.inj ((show Tryz.prog.funcNamed "relay/relaylaw21.VmNothing" = some 3 by kernel_rfl).symm.trans hf) |>.symm
      obtain rfl : fn = Tryz.f3 := (Option.some.inj (Tryz.func3.symm.trans hfn)).symm
      exact ⟨by kernel_rfl, fun j t ht => by
        rw [Tryz.params3] at ht
        have hm : t ∈ [22, 3, 3] := by simpa using Array.mem_of_getElem? ht
        have hall : ([22, 3, 3].all fun u => !Tryz.prog.wantsStandIn u) = true := by kernel_rfl
        exact (show Tryz.prog.wantsStandIn t = false by simpa using List.all_eq_true.1 hall t hm)⟩)
    (by kernel_rfl)
end Go.Proofs.YtccdgjjoeamnjaaGreatDoor.vmNothing
namespace Go.Proofs.YtccdgjjoeamnjaaGreatDoor
/-- The card, under a short name, for the claim. -/
theorem vmNothing_holds : Rows.VmNothingCardSaid := vmNothing.card
end Go.Proofs.YtccdgjjoeamnjaaGreatDoor
