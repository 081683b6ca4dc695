/- The statement SchedNobody of the seat's rows and its tied card, proved out of the walk of the law. Conditions: the row's own (the listed variables read as laid; the walk reads none of them). -/
import Derived.Test.YtilbgcinmnndhaaGreatDoorCards
import Derived.Test.YtilbgcinmnndhaaGreatDoorTie
import Derived.Test.YtilbgcinmnndhaaGreatDoorHNobW
import Derived.Test.YtilbgcinmnndhaaGreatDoorHClone
import Derived.Deep.Slices
import Derived.ChangeSame
import Derived.Deep.Strs
import Derived.SizedLaws
import Derived.ProofKit
import Derived.OpenShut
import Derived.ShutString
import Derived.LaidMore
import Derived.Lay
import Derived.LaidHandle
import Derived.MakeChecks
import Derived.Lib.SmallJoins
import Derived.Carry
import Derived.Stop.Joined
import Derived.SevenTiedAt
namespace Go.Proofs.YtilbgcinmnndhaaGreatDoor.H
set_option linter.unusedSimpArgs false
set_option linter.unusedVariables false
open Go.RowKit Go.ChangeShapes Go.WideShapes Go.ChangeAt Go.Deep Go.Deep
theorem ownH : ownKnob Tryz.prog.godebug = none := by kernel_rfl
theorem laidOutH : laidOutB Tryz.prog = true := by kernel_rfl
theorem cVal : Tryz.prog.cellsOf 25 = 3 := by kernel_rfl
set_option maxRecDepth 100000 in
theorem open_value {H : Type} {enc : TypeId × Value → H} {W : World} {base : Nat} {v : Value} {d : DataW H} {p : List MemPlace}
    (hval : Value.okWide Tryz.prog W .any base 25 v) (h : DataW.Trod enc Tryz.prog W 0 (fun _ => true) true 25 v d p) :
    ∃ kd b t, v = .agg #[.int .u8 kd, .int .u64 b, .string t] := by
  obtain ⟨v0, v1, v2, y0, y1, y2, n, rfl, hd2, _, h0, h1, h2⟩ := Joins.open_agg3 Tryz.underlying25 (by kernel_rfl) cVal hval h
  obtain ⟨n0, e0, x0, w0⟩ := DataW.trod_int Tryz.underlying22 h0
  obtain ⟨n1, e1, x1, w1⟩ := DataW.trod_int Tryz.underlying23 h1
  obtain ⟨s, e2, x2, _⟩ := DataW.trod_string Tryz.underlying9 h2
  obtain rfl : v0 = .int .u8 n0 := by simpa using e0
  obtain rfl : v1 = .int .u64 n1 := by simpa using e1
  obtain rfl : v2 = .string s := by simpa using e2
  exact ⟨n0, n1, s, rfl⟩
theorem all_ltH {H : Type} {enc : TypeId × Value → H} {P : Program} {w : World} {t : TypeId} {v : Value} {y : DataW H} {p : List MemPlace} (h : DataW.Trod enc P w 0 (fun _ => true) true t v y p) : ∀ x ∈ p, x.block < w.heap.size := by
  obtain ⟨m, hm⟩ := h
  exact DataW.trod_lt m _ _ _ hm
theorem four {cs : List Value} (h : cs.length = 4) : ∃ c0 c1 c2 c3, cs = [c0, c1, c2, c3] := by
  match cs, h with
  | [c0, c1, c2, c3], _ => exact ⟨c0, c1, c2, c3, rfl⟩
set_option maxRecDepth 100000 in
theorem input_one {H : Type} {enc : TypeId × Value → H} {W : World} {base : Nat} {sp : Nat → Bool} {hd : Bool} {fuel : Nat} {cs : List Value} {x : DataW H × List MemPlace} (h : DataW.trod enc Tryz.prog W base sp hd fuel 54 cs = some x) : ∀ u ∈ cs, u.oneCell' = true := by
  obtain ⟨y0, y1, n, _, hl, h0, h1⟩ := trod_struct2 Tryz.underlying54 h
  have hl4 : cs.length = 4 := hl.trans (by kernel_rfl)
  obtain ⟨c0, c1, c2, c3, rfl⟩ := four hl4
  have e1 : Tryz.prog.cellsOf 9 = 1 := by kernel_rfl
  have e2 : Tryz.prog.cellsOf 22 = 1 := by kernel_rfl
  have e3 : Tryz.prog.cellsOf 23 = 1 := by kernel_rfl
  obtain ⟨z0, z1, z2, m, _, _, g0, g1, g2⟩ := trod_struct3 Tryz.underlying25 h1
  simp [e1, e2, e3, cVal] at h0 g0 g1 g2
  obtain ⟨s0, q0, _, _⟩ := DataW.trod_string Tryz.underlying9 h0
  obtain ⟨n1, q1, _, _⟩ := DataW.trod_int Tryz.underlying22 g0
  obtain ⟨n2, q2, _, _⟩ := DataW.trod_int Tryz.underlying23 g1
  obtain ⟨s3, q3, _, _⟩ := DataW.trod_string Tryz.underlying9 g2
  (try simp only [List.cons.injEq, and_true] at q0 q1 q2 q3)
  subst q0 q1 q2 q3
  intro u hu
  simp at hu
  rcases hu with rfl | rfl | rfl | rfl <;> rfl
theorem lt_of_cell {w : World} {a : Addr} {v : Value} (h : w.cell? a = some v) : a.block < w.heap.size := by
  unfold World.cell? at h
  rcases Nat.lt_or_ge a.block w.heap.size with c | c
  · exact c
  · rw [Array.getElem?_eq_none c] at h; cases h
set_option maxRecDepth 100000 in
theorem open_inputs {H : Type} {enc : TypeId × Value → H} {W : World} {base : Nat} {ts : List TypeId} {ds : List (DataW H)} {j : Nat} {v : Value} {d : DataW H} {p : List MemPlace}
    (hsz : (DataW.weightsEach Tryz.prog ts ds).all (· ≤ reachBytes) = true) (ht : ts[j]? = some 26) (hd : ds[j]? = some d)
    (hval : Value.okWide Tryz.prog W .any base 26 v) (h : DataW.Trod enc Tryz.prog W 0 (fun _ => true) true 26 v d p) :
    ∀ W', Below W.heap.size W W' → Calls Tryz.prog 5 #[v] W' fun e w' => (∃ v', e = .returned v') ∧ Below W'.heap.size W' w' := by
  obtain ⟨a0, len, cap, rfl⟩ := okWide_slice Tryz.underlying26 hval
  obtain ⟨m, hm⟩ := h
  rcases open_slice Tryz.underlying26 hm with ⟨hcs, _⟩ | ⟨a, len', cap', m', n', D, Pl, hcs, _, hlc, hmx, hmm, hx, hall⟩
  · have : a0 = none ∧ len = 0 ∧ cap = 0 := by simpa [Value.cells] using hcs
    obtain ⟨rfl, rfl, rfl⟩ := this
    exact fun W' _ => c_clone_nil 0 0 W'
  · have : a0 = some a ∧ len = len' ∧ cap = cap' := by simpa [Value.cells] using hcs
    obtain ⟨rfl, rfl, rfl⟩ := this
    have c4 : Tryz.prog.cellsOf 54 = 4 := by kernel_rfl
    have b48 : Tryz.prog.bytesOf 54 = 48 := by kernel_rfl
    rw [c4] at hall
    simp at hmm
    subst hmm
    simp only [Prod.mk.injEq] at hx
    have sz := sized_slice hsz ht (hx.1 ▸ hd) Tryz.underlying26
    rw [b48] at sz
    obtain ⟨news, hl, hc, h1⟩ := rows_cells (w := W) (a := a) (k := 4) len (fun i hi => by
      obtain ⟨cs', q1, q2⟩ := hall i (by omega)
      exact ⟨cs', q1, input_one q2⟩)
    have hlt : ∀ j u, news[j]? = some u → (a.add j).block < W.heap.size := fun j u hj => lt_of_cell (hc j u hj)
    have hr := reachBytes_lt
    simp only [List.length_map, List.length_range] at sz
    exact fun W' hW => c_clone a _ _ news W' hl (by omega) (by omega) (fun j u hj => (hW.cell (hlt j u hj)).trans (hc j u hj)) h1
end Go.Proofs.YtilbgcinmnndhaaGreatDoor.H
namespace Go.Proofs.YtilbgcinmnndhaaGreatDoor.schedNobody
set_option linter.unusedSimpArgs false
set_option linter.unusedVariables false
open Go.RowKit Go.ChangeShapes Go.WideShapes Go.ChangeAt Go.Proofs.YtilbgcinmnndhaaGreatDoor.H
set_option maxRecDepth 100000 in
theorem lifted (os : Os) (started : os.Started) (H : Type) (enc : TypeId × Value → H) :
    ReturnsInHanded {} Tryz.checked os 3 .any (fun w args => (Rows.schedNobodySpec.pre enc Tryz.prog Tryz.f3 Rows.schedNobodyRow.domain false w args ∧ laidMetH Tryz.prog Rows.schedNobodyRow.laid w) ∧ sizedMet enc Tryz.prog Tryz.f3 (OpenSpec.ofChange Rows.schedNobodySpec) false w args)
      (Rows.schedNobodySpec.post enc Tryz.prog Tryz.f3 false true false false) := by
  refine returnsInHanded_of_change_and (C := Tryz.checked) (X := fun w _ => laidMetH Tryz.prog Rows.schedNobodyRow.laid w) (fun _ _ _ hh h => h.of_heap hh) ownH started (by kernel_rfl) Tryz.func3
    (ChangeSpec.witness_shaped (enc := enc) (C := Tryz.checked) (os := os) (X := fun w _ => laidMetH Tryz.prog Rows.schedNobodyRow.laid w) false (World.laidAll Tryz.prog os Rows.schedNobodyRow.laid) #[.int .i64 0, .agg #[.int .u8 0, .int .u64 0, .string ByteArray.empty], .slice none 0 0] 8 (World.laidAll_os _ _ _)
      (World.shaped_of_ZipB (by kernel_rfl) (by kernel_rfl)) (by kernel_rfl) (by kernel_rfl) (by kernel_rfl)
      (by rw [MakeChecks.laidMetH_plain _ _ _ (by kernel_rfl)]; exact laidMet_laidAll _ (by kernel_rfl) (by kernel_rfl))) ?_
  intro W base args ds gs before hval0 hW hc hsz0 hL _
  have hsz : (DataW.weightsEach Tryz.prog (Tryz.f3.params.toList ++ Rows.schedNobodySpec.plain.varTypes Tryz.prog) (ds ++ gs)).all (· ≤ reachBytes) = true := hsz0
  have hval : ∀ (j : Nat) t v, Tryz.f3.params[j]? = some t → args[j]? = some v → Value.okWide Tryz.prog W .any base t v := hval0
  have hW' := hW
  obtain ⟨p, q, hA0, hV, rfl, _, _⟩ := hW
  have hA : DataW.TrodAll enc Tryz.prog W 0 (fun _ => true) true Tryz.f3.params.toList args.toList ds p := hA0
  rw [Tryz.params3] at hA hval hsz
  obtain ⟨v0, vs0, d0, ds0, p0, q0, hargs, rfl, rfl, h0, r0⟩ := trodAll_cons hA
  obtain ⟨v1, vs1, d1, ds1, p1, q1, rfl, rfl, rfl, h1, r1⟩ := trodAll_cons r0
  obtain ⟨v2, vs2, d2, ds2, p2, q2, rfl, rfl, rfl, h2, r2⟩ := trodAll_cons r1
  obtain ⟨rfl, rfl, rfl⟩ := trodAll_nil r2
  obtain rfl : args = #[v0, v1, v2] := by cases args; simp_all
  obtain ⟨rfl, rfl⟩ := trodVars_none hV
  have lt1 := all_ltH h1
  have lt2 := all_ltH h2
  have b1 := fun {W' : World} (bel : Below W.heap.size W W') => Below.trod laidOutH (by kernel_rfl) (of_decide_eq_true (by kernel_rfl)) h1 bel lt1
  have b2 := fun {W' : World} (bel : Below W.heap.size W W') => Below.trod laidOutH (by kernel_rfl) (of_decide_eq_true (by kernel_rfl)) h2 bel lt2
  obtain ⟨n, rfl, rfl, rfl, wn⟩ := open_int Tryz.underlying3 (hval 0 3 v0 rfl rfl) h0
  obtain ⟨k, b, t, rfl⟩ := open_value (hval 1 25 v1 rfl rfl) h1
  have HC := open_inputs hsz (j := 2) rfl rfl (hval 2 26 v2 rfl rfl) h2
  clear hA0 hval0 hsz0 hsz
  refine (law_Nobody n k b t v2 W HC).mono fun e W' ⟨he, bel0⟩ => ?_
  have bel : Below W.heap.size W W' := bel0
  subst he
  exact ⟨_, rfl, _, _, _, [], _, [], hW', trodAll_mk1 (shut_bool Tryz.underlying4 _), (trodAll_cons_mk (shut_int Tryz.underlying3 wn) (trodAll_cons_mk (b1 bel) (trodAll_cons_mk (b2 bel) trodAll_mk0))), rfl, bel.frame _, fun h => by cases h⟩
theorem andT {a b : Bool} (ha : a = true) (hb : b = true) : (a && b) = true := by rw [ha, hb]; rfl
theorem j0 : (Rows.schedNobodyRow.wf (OpenSpec.ofChange Rows.schedNobodySpec)) = true := by kernel_rfl
theorem j1 : (laidOutB Tryz.pinned.checked.prog) = true := by kernel_rfl
theorem j2 : (mapsRowed Tryz.pinned.checked.prog) = true := by kernel_rfl
theorem j3 : (Tryz.f3.params.all (Tryz.pinned.checked.prog.readableRec ·)) = true := by kernel_rfl
theorem j4 : (namedTie Tryz.pinned.checked.prog Rows.schedNobodyRow.named Rows.schedNobodySpec.vars) = true := by kernel_rfl
theorem j5 : ((Rows.schedNobodyRow.stops == [])) = true := by kernel_rfl
theorem j6 : ((Tryz.pinned.checked.prog.stops == [])) = true := by kernel_rfl
theorem j7 : ((Rows.schedNobodyRow.knobs == [])) = true := by kernel_rfl
theorem j8 : ((Tryz.pinned.checked.prog.stopKnobs == [])) = true := by kernel_rfl
theorem j9 : ((Rows.schedNobodyRow.inPlace == Tryz.pinned.checked.prog.inPlace 3)) = true := by kernel_rfl
theorem j10 : ((Rows.schedNobodyRow.unfollowed == Tryz.pinned.checked.prog.unfollowed 3)) = true := by kernel_rfl
theorem j11 : ((Rows.schedNobodyRow.recurses == Tryz.pinned.checked.prog.recurses 3)) = true := by kernel_rfl
theorem j12 : ((Rows.schedNobodyRow.named == Tryz.pinned.checked.prog.varsNamed 3)) = true := by kernel_rfl
theorem j13 : ((Rows.schedNobodyRow.maps == (Tryz.f3.params.toList ++ Rows.schedNobodySpec.plain.varTypes Tryz.pinned.checked.prog).any (Tryz.pinned.checked.prog.mapsRec ·))) = true := by kernel_rfl
theorem j14 : ((Rows.schedNobodyRow.ifaces == (Tryz.f3.params.toList ++ Rows.schedNobodySpec.plain.varTypes Tryz.pinned.checked.prog).any (Tryz.pinned.checked.prog.ifacesRec ·))) = true := by kernel_rfl
theorem j15 : ((Rows.schedNobodyRow.mapsOut == Tryz.pinned.checked.prog.mapsAmong Tryz.f3.resultTypes.toList)) = true := by kernel_rfl
theorem j16 : ((Rows.schedNobodyRow.loops == (Tryz.f3.params.toList ++ Rows.schedNobodySpec.plain.varTypes Tryz.pinned.checked.prog).any (Tryz.pinned.checked.prog.loopsFrom ·))) = true := by kernel_rfl
theorem j17 : ((Rows.schedNobodyRow.wideKeys == (Tryz.f3.params.toList ++ Rows.schedNobodySpec.plain.varTypes Tryz.pinned.checked.prog ++ Tryz.f3.resultTypes.toList).any (Tryz.pinned.checked.prog.wideKeysFrom ·))) = true := by kernel_rfl
theorem j18 : (Rows.schedNobodySpec.vars.all (Tryz.pinned.checked.prog.varReadable ·)) = true := by kernel_rfl
theorem j19 : (Tryz.f3.resultTypes.all (fun t => Tryz.pinned.checked.prog.readableRec t && decide (t < Tryz.pinned.checked.prog.types.size))) = true := by kernel_rfl
theorem j20 : ((Rows.schedNobodyRow.ifacesOut == Tryz.f3.resultTypes.toList.any (Tryz.pinned.checked.prog.ifacesRec ·))) = true := by kernel_rfl
theorem j21 : ((Rows.schedNobodyRow.loopsOut == Tryz.f3.resultTypes.toList.any (Tryz.pinned.checked.prog.loopsFrom ·))) = true := by kernel_rfl
theorem j22 : ((Rows.schedNobodyRow.plainKeys == Tryz.pinned.checked.prog.plainKeys)) = true := by kernel_rfl
theorem j23 : (Rows.schedNobodyRow.shortTexts.isNone) = true := by kernel_rfl
theorem j24 : (Tryz.pinned.checked.prog.stopsHeard) = true := by kernel_rfl
theorem j25 : (Tryz.pinned.checked.prog.mayEnter) = true := by kernel_rfl
theorem j26 : ((Rows.schedNobodyRow.lifted == Tryz.pinned.checked.prog.liftsFinal)) = true := by kernel_rfl
theorem j27 : ((Tryz.pinned.checked.prog.make == some Rows.schedNobodyRow.make)) = true := by kernel_rfl
theorem j28 : ((Rows.schedNobodyRow.kinds == (if Rows.schedNobodyRow.domain.isEmpty then [] else Tryz.f3.params.toList.map fun t => match Tryz.pinned.checked.prog.underlying t with | some (.int k) => some k | _ => none))) = true := by kernel_rfl
theorem j29 : ((Rows.schedNobodyRow.pinned == Rows.schedNobodyRow.pinnedBy)) = true := by kernel_rfl
theorem j30 : ((Rows.schedNobodyRow.veiled == (Tryz.f3.params.toList ++ Rows.schedNobodySpec.plain.varTypes Tryz.pinned.checked.prog ++ Tryz.f3.resultTypes.toList).any (Tryz.pinned.checked.prog.veiledRec ·))) = true := by kernel_rfl
theorem j31 : (Rows.schedNobodyRow.veiledFits Tryz.pinned.checked.prog Tryz.f3.params.toList (Tryz.f3.params.toList ++ Rows.schedNobodySpec.plain.varTypes Tryz.pinned.checked.prog ++ Tryz.f3.resultTypes.toList)) = true := by kernel_rfl
set_option maxRecDepth 100000 in
theorem joined : joinedFacts Tryz.pinned.checked.prog 3 Tryz.f3 Rows.schedNobodySpec Rows.schedNobodyRow = true := by
  unfold joinedFacts
  exact (andT (andT (andT (andT (andT (andT (andT (andT (andT (andT (andT (andT (andT (andT (andT (andT (andT (andT (andT (andT (andT (andT (andT (andT (andT (andT (andT (andT (andT (andT (andT j0 j1) j2) j3) j4) j5) j6) j7) j8) j9) j10) j11) j12) j13) j14) j15) j16) j17) j18) j19) j20) j21) j22) j23) j24) j25) j26) j27) j28) j29) j30) j31)
theorem named : Tryz.pinned.checked.prog.funcNamed Rows.schedNobodyRow.func = some 3 := by kernel_rfl
theorem inst : Tryz.f3.isInstance Tryz.pinned.checked.prog Rows.schedNobodyRow.origin Rows.schedNobodyRow.targs := of_decide_eq_true (by kernel_rfl)
theorem wrap : Tryz.f3.isWrapper Tryz.pinned.checked.prog Rows.schedNobodyRow.wrapper Rows.schedNobodyRow.mainSum := by unfold Func.isWrapper; first | (rw [if_pos (by decide +kernel)]; kernel_rfl) | (rw [if_neg (by decide +kernel)]; exact ⟨rfl, rfl⟩)

theorem over : Rows.schedNobodyRow.holds Tryz.pinned (OpenSpec.ofChange Rows.schedNobodySpec) :=
  OpenClaim.holds_of_wide 3 Tryz.f3 rfl rfl rfl rfl rfl rfl rfl ⟨rfl, rfl, rfl, rfl, rfl⟩ rfl rfl rfl rfl rfl named Tryz.func3 joined inst wrap
    (fun os started H enc _ => lifted os started H enc)
theorem card : Rows.SchedNobodyCardSaid :=
  Claim7.holds_tied_plain_at .later [] [.data, .data, .data, .data, .sentinel, .sentinel, .pinned, .pinned] true (true, "ce29b5795d44e09b3e47d60ef52f5eb79e45610caa19cf14f8ecc7d5a142f80f") true over (fun _ h => by cases h) (by kernel_rfl) (fun _ h => by cases h) schedNobody_row_tie rfl ⟨rfl, rfl⟩ (by kernel_rfl) rfl
    (fun f fn hf hfn => by
      obtain rfl : f = 3 := Option.some.inj ((show Tryz.prog.funcNamed "relay/relaylaw23.SchedNobody" = some 3 by kernel_rfl).symm.trans hf) |>.symm
      obtain rfl : fn = Tryz.f3 := (Option.some.inj (Tryz.func3.symm.trans hfn)).symm
      exact ⟨by kernel_rfl, fun j t ht => by
        rw [Tryz.params3] at ht
        have hm : t ∈ [3, 25, 26] := by simpa using Array.mem_of_getElem? ht
        have hall : ([3, 25, 26].all fun u => !Tryz.prog.wantsStandIn u) = true := by kernel_rfl
        exact (show Tryz.prog.wantsStandIn t = false by simpa using List.all_eq_true.1 hall t hm)⟩)
    (by kernel_rfl)
end Go.Proofs.YtilbgcinmnndhaaGreatDoor.schedNobody
namespace Go.Proofs.YtilbgcinmnndhaaGreatDoor
/-- The card, under a short name, for the claim. -/
theorem schedNobody_holds : Rows.SchedNobodyCardSaid := schedNobody.card
end Go.Proofs.YtilbgcinmnndhaaGreatDoor
