/- Contracts for VmNothing: the run to its end behind a deferred recover, and vm.Run. Conditions: as the machine lies in memory; sizes lie within reach. -/
import Derived.Test.YtccdgjjoeamnjaaGreatDoorHVmF
import Derived.Handy
namespace Go.Proofs.YtccdgjjoeamnjaaGreatDoor.H
set_option linter.unusedVariables false
set_option linter.unusedSimpArgs false
open Go.RowKit Go.Proofs.YtccdgjjoeamnjaaGreatDoor.Plain
set_option maxHeartbeats 3200000
set_option maxRecDepth 100000
attribute [local go_sem] ext_from ext_bits cell_isSome un_neg_float dn_size dn_alloc dn_set
theorem Bar.newer {S T : List Nat} {a b c : World} (h : Bar S a b) (k : Bar T b c) (hT : ∀ t ∈ T, a.heap.size ≤ t) : Bar S a c :=
  ⟨k.os.trans h.os, k.tape.trans h.tape, k.output.trans h.output, Nat.le_trans h.size k.size, fun i hi hn => (k.block i (Nat.lt_of_lt_of_le hi h.size) (fun e => by have := hT i e; omega)).trans (h.block i hi hn)⟩
theorem ta_nil (W : World) : (Instr.typeAssert .nilIface 20 70 true).run Tryz.prog W = .ok (.tuple #[.agg #[.int .i64 0], .bool false]) W := by kernel_rfl
attribute [local go_sem] ta_nil
theorem d_idle (p : Nat) (w : World) (hc : w.cell? ⟨p, 0, none⟩ = some (.int .i64 0)) (hf : w.frozen? ⟨p, 0, none⟩ = false) :
    CallsD Tryz.prog 32 #[.pointer (some ⟨p, 0, none⟩)] .returning w fun e u' w' => e = .returned (.tuple #[]) ∧ u' = .returning ∧ Bar [p] w w' ∧ w'.cell? ⟨p, 0, none⟩ = some (.int .i64 0) := by
  have hp : p < w.heap.size := World.block_lt_of_cell? w ⟨p, 0, none⟩ hc
  refine callsD_of_wpS Tryz.func32 rfl fun c₀ cs hu => ?_
  apply wpS_seq
  apply wpS_region
  simp [wpOpsS, go_sem, recoverD, hu, Tryz.ntmps32, Exit.thenS]
  have e : (#[Value.pointer (some ⟨p, 0, none⟩)] ++ ((Array.replicate 18 undef).setIfInBounds 3 Value.nilIface).setIfInBounds 0 Value.nilIface) = #[.pointer (some ⟨p, 0, none⟩), .nilIface, undef, undef, .nilIface, undef, undef, undef, undef, undef, undef, undef, undef, undef, undef, undef, undef, undef, undef] := rfl
  rw [e]
  refine wpS_of_wp ?_
  go_wp2
  cases c₀
  simp_all [bodyPostS, results, Tryz.results32]
  exact ⟨((Bar.refl _ w).setCell (.inl (by simp)) _).alloc _, (World.cell?_alloc_lt _ _ ⟨p, 0, none⟩ (by simpa [World.setCell] using hp)).trans (World.cell?_setCell_same _ _ _ hc)⟩
theorem v_drive (M C O D F Fr cap r s : Nat) (cells mem : Value) (cs cur : Array Value) (now base : Int) (w : World) (hM : w.heap[M]? = some (mach C cells mem (.slice (some ⟨F, 0, none⟩) 1 cap) (.slice (some ⟨D, 0, none⟩) 24 24) now 0)) (hcap : 1 ≤ cap)
    (hK : CodeAt w C O) (hF : w.heap[F]? = some (.cells cur 64 (0, 0))) (hF0 : cur[0]? = some (.pointer (some ⟨Fr, 0, none⟩))) (hFr : w.heap[Fr]? = some (frm base 0 r s))
    (hD : w.heap[D]? = some (.cells cs 62 (0, 0))) (hD1 : cs[21]? = some (.func (.func 30) #[] #[]))
    (n1 : M ≠ Fr) (n2 : M ≠ F) (n3 : M ≠ C) (n4 : M ≠ O) (n5 : M ≠ D) (n6 : Fr ≠ F) (n7 : Fr ≠ C) (n8 : Fr ≠ O) (n9 : Fr ≠ D) :
    Calls Tryz.prog 15 #[.iface 47 (.pointer (some ⟨M, 0, none⟩))] w fun e w' => e = .returned (.int .i64 0) ∧ w'.heap[M]? = some (mach C cells mem (.slice (some ⟨F, 0, none⟩) 0 cap) (.slice (some ⟨D, 0, none⟩) 24 24) now 1) ∧ Bar [M, Fr] w w' := by
  have hmf : ∀ (fn : Fn) (first cap : Array Value) (w : World), (Instr.makeFunc fn first cap).run Tryz.prog w = .ok (.func fn first cap) w := fun _ _ _ _ => rfl
  have HX := Lib.hid (And.intro hM (And.intro hK (And.intro hF (And.intro hFr hD))))
  have lM := k_lt hM
  have lFr := k_lt hFr
  have lF := k_lt hF
  have lD := k_lt hD
  clear hM hK hF hFr hD
  go_enter_defers Tryz.func15, Tryz.ntmps15
  go_wp2_with fail
  refine wp_loop_rounds 1 ?_
  rw [rounds_succ]
  go_wp2_with (first | (go_at_call 329; go_loud (with_reducible refine (v_step M C O D F Fr cap r s cells mem cs cur now base _ (k_al HX.out.1 _) hcap (HX.out.2.1.go ((Below.refl _ _).alloc (Nat.le_refl _) _)) (k_al HX.out.2.2.1 _) hF0 (k_al HX.out.2.2.2.1 _) (k_al HX.out.2.2.2.2 _) hD1 n1 n2 n3 n4 n5 n6 n7 n8 n9).mono ?_; rintro e w1 ⟨rfl, hM1, hB1⟩; have hr1 := hB1.keep (k_new rfl) (by simp; omega); have x1 := k_cv hr1 0 rfl; have x2 := k_fr hr1 0)))
  have HM1 := Lib.hid hM1
  have HB1 := Lib.hid hB1
  have HR := Lib.hid (k_se (i := 0) (u := .int .i64 0) hr1)
  clear hM1 hB1 hr1 x1 x2
  refine leaves_cons (f := 32) (args := #[.pointer (some ⟨w.heap.size, 0, none⟩)]) (by simp) (by simp [go_sem]) ?_
  refine (d_idle w.heap.size _ (k_cv HR.out 0 rfl) (k_fr HR.out 0)).mono ?_
  rintro e u' w2 ⟨rfl, rfl, hB2, hc2⟩
  have lw : w.heap.size < w1.heap.size := by have := HB1.out.size; simp at this; omega
  simp [Leaves, settle, results, Tryz.results15, go_sem, hc2]
  exact ⟨hB2.keep (k_ot HM1.out (by omega)) (by simp; omega), ((((Bar.refl _ w).alloc _).trans HB1.out).setCell (.inr (Nat.le_refl _)) _).newer hB2 (by simp)⟩
end Go.Proofs.YtccdgjjoeamnjaaGreatDoor.H
