/- Contract of the closure that adds an entry to the standard functions' table. Condition: the table is the call's own. -/
import Derived.Test.YtflhndjpfiklaaaGreatDoorHStdT
namespace Go.Proofs.YtflhndjpfiklaaaGreatDoor.H
set_option linter.unusedVariables false
set_option linter.unusedSimpArgs false
open Go.RowKit Go.Proofs.YtflhndjpfiklaaaGreatDoor.Plain
set_option maxHeartbeats 3200000
set_option maxRecDepth 100000
attribute [local go_sem] ext_from ext_bits cell_isSome un_neg_float
theorem one_set {w : World} {b : Nat} {v u : Value} {t : TypeId} (h : w.heap[b]? = some (.cells #[v] t (0, 0))) : (w.setCell ⟨b, 0, none⟩ u).heap[b]? = some (.cells #[u] t (0, 0)) := one_setCell h
theorem tab_grown {w w1 : World} {B L k : Nat} {xs ys : List Value} {v v' : Value} (hBL : B ≤ L) (hL : w.heap[L]? = some (.cells #[v] 46 (0, 0))) (hown : w.ownsRow B 52 4 v k xs)
    (hg : w.grownBy w1 v.ownBlock) (hown' : w1.ownsRow B 52 4 v' (k + 1) ys) : w1.heap[L]? = some (.cells #[v] 46 (0, 0)) ∧ Tab (w1.setCell ⟨L, 0, none⟩ v') B L (k + 1) ys ∧ Kp L w (w1.setCell ⟨L, 0, none⟩ v') := by
  have row : ∀ g o, w.heap[g]? = some o → (∀ cs fr, o ≠ .cells cs 52 fr) → some g ≠ v.ownBlock := by
    intro g o ho ht e
    rcases hown.2 with ⟨rfl, _⟩ | ⟨g2, cap, cur, rfl, _, e3, _⟩
    · cases e
    · have : g = g2 := Option.some.inj e
      subst this
      rw [e3] at ho
      exact ht cur (0, 0) (Option.some.inj ho).symm
  have hL1 : w1.heap[L]? = some (.cells #[v] 46 (0, 0)) := (hg.block L (k_lt hL) (row L _ hL (fun cs fr e => by cases e))).trans hL
  refine ⟨hL1, ⟨hBL, v', one_set hL1, ?_⟩, ?_⟩
  · refine ownsRow_setCell_other hown' (fun e => ?_) _
    rcases hown'.2 with ⟨rfl, h0⟩ | ⟨g2, cap, cur, rfl, _, e3, _⟩
    · cases e
    · have : g2 = L := Option.some.inj e
      subst this
      rw [e3] at hL1
      cases hL1
  · refine ⟨by have := hg.size; simpa [World.setCell] using this, fun g o ho hne ht => ?_⟩
    exact k_ot ((hg.block g (k_lt ho) (row g o ho ht)).trans ho) hne
theorem c_add (B L k : Nat) (xs : List Value) (nm : ByteArray) (pf gf df : Fn) (pa pc ga gc da dc : Array Value) (w : World) (hT : Tab w B L k xs) (hk : k ≤ 1000) (hB : B ≤ w.heap.size) :
    Calls Tryz.prog 28 #[.string nm, .func pf pa pc, .func gf ga gc, .func df da dc, .pointer (some ⟨L, 0, none⟩)] w fun e w' => e = .returned (.tuple #[]) ∧ Tab w' B L (k + 1) (xs ++ [.string nm, .func pf pa pc, .func gf ga gc, .func df da dc]) ∧ Kp L w w' ∧ Below B w w' := by
  obtain ⟨i0, hi, hz0, hz1, hz2⟩ := info_parts (show (Tryz.prog.info? 52).map (fun i => (i.zero, i.size, i.bytes)) = some (some (.agg #[.string ⟨#[]⟩, .nilFunc, .nilFunc, .nilFunc]), 4, 40) by kernel_rfl)
  obtain ⟨hBL, v, hL, hown⟩ := hT
  obtain ⟨a, c, rfl⟩ := own_shape hown
  have lL := k_lt hL
  have q0 := k_cv hL 0 rfl
  have f0 := k_fr hL 0
  simp only [List.getElem_toArray, List.getElem_cons_succ, List.getElem_cons_zero] at q0
  have HL := Lib.hid hL
  clear hL
  go_enter Tryz.func28, Tryz.ntmps28
  go_wp2_with (at_builtin; go_loud (refine wpList_append_own _ rfl _ _ 46 rfl B 52 i0 _ 4 40 Tryz.underlying46 hi hz0 hz1 hz2 rfl (by decide) _ _ _ rfl (hown.alloc _) ⟨w.heap.size, 0, none⟩ 1 1 [.string nm, .func pf pa pc, .func gf ga gc, .func df da dc] rfl rfl ?c1 ?c2 ?c3 ?c4 ?c5 ?_))
  case c1 =>
    intro j u hj
    rw [add_pl]
    exact (k_cell (k_new rfl) j).trans (by simpa using hj)
  case c2 => intro u hu; simp at hu; rcases hu with rfl | rfl | rfl | rfl <;> rfl
  case c3 => unfold maxLen; omega
  case c4 => omega
  case c5 => simp; omega
  intro v' w1 hown' hgrow hnil
  obtain ⟨a', c', rfl⟩ := own_shape hown'
  obtain ⟨hL1, hTab, hKp⟩ := tab_grown hBL (k_al HL.out _) (hown.alloc _) hgrow hown'
  have q1 := k_cv hL1 0 rfl
  have f1 := k_fr hL1 0
  have hbel : Below B w w1 := ((Below.refl _ w).alloc hB _).grown hgrow (by simp; omega) (fun g hg => (hown.lt g hg).1)
  have HT := Lib.hid hTab
  have HK := Lib.hid hKp
  clear hTab hKp hL1 hown' hgrow hnil hown
  go_wp2
  go_end0
  exact ⟨rfl, HT.out, (Kp.of_below ((Below.refl _ _).alloc (Nat.le_refl _) _)).trans HK.out, hbel.setCell hBL _⟩
end Go.Proofs.YtflhndjpfiklaaaGreatDoor.H
