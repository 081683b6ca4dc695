/- Contract of Find at a function that turns a row round. Condition: the kinds lie in memory. -/
import Derived.Test.YtflhndjpfiklaaaGreatDoorHStdF
import Derived.Test.YtflhndjpfiklaaaGreatDoorHStdG
namespace Go.Proofs.YtflhndjpfiklaaaGreatDoor.H
set_option linter.unusedVariables false
set_option linter.unusedSimpArgs false
open Go.RowKit Go.Proofs.YtflhndjpfiklaaaGreatDoor.Plain
set_option maxHeartbeats 3200000
set_option maxRecDepth 100000
attribute [local go_sem] ext_from ext_bits cell_isSome un_neg_float
/-- What Find answers for a row and a whole number. -/
def FindOut (j : Nat) (k0 k1 : Int) (e : Ending) : Prop := e = .returned (if isRow k0 ∧ isWhole k1 then .tuple #[.int .i64 j, .int .u8 k0, .int .i64 0] else .tuple #[.int .i64 0, .int .u8 0, .int .i64 91])
theorem fnames_ne : ∀ j : Fin 37, ∀ k : Fin 37, j ≠ k → fnames.getD j ⟨#[]⟩ ≠ fnames.getD k ⟨#[]⟩ := by decide +kernel
theorem Table.at {w : World} {B g c : Nat} {xs : List Value} (h : Table w B (.slice (some ⟨g, 0, none⟩) 37 c) xs) {i : Nat} {v : Value} (hi : xs[i]? = some v) : w.cell? ⟨g, i, none⟩ = some v := by
  have := news_own h.owns i v hi
  rwa [add_pl] at this
theorem toList_inj {a b : ByteArray} (h : a.toList = b.toList) : a = b := by
  rw [ByteArray.toList_eq, ByteArray.toList_eq] at h
  exact ByteArray.ext (Array.toList_inj.1 h)
theorem cell_lt {w : World} {a : Addr} {v : Value} (h : w.cell? a = some v) : a.block < w.heap.size := by
  unfold World.cell? at h
  rcases Nat.lt_or_ge a.block w.heap.size with c | c
  · exact c
  · rw [Array.getElem?_eq_none c] at h; cases h
theorem go_old {w : World} {p : Addr} {v : Value} {o : Obj} (h : w.cell? p = some v) : (w.alloc o).cell? p = some v := ((Below.refl w.heap.size w).alloc (Nat.le_refl _) o |>.cell (cell_lt h)).trans h
theorem ret_row {m : Nat} {k0 k1 r1 : Int} {r2 : Bool} (h : rowOut 2 k0 k1 = .tuple #[.int .u8 r1, .bool r2]) : (if r2 = true then Value.tuple #[.int .i64 m, .int .u8 r1, .int .i64 0] else .tuple #[.int .i64 0, .int .u8 0, .int .i64 91]) = if isRow k0 ∧ isWhole k1 then .tuple #[.int .i64 m, .int .u8 k0, .int .i64 0] else .tuple #[.int .i64 0, .int .u8 0, .int .i64 91] := by
  unfold rowOut at h
  split at h <;> (injection h with h; simp at h; obtain ⟨rfl, rfl⟩ := h; simp_all)
theorem c_findRot (j : Nat) (up : Bool) (hj : j = 25 ∧ up = true ∨ j = 26 ∧ up = false) (l cl : Nat) (k0 k1 : Int) (w : World) (hl : l < w.heap.size) (p0 : w.cell? ⟨l, 0, none⟩ = some (.int .u8 k0)) (p1 : w.cell? ⟨l, 1, none⟩ = some (.int .u8 k1)) :
    Calls Tryz.prog 11 #[.string (fnames.getD j ⟨#[]⟩), .slice (some ⟨l, 0, none⟩) 2 cl] w fun e w' => FindOut j k0 k1 e ∧ Below w.heap.size w w' := by
  have hem : (fnames.getD j ⟨#[]⟩).toList.isEmpty = false := by rcases hj with ⟨rfl, _⟩ | ⟨rfl, _⟩ <;> decide +kernel
  obtain ⟨nm, hnm⟩ : ∃ nm, fnames.getD j ⟨#[]⟩ = nm := ⟨_, rfl⟩
  rw [hnm] at hem ⊢
  have HNM := Lib.hid hnm
  clear hnm
  go_enter Tryz.func11, Tryz.ntmps11
  go_wp2_with (go_at_call 19; with_reducible refine (c_functions _).mono ?_; rintro e w1 ⟨v, xs, rfl, hT, hb1⟩; obtain ⟨g, cap, rfl, hg, hgl⟩ := hT.owns.form (by decide); have HT := Lib.hid hT; clear hT)
  go_loopw [13] (fun i wr => ∃ k : Nat, k ≤ j ∧ i = .int .i64 k ∧ Below w1.heap.size w1 wr) (fun i _ => 37 - (intOf i).toNat)
  case atStart => exact ⟨0, by omega, rfl, Below.refl _ _⟩
  case round =>
    obtain ⟨k, hk, rfl, hb⟩ := hrel
    have h37 : k < 37 := by omega
    obtain ⟨hn1, hn2⟩ := HT.out.named.2 k h37
    have hcell : ∀ (i : Nat) (v : Value), xs[i]? = some v → wr.cell? ⟨g, i, none⟩ = some v := fun i v h => (hb.cell (p := ⟨g, i, none⟩) hgl).trans (HT.out.at h)
    obtain ⟨v1, hv1, f1⟩ := hn2 1 (by decide) (by decide)
    obtain ⟨v2, hv2, f2⟩ := hn2 2 (by decide) (by decide)
    obtain ⟨v3, hv3, f3⟩ := hn2 3 (by decide) (by decide)
    obtain ⟨nk, hnk⟩ : ∃ t, fnames.getD k ⟨#[]⟩ = t := ⟨_, rfl⟩
    rw [hnk] at hn1
    have hc0 := hcell _ _ hn1
    have hc1 := hcell _ _ hv1
    have hc2 := hcell _ _ hv2
    have hc3 := hcell _ _ hv3
    have HNK := Lib.hid hnk
    have HC := Lib.hid hcell
    clear hcell
    by_cases hkj : k = j
    · subst hkj
      obtain ⟨p, gg, d, e1, e2, e3, hF, hK, hR⟩ : RSpec w1 xs k up := by
        rcases hj with ⟨rfl, rfl⟩ | ⟨rfl, rfl⟩
        · exact HT.out.rol
        · exact HT.out.ror
      rw [hv1] at e1
      rw [hv2] at e2
      rw [hv3] at e3
      obtain rfl := Option.some.inj e1
      obtain rfl := Option.some.inj e2
      obtain rfl := Option.some.inj e3
      obtain ⟨a, b, c, rfl, ha⟩ := hF
      obtain ⟨o, i, r, cr, rfl, ho, hi, hr⟩ := hK
      obtain ⟨ra, rfl, hra⟩ := hR
      have ha' := k_go ha hb
      have ho' := k_go ho hb
      have hi' : wr.heap[i]? = some (.cells #[.slice (some ⟨r, 0, none⟩) 2 cr] 91 (0, 0)) := k_go hi hb
      have hr' : wr.heap[r]? = some (.cells #[.func (.func 54) #[] #[], .func (.func 52) #[] #[]] 34 (0, 0)) := k_go hr hb
      obtain rfl : nk = nm := HNK.out.symm.trans HNM.out
      have lo := k_lt ho'
      have li := k_lt hi'
      have lr := k_lt hr'
      have la := k_lt ha'
      have KK := Lib.hid (And.intro ha' (And.intro ho' (And.intro hi' hr')))
      clear e1 e2 e3 ha ho hi hr hra hn1 hn2 hv1 hv2 hv3 f1 f2 f3 hnk HNK ha' ho' hi' hr'
      have he : ∀ (W : World) (A : Addr) (n c : Nat), (binOp .eql 53 (.slice (some A) n c) (.slice none 0 0)).run Tryz.prog W = .ok (.bool false) W := fun _ _ _ _ => rfl
      have hlw : l < wr.heap.size := by have h1 := hb.size; have h2 := hb1.size; omega
      have z0 : wr.cell? ⟨l, 0, none⟩ = some (.int .u8 k0) := (hb.cell (p := ⟨l, 0, none⟩) (by have h2 := hb1.size; show l < _; omega)).trans ((hb1.cell (p := ⟨l, 0, none⟩) hl).trans p0)
      have z1 : wr.cell? ⟨l, 1, none⟩ = some (.int .u8 k1) := (hb.cell (p := ⟨l, 1, none⟩) (by have h2 := hb1.size; show l < _; omega)).trans ((hb1.cell (p := ⟨l, 1, none⟩) hl).trans p1)
      obtain ⟨R, hR⟩ : ∃ R, rowOut 2 k0 k1 = R := ⟨_, rfl⟩
      obtain ⟨r1, r2, hrr⟩ : ∃ r1 r2, R = .tuple #[.int .u8 r1, .bool r2] := by subst hR; unfold rowOut; split <;> exact ⟨_, _, rfl⟩
      subst hrr
      have HR := Lib.hid hR
      clear hR
      go_wp2_with (first | (go_at_call 85; with_reducible refine (c_fixed1 a b 2 c 2 _ (k_al KK.out.1 _)).mono ?_; rintro e w2 ⟨rfl, rfl⟩) | (go_at_call 91; with_reducible refine (c_kindsRow o i r cr cl 2 _ l k0 k1 _ (k_al KK.out.2.1 _) (k_al KK.out.2.2.1 _) (k_al KK.out.2.2.2 _) (fun _ => ⟨rfl, (go_old z0), (go_old z1)⟩)).mono ?_; rintro e w2 ⟨rfl, rfl⟩; rw [HR.out]))
      all_goals
        go_returns
        have hR := HR.out
        refine ⟨?_, b_go hb1 (b_al hb _)⟩
        unfold FindOut
        rw [← ret_row (m := k) hR]
        simp_all
    · have hneq : ¬ nk.toList = nm.toList := fun e => fnames_ne ⟨k, h37⟩ ⟨j, by omega⟩ (fun e => hkj (Fin.mk.inj e)) ((HNK.out.trans (toList_inj e)).trans HNM.out.symm)
      clear hn1 hv1 hv2 hv3 hnk hn2
      by_cases h0 : k = 0
      · subst h0
        simp only [Nat.zero_mul, Nat.zero_add] at hc0 hc1 hc2 hc3
        rcases f1 with ⟨a1, b1, c1, rfl⟩ | ⟨_, rfl⟩ <;> rcases f2 with ⟨a2, b2, c2, rfl⟩ | ⟨_, rfl⟩ <;> rcases f3 with ⟨a3, b3, c3, rfl⟩ | ⟨_, rfl⟩
        all_goals
          go_wp2_with fail
          all_goals exact ⟨⟨1, by omega, by go_num, b_al hb _⟩, by simp [intOf]⟩
      · obtain ⟨a1, b1, c1, rfl⟩ : FnV v1 := f1.resolve_right (fun h => h0 h.1)
        obtain ⟨a2, b2, c2, rfl⟩ : FnV v2 := f2.resolve_right (fun h => h0 h.1)
        obtain ⟨a3, b3, c3, rfl⟩ : FnV v3 := f3.resolve_right (fun h => h0 h.1)
        clear f1 f2 f3
        go_wp2_with fail
        all_goals exact ⟨⟨k + 1, by omega, by go_num, b_al hb _⟩, by simp [intOf]; omega⟩
end Go.Proofs.YtflhndjpfiklaaaGreatDoor.H
