/- Contract of the law's own call: the kinds of the values, Find, Call. Condition: what Find and Call answer (given as contracts); the values lie in memory. -/
import Derived.Test.YtflhndjpfiklaaaGreatDoorHStdI
namespace Go.Proofs.YtflhndjpfiklaaaGreatDoor.H
set_option linter.unusedVariables false
set_option linter.unusedSimpArgs false
open Go.RowKit Go.Proofs.YtflhndjpfiklaaaGreatDoor.Plain
set_option maxHeartbeats 3200000
set_option maxRecDepth 100000
attribute [local go_sem] ext_from ext_bits cell_isSome un_neg_float
abbrev Val := Int × Int × ByteArray
/-- Values that lie in a block. -/
def Args (w : World) (l : Nat) (ds : List Val) : Prop := l < w.heap.size ∧ ∀ i d, ds[i]? = some d → w.cell? ⟨l, i * 3, none⟩ = some (.int .u8 d.1) ∧ w.cell? ⟨l, i * 3 + 1, none⟩ = some (.int .u64 d.2.1) ∧ w.cell? ⟨l, i * 3 + 2, none⟩ = some (.string d.2.2)
theorem Args.go {w w' : World} {l : Nat} {ds : List Val} (h : Args w l ds) (hb : Below w.heap.size w w') : Args w' l ds :=
  ⟨Nat.lt_of_lt_of_le h.1 hb.size, fun i d hd => let ⟨a, b, c⟩ := h.2 i d hd; ⟨(hb.cell (p := ⟨l, _, none⟩) h.1).trans a, (hb.cell (p := ⟨l, _, none⟩) h.1).trans b, (hb.cell (p := ⟨l, _, none⟩) h.1).trans c⟩⟩
def kindsOf (ds : List Val) : List Value := ds.map (fun d => .int .u8 d.1)
theorem kinds_step {ds : List Val} {k : Nat} {d : Val} (h : ds[k]? = some d) : (kindsOf ds).take k ++ [.int .u8 d.1] = (kindsOf ds).take (k + 1) := by
  rw [List.take_add_one]
  simp [kindsOf, h]
/-- The kinds of values, in a block. -/
def Kinds (w : World) (A : Option Addr) (ds : List Val) : Prop := ∃ g, A = some ⟨g, 0, none⟩ ∧ g < w.heap.size ∧ ∀ i d, ds[i]? = some d → w.cell? ⟨g, i, none⟩ = some (.int .u8 d.1)
theorem kinds_own {w : World} {B c n : Nat} {A : Option Addr} {ds : List Val} (h : w.ownsRow B 22 1 (.slice A n c) n (kindsOf ds)) (h0 : 0 < n) : Kinds w A ds := by
  rcases h.2 with ⟨e, e2⟩ | ⟨g2, cap, cur, e, _, hg, _, _, _, ht⟩
  · cases e; omega
  · cases e
    refine ⟨g2, rfl, k_lt hg, fun i d hd => ?_⟩
    rw [k_cell hg i]
    have hu : (kindsOf ds)[i]? = some (.int .u8 d.1) := by simp [kindsOf, hd]
    rw [← ht, List.getElem?_take] at hu
    split at hu
    · simpa using hu
    · cases hu
/-- What the law's call gives. -/
def callR (er : Int) (r : Int × Int × ByteArray × Int) : Int × Int × ByteArray × Bool := if er = 0 then (r.1, r.2.1, r.2.2.1, r.2.2.2 == 0) else (0, 0, ⟨#[]⟩, false)
/-- A result's cells, still zero. -/
abbrev R0 : Obj := .cells #[.int .u8 0, .int .u64 0, .string ⟨#[]⟩] 25 (0, 0)
theorem alloc_size (w : World) (o : Obj) : (w.alloc o).heap.size = w.heap.size + 1 := by simp
theorem c_lawCall (nm : ByteArray) (fn k er : Int) (l n cl : Nat) (ds : List Val) (r : Int × Int × ByteArray × Int) (w : World) (hA : Args w l ds) (hn : ds.length = n) (h0 : 0 < n) (hs : n ≤ 1000)
    (hF : ∀ (W : World) (A : Option Addr) (c : Nat), Kinds W A ds → Calls Tryz.prog 11 #[.string nm, .slice A n c] W fun e w' => e = .returned (.tuple #[.int .i64 fn, .int .u8 k, .int .i64 er]) ∧ Below W.heap.size W w')
    (hC : er = 0 → ∀ W : World, Args W l ds → Calls Tryz.prog 13 #[.int .i64 fn, .slice (some ⟨l, 0, none⟩) n cl] W fun e w' => e = .returned (.tuple #[.agg #[.int .u8 (r).1, .int .u64 (r).2.1, .string (r).2.2.1], .int .i64 (r).2.2.2]) ∧ Below W.heap.size W w') :
    Calls Tryz.prog 8 #[.string nm, .slice (some ⟨l, 0, none⟩) n cl] w fun e w' => e = .returned (.tuple #[.agg #[.int .u8 (callR er r).1, .int .u64 (callR er r).2.1, .string (callR er r).2.2.1], .bool (callR er r).2.2.2]) ∧ Below w.heap.size w w' := by
  obtain ⟨i0, hi, hz0, hz1, hz2⟩ := info_parts (show (Tryz.prog.info? 22).map (fun i => (i.zero, i.size, i.bytes)) = some (some (.int .u8 0), 1, 1) by kernel_rfl)
  go_enter Tryz.func8, Tryz.ntmps8
  go_wp2_with fail
  go_loopw [6, 16] (fun u i wr => ∃ k : Nat, k ≤ n ∧ i = .int .i64 k ∧ wr.ownsRow (w.heap.size + 1) 22 1 u k ((kindsOf ds).take k) ∧ Below (w.heap.size + 1) (w.alloc R0) wr) (fun _ i _ => n - (intOf i).toNat)
  case atStart => exact ⟨0, by omega, rfl, World.ownsRow_nil _ _ _ _, Below.refl _ _⟩
  case round =>
    obtain ⟨k, hk, rfl, hown, hbeR⟩ := hrel
    have hbel : Below w.heap.size w wr := b_go (b_al (Below.refl _ _) _) (by rw [alloc_size]; exact hbeR)
    have K0 : wr.heap[w.heap.size]? = some R0 := k_go (k_new rfl) (by rw [alloc_size]; exact hbeR)
    by_cases hkn : k < n
    · obtain ⟨d, hd⟩ : ∃ d, ds[k]? = some d := ⟨_, List.getElem?_eq_getElem (by omega)⟩
      obtain ⟨z0, z1, z2⟩ := (hA.go hbel).2 k d hd
      go_wp2_with (at_builtin; go_loud (refine wpList_append_own _ rfl _ _ 37 rfl (w.heap.size + 1) 22 i0 _ 1 1 Tryz.underlying37 hi hz0 hz1 hz2 rfl (by decide) _ _ _ rfl ((hown.alloc _).alloc _) ⟨wr.heap.size + 1, 0, none⟩ 1 1 [.int .u8 d.1] rfl rfl ?c1 ?c2 ?c3 ?c4 ?c5 ?_))
      case c1 =>
        intro j u hj
        rw [add_pl]
        exact (k_cell (k_new (by simp)) j).trans (by simpa using hj)
      case c2 => intro u hu; simp at hu; subst hu; rfl
      case c3 => unfold maxLen; omega
      case c4 => omega
      case c5 => have h1 := hbeR.size; simp at h1 ⊢; omega
      intro v' w3 hown' hgrow hnil
      go_wp2
      go_roundw
      case rel =>
        have h9 : w.heap.size + 1 ≤ wr.heap.size := by have h1 := hbeR.size; simp at h1; omega
        refine ⟨k + 1, by omega, by go_num, ?_, ?_⟩
        · rw [← kinds_step hd]; exact hown'
        · exact Below.grown (row := u6.ownBlock) (hbeR.alloc h9 _ |>.alloc (Nat.le_trans h9 (Nat.le_of_lt (by simp))) _) hgrow (by have h1 := hbeR.size; simp at h1 ⊢; omega) (fun g hg => (hown.lt g hg).1)
      case measure => simp [intOf]; omega
    · obtain rfl : k = n := by omega
      obtain ⟨a, c, rfl⟩ := own_shape hown
      rw [List.take_of_length_le (by simp [kindsOf, hn])] at hown
      have hK := kinds_own hown h0
      have hA1 := hA.go hbel
      by_cases he : er = 0
      · have hC0 := hC he
        subst he
        have HR := Lib.hid (show callR 0 r = (r.1, r.2.1, r.2.2.1, r.2.2.2 == 0) from rfl)
        clear hC hkn hk
        go_wp2_with (first | (go_at_call 11; with_reducible refine (hF _ _ _ hK).mono ?_; rintro e w1 ⟨rfl, hb1⟩) | (go_at_call 13; with_reducible refine (hC0 _ (hA1.go hb1)).mono ?_; rintro e w2 ⟨rfl, hb2⟩; have K2 := k_go (k_go K0 hb1) hb2; have y0 := k_cv K2 0 rfl; have y1 := k_cv K2 1 rfl; have y2 := k_cv K2 2 rfl; have g0 := k_fr K2 0; have g1 := k_fr K2 1; have g2 := k_fr K2 2; have l2 := k_lt K2; simp only [List.getElem_toArray, List.getElem_cons_succ, List.getElem_cons_zero] at y0 y1 y2))
        refine bodyPost_ret (v := .tuple #[.agg #[.int .u8 (callR 0 r).1, .int .u64 (callR 0 r).2.1, .string (callR 0 r).2.2.1], .bool (callR 0 r).2.2.2]) ?hr rfl ⟨rfl, ?hB⟩
        case hB => repeat (first | exact hbel | apply b_al | (refine b_st ?_ ?hg _; case hg => exact Nat.le_refl _) | (refine b_go ?_ (by assumption)))
        case hr =>
          have q := fun (y0 y1 y2 : Value) => set3 (w1 := w2) (g := w.heap.size) K2 y0 y1 y2
          have q0 := fun (y0 y1 y2 : Value) => (q y0 y1 y2).1
          have q1 := fun (y0 y1 y2 : Value) => (q y0 y1 y2).2.1
          have q2 := fun (y0 y1 y2 : Value) => (q y0 y1 y2).2.2
          clear q
          simp [results, Tryz.results8, go_sem, l2, q0, q1, q2, HR.out]
      · have hf : (er == 0) = false := by simpa using he
        have HR := Lib.hid (show callR er r = (0, 0, ⟨#[]⟩, false) from if_neg he)
        clear hC hkn hk
        go_wp2_with (first | (go_at_call 11; with_reducible refine (hF _ _ _ hK).mono ?_; rintro e w1 ⟨rfl, hb1⟩; have K2 := k_go K0 hb1; have y0 := k_cv K2 0 rfl; have y1 := k_cv K2 1 rfl; have y2 := k_cv K2 2 rfl; have g0 := k_fr K2 0; have g1 := k_fr K2 1; have g2 := k_fr K2 2; have l2 := k_lt K2; simp only [List.getElem_toArray, List.getElem_cons_succ, List.getElem_cons_zero] at y0 y1 y2))
        refine bodyPost_ret (v := .tuple #[.agg #[.int .u8 (callR er r).1, .int .u64 (callR er r).2.1, .string (callR er r).2.2.1], .bool (callR er r).2.2.2]) ?hr rfl ⟨rfl, ?hB⟩
        case hB => repeat (first | exact hbel | apply b_al | (refine b_st ?_ ?hg _; case hg => exact Nat.le_refl _) | (refine b_go ?_ (by assumption)))
        case hr =>
          have q := fun (y0 y1 y2 : Value) => set3 (w1 := w1) (g := w.heap.size) K2 y0 y1 y2
          have q0 := fun (y0 y1 y2 : Value) => (q y0 y1 y2).1
          have q1 := fun (y0 y1 y2 : Value) => (q y0 y1 y2).2.1
          have q2 := fun (y0 y1 y2 : Value) => (q y0 y1 y2).2.2
          clear q
          simp [results, Tryz.results8, go_sem, l2, q0, q1, q2, HR.out]
end Go.Proofs.YtflhndjpfiklaaaGreatDoor.H
