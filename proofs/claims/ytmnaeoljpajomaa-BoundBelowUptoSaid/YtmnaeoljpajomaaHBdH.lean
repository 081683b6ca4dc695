/- Contract of bound's calls: the lists of all codes' calls. Condition: sizes within reach. -/
import Derived.Test.YtmnaeoljpajomaaHBdG
namespace Go.Proofs.Ytmnaeoljpajomaa.H
set_option linter.unusedVariables false
set_option linter.unusedSimpArgs false
open Go.RowKit Go.Proofs.Ytmnaeoljpajomaa.Plain Go.Sort
set_option maxHeartbeats 3200000
set_option maxRecDepth 100000
attribute [local go_sem] ext_from ext_bits cell_isSome un_neg_float
/-- Lists of numbers in a slice of the walk's own. -/
def Lists (w : World) (B : Nat) (v : Value) (ls : List (List Int)) : Prop := ∃ vs : List Value, w.ownsRow B 27 1 v ls.length vs ∧ vs.length = ls.length ∧ ∀ (i : Nat) u zs, vs[i]? = some u → ls[i]? = some zs → Ints w 0 u zs
theorem Lists.go {w w' : World} {B : Nat} {v : Value} {ls : List (List Int)} (h : Lists w B v ls) (hb : Below w.heap.size w w') : Lists w' B v ls := by
  obtain ⟨vs, h1, h2, h3⟩ := h
  exact ⟨vs, own_below h1 hb, h2, fun i u zs a b => (h3 i u zs a b).go hb⟩
theorem lists_nil (w : World) (B : Nat) : Lists w B (.slice none 0 0) [] := ⟨[], World.ownsRow_nil _ _ _ _, rfl, fun i u zs a => by simp at a⟩
theorem lists_add {w : World} {B : Nat} {v u : Value} {vs : List Value} {ls : List (List Int)} {zs : List Int} {n : Nat} (hn : n = ls.length + 1) (h1 : w.ownsRow B 27 1 v n (vs ++ [u])) (h2 : vs.length = ls.length) (h3 : ∀ (i : Nat) u zs, vs[i]? = some u → ls[i]? = some zs → Ints w 0 u zs) (h4 : Ints w 0 u zs) : Lists w B v (ls ++ [zs]) := by
  subst hn
  refine ⟨vs ++ [u], by simpa using h1, by simp [h2], fun i u' zs' hu hz => ?_⟩
  rcases Nat.lt_or_ge i vs.length with c | c
  · rw [List.getElem?_append_left c] at hu
    rw [List.getElem?_append_left (by omega)] at hz
    exact h3 i u' zs' hu hz
  · have hi : i = vs.length := by
      rcases Nat.lt_or_ge vs.length i with x | x
      · rw [List.getElem?_eq_none (by simp; omega)] at hu; cases hu
      · omega
    rw [List.getElem?_append_right c, hi, Nat.sub_self] at hu
    rw [List.getElem?_append_right (by omega), hi, h2, Nat.sub_self] at hz
    obtain rfl : u = u' := by simpa using hu
    obtain rfl : zs = zs' := by simpa using hz
    exact h4
/-- Lists are answered. -/
def OutL (B : Nat) (e : Ending) (ls : List (List Int)) (w : World) : Prop := ∃ v, e = .returned v ∧ Lists w B v ls
/-- All codes' calls. -/
def allV (fs : List FlatD) : List (List Int) := fs.map fun f => callsV f.ops
theorem allV_step {fs : List FlatD} {k : Nat} {f : FlatD} (h : fs[k]? = some f) : allV (fs.take (k + 1)) = allV (fs.take k) ++ [callsV f.ops] := by
  rw [List.take_add_one, h]
  simp [allV]
theorem allV_len (fs : List FlatD) : (allV fs).length = fs.length := by simp [allV]
theorem callsV_len (ops : List OpD) : (callsV ops).length ≤ ops.length := by
  have h1 := Lib.compact_length_le (sortI (callsOf ops))
  rw [sortI_len] at h1
  exact Nat.le_trans h1 (callsOf_len ops)
theorem c_calls (ao : Option Addr) (n c : Nat) (fs : List FlatD) (w : World) (hC : Codes w ao n fs) (hs : ∀ f ∈ fs, FlatSz f) (hbig : n * 104 ≤ 140737488355328) :
    Calls Try.prog 21 #[.slice ao n c] w fun e w' => OutL w.heap.size e (allV fs) w' ∧ Below w.heap.size w w' := by
  obtain ⟨i0, hi, hz0, hz1, hz2⟩ := info_parts (show (Try.prog.info? 27).map (fun i => (i.zero, i.size, i.bytes)) = some (some (.slice none 0 0), 1, 24) by kernel_rfl)
  obtain ⟨hl, hS, hok⟩ := hC
  go_enter Try.func21, Try.ntmps21
  go_wp2_with fail
  go_loopw [3, 8] (fun u i wr => ∃ (k : Nat), k ≤ n ∧ i = .int .i64 k ∧ Lists wr w.heap.size u (allV (fs.take k)) ∧ Below w.heap.size w wr) (fun _ i _ => n - (intOf i).toNat)
  case atStart => exact ⟨0, Nat.zero_le _, rfl, lists_nil _ _, Below.refl _ _⟩
  case round =>
    obtain ⟨k, hk, rfl, ⟨vs, hown, hvl, hfo⟩, hbel⟩ := hrel
    have hkl : (allV (fs.take k)).length = k := by rw [allV_len, List.length_take]; omega
    by_cases hkn : k < n
    · obtain ⟨f, hf⟩ : ∃ f, fs[k]? = some f := ⟨_, List.getElem?_eq_getElem (by omega)⟩
      have hfm := List.mem_of_getElem? hf
      rcases ao with _ | a
      · exact absurd (hS.2.1 rfl) (by omega)
      have hSr := hS.go hbel
      have z0 := hSr.at0 FlatD.len hf rfl
      have z1 := hSr.atS FlatD.len hf (j := 1) (by decide) rfl
      have z2 := hSr.atS FlatD.len hf (j := 2) (by decide) rfl
      have z3 := hSr.atS FlatD.len hf (j := 3) (by decide) rfl
      have z4 := hSr.atS FlatD.len hf (j := 4) (by decide) rfl
      have z5 := hSr.atS FlatD.len hf (j := 5) (by decide) rfl
      have z6 := hSr.atS FlatD.len hf (j := 6) (by decide) rfl
      have z7 := hSr.atS FlatD.len hf (j := 7) (by decide) rfl
      have N1 : ∀ W, Below w.heap.size w W → Calls Try.prog 11 #[f.val] W fun e w' => OutI W.heap.size e (callsV f.ops) w' ∧ Below W.heap.size W w' := fun W hb => c_Calls f W ((hok f hfm).1.go hb) (hs f hfm).1
      have hstep := allV_step hf
      have H2 : (k + 1) * 24 ≤ 140737488355328 := by omega
      have H1 : k + 1 ≤ maxLen := by unfold maxLen; omega
      rw [hkl] at hown hvl
      clear hSr
      go_wp2_with (first | (go_at_call 11; go_loud (with_reducible refine (N1 _ (b_al hbel _)).mono ?_); rintro e w1 ⟨⟨v1, rfl, hI1⟩, hb1⟩; obtain ⟨av, cv, rfl⟩ := own_shape hI1) | (at_builtin; go_loud (refine wpList_append_own _ rfl _ _ 55 rfl w.heap.size 27 i0 _ 1 24 Try.underlying55 hi hz0 hz1 hz2 rfl (by decide) _ _ _ rfl ((own_below (own_below hown (b_al (Below.refl _ _) _)) hb1).alloc _) ⟨w1.heap.size, 0, none⟩ 1 1 [.slice av (callsV f.ops).length cv] rfl rfl ?c1 ?c2 ?c3 ?c4 ?c5 ?_)))
      case c1 =>
        intro j u hj
        rw [add_pl]
        exact (k_cell (k_new (by simp)) j).trans (by simpa using hj)
      case c2 =>
        intro u hu
        obtain rfl := List.mem_singleton.1 hu
        rfl
      case c3 => exact H1
      case c4 => exact H2
      case c5 => have h1 := hbel.size; have h2 := hb1.size; rw [alloc_sz] at h2 ⊢; omega
      intro v' w3 hown' hgrow hnil
      have h1 := hbel.size
      have h2 := hb1.size
      rw [alloc_sz] at h2
      have hownW := (own_below (own_below hown (b_al (Below.refl _ _) (.cells #[.string f.name, .int .i64 f.what, .int .i64 f.cells, .int .i64 f.base, .int .i64 f.regs, .int .i64 f.slots, .slice f.ao f.on f.oc, .slice f.lo f.ln f.lc] 32 (0, 0)))) hb1).alloc (.cells #[.slice av (callsV f.ops).length cv] 27 (0, 0))
      have hfo3 : ∀ (i : Nat) u zs, vs[i]? = some u → (allV (fs.take k))[i]? = some zs → Ints w3 0 u zs := fun i u zs a b => own_grown ((((hfo i u zs a b).go (b_al (Below.refl _ _) _)).go hb1).go (b_al (Below.refl _ _) _)) hownW (by decide) hgrow
      have hI3 : Ints w3 0 (.slice av (callsV f.ops).length cv) (callsV f.ops) := own_grown (own_low (hI1.go (b_al (Below.refl _ _) _)) (Nat.zero_le _)) hownW (by decide) hgrow
      have hb3 : Below w.heap.size w w3 := Below.grown (row := u3.ownBlock) (b_al (b_go (b_al hbel _) hb1) _) hgrow (by rw [alloc_sz]; omega) (fun q hq => (hown.lt q hq).1)
      have hL : Lists w3 w.heap.size v' (allV (fs.take (k + 1))) := by
        rw [hstep]
        exact lists_add (n := k + 1) (by omega) hown' (by omega) hfo3 hI3
      have HL := Lib.hid hL
      clear hL hfo3 hI3 hfo hownW hgrow hown' hI1 hown hok hs
      go_wp2
      go_roundw
      case rel => exact ⟨k + 1, by omega, by go_num, HL.out, hb3⟩
      case measure => first | exact meas_next hkn | (simp [intOf]; omega)
    · obtain rfl : k = n := by omega
      rw [List.take_of_length_le (by omega)] at hown hfo hvl
      have HL : Lists wr w.heap.size u3 (allV fs) := ⟨vs, hown, hvl, hfo⟩
      have HF := Lib.hid HL
      clear hfo hown HL
      go_wp2
      go_ret
      exact ⟨⟨_, rfl, HF.out⟩, hbel⟩
end Go.Proofs.Ytmnaeoljpajomaa.H
