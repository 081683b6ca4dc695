/- Contract of farthest: the greatest far of some places, out of far's. Condition: the code can be reckoned. -/
import Derived.Test.YtmnaeoljpajomaaHBeH
namespace Go.Proofs.Ytmnaeoljpajomaa.H
set_option linter.unusedVariables false
set_option linter.unusedSimpArgs false
open Go.RowKit Go.Proofs.Ytmnaeoljpajomaa.Plain Go.Sort Go.Maps
set_option maxHeartbeats 3200000
set_option maxRecDepth 100000
attribute [local go_sem] ext_from ext_bits cell_isSome un_neg_float
/-- A call answers a number, the reckoner stays one. -/
def OutR (cx : Cx) (f : FlatD) (cost : OpD → Option Int) (n : Nat) (W : World) (v : Int) (e : Ending) (w' : World) : Prop := e = .returned (.int .i64 v) ∧ RJ cx f cost n w' ∧ Bar (rS cx n) W w'
def FarOk (cx : Cx) (f : FlatD) (cost : OpD → Option Int) (n : Nat) (g : Nat → Option Nat → Option Int) : Prop :=
  ∀ (l : Option Nat) (q v : Int), (∀ m, l = some m → m < f.loops.length) → 0 ≤ q ∧ q < f.ops.length → farOf f g l q = some v → ∀ W, RJ cx f cost n W → Calls Try.prog 45 #[.pointer (some ⟨n + 5, 0, none⟩), .int .i64 q, .int .i64 (encL l)] W (OutR cx f cost n W v)
def OnceOk (cx : Cx) (f : FlatD) (cost : OpD → Option Int) (n : Nat) (g : Nat → Option Nat → Option Int) : Prop :=
  ∀ (m : Nat) (v : Int), m < f.loops.length → g (loopAt f m).head.toNat (some m) = some v → ∀ W, RJ cx f cost n W → Calls Try.prog 70 #[.pointer (some ⟨n + 5, 0, none⟩), .int .i64 m] W (OutR cx f cost n W v)
theorem mapM_len {α β : Type} {g : α → Option β} : ∀ (l : List α) (r : List β), l.mapM g = some r → r.length = l.length
  | [], r, e => by simp at e; subst e; rfl
  | a :: l, r, e => by
    rw [List.mapM_cons] at e
    cases ha : g a with
    | none => rw [ha] at e; simp at e
    | some x =>
      cases hl : l.mapM g with
      | none => rw [ha, hl] at e; simp at e
      | some r' =>
        rw [ha, hl] at e
        simp at e
        subst e
        simp [mapM_len l r' hl]
theorem mapM_get {α β : Type} {g : α → Option β} : ∀ (l : List α) (r : List β), l.mapM g = some r → ∀ (i : Nat) a, l[i]? = some a → ∃ b, r[i]? = some b ∧ g a = some b
  | [], r, e, i, a, h => by simp at h
  | x :: l, r, e, i, a, h => by
    rw [List.mapM_cons] at e
    cases ha : g x with
    | none => rw [ha] at e; simp at e
    | some y =>
      cases hl : l.mapM g with
      | none => rw [ha, hl] at e; simp at e
      | some r' =>
        rw [ha, hl] at e
        simp at e
        subst e
        cases i with
        | zero => simp at h; subst h; exact ⟨y, rfl, ha⟩
        | succ i => exact mapM_get l r' hl i a (by simpa using h)
theorem maxV_succ {fs : List Int} {k : Nat} {b : Int} (h : fs[k]? = some b) : maxV (fs.take (k + 1)) = max (maxV (fs.take k)) b := by
  have e : maxV (fs.take (k + 1)) = if maxV (fs.take k) < b then b else maxV (fs.take k) := by
    unfold maxV
    rw [List.take_add_one, h, List.foldl_append]
    rfl
  rw [e]
  split <;> omega
theorem bar_ints {cx : Cx} {n B : Nat} {w w' : World} {v : Value} {zs : List Int} (h : Ints w B v zs) (hB : n + 6 ≤ B) (hM : cx.M < n) (hb : Bar (rS cx n) w w') : Ints w' B v zs := by
  obtain ⟨h1, h2⟩ := h
  refine ⟨h1, ?_⟩
  rcases h2 with h2 | ⟨g, cap, cur, e1, e2, e3, e4⟩
  · exact .inl h2
  · refine .inr ⟨g, cap, cur, e1, e2, hb.keep e3 (fun c => ?_), e4⟩
    simp only [rS, List.mem_cons, List.mem_nil_iff, or_false] at c
    omega
theorem c_farthest (cx : Cx) (f : FlatD) (cost : OpD → Option Int) (n : Nat) (g : Nat → Option Nat → Option Int) (hF : FarOk cx f cost n g) (l : Option Nat) (hl : ∀ m, l = some m → m < f.loops.length) (v : Value) (zs fs : List Int) (hm : zs.mapM (farOf f g l) = some fs) (hin : ∀ z ∈ zs, 0 ≤ z ∧ z < f.ops.length) (hsz : zs.length ≤ 4194304) (w : World) (hJ : RJ cx f cost n w) (hI : Ints w (n + 6) v zs) :
    Calls Try.prog 57 #[.pointer (some ⟨n + 5, 0, none⟩), v, .int .i64 (encL l)] w (OutR cx f cost n w (maxV fs)) := by
  have hlen := mapM_len zs fs hm
  rcases hI.form with ⟨rfl, rfl⟩ | ⟨g0, c, rfl, hcap, hg, hgl, hcell⟩
  · obtain rfl : fs = [] := List.eq_nil_of_length_eq_zero hlen
    go_enter Try.func57, Try.ntmps57
    go_wp2_with fail
    go_loop [7, 12] (fun u i => u = .int .i64 0 ∧ i = .int .i64 0) (fun u i => 0)
    case atStart => exact ⟨rfl, rfl⟩
    case round =>
      obtain ⟨rfl, rfl⟩ := hrel
      go_wp2
      go_returns
      exact ⟨rfl, hJ, Bar.refl _ _⟩
  · have HJ := Lib.hid hJ
    have HC := Lib.hid hcell
    have hM := hJ.hM
    have hnz : ∀ W, Bar (rS cx n) w W → ∀ (i : Nat) z, zs[i]? = some z → W.cell? ⟨g0, i, none⟩ = some (.int .i64 z) := by
      intro W hb i z hz
      rw [World.cell?_of_block (w := w) (w' := W) (a := ⟨g0, i, none⟩) (hb.block g0 hgl (fun c => by simp only [rS, List.mem_cons, List.mem_nil_iff, or_false] at c; omega))]
      exact HC.out i z hz
    have HN := Lib.hid hnz
    clear hJ hI hcell hnz
    go_enter Try.func57, Try.ntmps57
    go_wp2_with fail
    go_loopw [7, 12] (fun u i wr => ∃ k : Nat, k ≤ zs.length ∧ i = .int .i64 k ∧ u = .int .i64 (maxV (fs.take k)) ∧ RJ cx f cost n wr ∧ Bar (rS cx n) w wr) (fun _ i _ => zs.length - (intOf i).toNat)
    case atStart => exact ⟨0, Nat.zero_le _, rfl, rfl, HJ.out, Bar.refl _ _⟩
    case round =>
      obtain ⟨k, hk, rfl, rfl, hJr, hbr⟩ := hrel
      by_cases hkz : k < zs.length
      · obtain ⟨z, hz⟩ : ∃ z, zs[k]? = some z := ⟨_, List.getElem?_eq_getElem hkz⟩
        obtain ⟨b, hb, hv⟩ := mapM_get zs fs hm k z hz
        have hc := HN.out wr hbr k z hz
        have N1 := hF l z b hl (hin z (List.mem_of_getElem? hz)) hv wr hJr
        have hst := maxV_succ hb
        obtain ⟨X, hX⟩ : ∃ X, maxV (fs.take k) = X := ⟨_, rfl⟩
        rw [hX] at hst ⊢
        have hkI : (k : Int) < zs.length := by omega
        clear hin hm hF hb hX
        have HS := Lib.hid hst
        clear hst
        go_wp2_with (go_at_call 45; go_loud (with_reducible refine N1.mono ?_); rintro e w1 ⟨rfl, hJ1, hb1⟩)
        refine ⟨⟨k + 1, hkz, by go_num, by rw [HS.out], hJ1, hbr.trans hb1⟩, by simp [intOf]; omega⟩
      · obtain rfl : k = zs.length := by omega
        rw [List.take_of_length_le (by omega)]
        have HJ2 := Lib.hid hJr
        have HB2 := Lib.hid hbr
        clear hJr hbr hin hm hF
        go_wp2
        go_returns
        exact ⟨rfl, HJ2.out, HB2.out⟩
end Go.Proofs.Ytmnaeoljpajomaa.H
