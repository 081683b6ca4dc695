/- Contracts of bound.depth and bound.Depth. Condition: lists within reach; so many steps of reckoning suffice. -/
import Derived.Test.YtmnaeoljpajomaaHBeM
namespace Go.Proofs.Ytmnaeoljpajomaa.H
set_option linter.unusedVariables false
set_option linter.unusedSimpArgs false
open Go.RowKit Go.Proofs.Ytmnaeoljpajomaa.Plain Go.Sort Go.Maps
set_option maxHeartbeats 3200000
set_option maxRecDepth 100000
attribute [local go_sem] ext_from ext_bits cell_isSome un_neg_float
def ED (ls : List (List Int)) (key : Value) (c : Int) : Prop := ∃ k j : Nat, key = .int .i64 j ∧ depthV ls k j = some c
theorem ED_at {ls : List (List Int)} {k j : Nat} {c c' : Int} (h : ED ls (.int .i64 j) c) (hv : depthV ls k j = some c') : c = c' := by
  obtain ⟨k1, j1, e, h1⟩ := h
  injection e with _ e
  obtain rfl : j = j1 := by omega
  exact depthV_one h1 hv
structure DJ (ls : List (List Int)) (Bl : Nat) (lv : Value) (w0 : World) (M : Nat) (w : World) : Prop where
  bel : Below w0.heap.size w0 w
  hM : w0.heap.size ≤ M
  lists : Lists w0 Bl lv ls
  memo : Memo Try.prog 3 w M (ED ls)
theorem DJ.go {ls : List (List Int)} {Bl : Nat} {lv : Value} {w0 w w' : World} {M B : Nat} (h : DJ ls Bl lv w0 M w) (hb : Below B w w') (hB : M < B) : DJ ls Bl lv w0 M w' :=
  ⟨h.bel.trans (hb.mono (Nat.le_trans h.hM (Nat.le_of_lt hB))), h.hM, h.lists, h.memo.keep (hb.block _ hB)⟩
def OutD (ls : List (List Int)) (Bl : Nat) (lv : Value) (w0 : World) (M : Nat) (W : World) (d : Int) (e : Ending) (w' : World) : Prop := e = .returned (.int .i64 d) ∧ DJ ls Bl lv w0 M w' ∧ Bar [M] W w'
def DepthOk (ls : List (List Int)) (Bl : Nat) (lv : Value) (w0 : World) (M k : Nat) : Prop := ∀ (fn : Nat) (d : Int), depthV ls k fn = some d → ∀ W, DJ ls Bl lv w0 M W → Calls Try.prog 26 #[lv, .int .i64 fn, .map (some M)] W (OutD ls Bl lv w0 M W d)
theorem depth_step (ls : List (List Int)) (Bl : Nat) (lv : Value) (w0 : World) (M k : Nat) (hk : k ≤ 1048577) (hn : ls.length ≤ 1048576) (hT : sumA ls ≤ 4194304) (hD : DepthOk ls Bl lv w0 M k) : DepthOk ls Bl lv w0 M (k + 1) := by
  intro fn d hd w hJ
  have hE : ED ls (.int .i64 fn) d := ⟨k + 1, fn, rfl, hd⟩
  have hd0 := hd
  unfold depthV at hd
  cases hz : ls[fn]? with
  | none => rw [hz] at hd; cases hd
  | some zs =>
    rw [hz] at hd
    obtain ⟨ds, hds, rfl⟩ := Option.map_eq_some_iff.1 hd
    have hfn : fn < ls.length := by
      rcases Nat.lt_or_ge fn ls.length with h | h
      · exact h
      · rw [List.getElem?_eq_none h] at hz; cases hz
    have hzl : zs.length ≤ 4194304 := Nat.le_trans (len_le_sumA ls _ _ hz) hT
    have hdl := mapM_len zs ds hds
    have hdr : ∀ j, 0 ≤ maxV (ds.take j) ∧ maxV (ds.take j) ≤ 1048577 := fun j => by
      refine ⟨maxV_nonneg _, maxV_le _ 0 (by decide) (fun b hb => ?_)⟩
      obtain ⟨z, _, hz⟩ := mapM_mem zs ds hds b (List.mem_of_mem_take hb)
      split at hz
      · cases hz
      · have := (depthV_range k _ _ hz).2
        omega
    have hkl := keyI_of (x := (fn : Int)) (by omega)
    obtain ⟨kl, hkl⟩ : ∃ kl, keyOf Try.prog 3 (.int .i64 fn) = some kl := ⟨_, hkl⟩
    obtain ⟨al, cl, rfl, hform⟩ := hJ.lists.form
    obtain ⟨g, ga, gc, rfl, hgl, hcl, hIl⟩ := hform fn zs hz
    have hM := hJ.hM
    have hlt := hJ.memo.lt
    have hmM := hJ.memo
    have hq := (hJ.bel.cell (p := ⟨g, fn, none⟩) hgl).trans hcl
    have hfnI : (fn : Int) < ls.length := by omega
    have hzI : (zs.length : Int) ≤ 4194304 := by omega
    have HJ := Lib.hid hJ
    have HIL := Lib.hid hIl
    have HDR := Lib.hid hdr
    clear hform hcl hIl hT hk hdr
    go_enter Try.func26, Try.ntmps26
    go_upto_region 2 with (at_lookup; go_loud (refine wpList_memo_look _ rfl _ _ 61 true rfl 3 3 keyI Try.underlying61 (zeroI _) M _ rfl hmM _ kl rfl hkl ?_ ?_))
    · go_wp2_with fail
      go_loopw [9, 25] (fun u i wr => ∃ j : Nat, j ≤ zs.length ∧ i = .int .i64 j ∧ u = .int .i64 (maxV (ds.take j)) ∧ DJ ls Bl (.slice (some ⟨g, 0, none⟩) ls.length cl) w0 M wr ∧ Bar [M] w wr) (fun _ i _ => zs.length - (intOf i).toNat)
      case atStart => exact ⟨0, Nat.zero_le _, rfl, rfl, HJ.out, Bar.refl _ _⟩
      case round =>
        obtain ⟨j, hj, rfl, rfl, hJr, hbr⟩ := hrel
        by_cases hjz : j < zs.length
        · obtain ⟨z, hzj⟩ : ∃ z, zs[j]? = some z := ⟨_, List.getElem?_eq_getElem hjz⟩
          obtain ⟨b, hb, hv⟩ := mapM_get zs ds hds j z hzj
          have hz0 : ¬ z < 0 := by
            intro c
            rw [if_pos c] at hv
            cases hv
          rw [if_neg hz0] at hv
          obtain ⟨zi, rfl⟩ : ∃ zi : Nat, z = zi := ⟨z.toNat, by omega⟩
          rw [Int.toNat_natCast] at hv
          rcases (HIL.out.go hJr.bel).form with ⟨_, rfl⟩ | ⟨g1, c1', he1, _, _, _, hcell⟩
          · simp at hjz
          cases he1
          have hc := hcell j _ hzj
          have N1 := hD zi b hv wr hJr
          have hst := maxV_succ hb
          obtain ⟨X, hX⟩ : ∃ X, maxV (ds.take j) = X := ⟨_, rfl⟩
          rw [hX] at hst ⊢
          have HS := Lib.hid hst
          have hjI : (j : Int) < zs.length := by omega
          clear hcell hst hX hds hD hb
          go_wp2_with (go_at_call 26; go_loud (with_reducible refine N1.mono ?_); rintro e w2 ⟨rfl, hJ2, hb2⟩)
          exact ⟨⟨j + 1, hjz, by go_num, by rw [HS.out], hJ2, hbr.trans hb2⟩, by simp [intOf]; omega⟩
        · obtain rfl : j = zs.length := by omega
          have hr := HDR.out zs.length
          rw [List.take_of_length_le (by omega)] at hr ⊢
          have hmM2 := hJr.memo
          have HJr := Lib.hid hJr
          have HBr := Lib.hid hbr
          obtain ⟨D, hD9⟩ : ∃ D, maxV ds = D := ⟨_, rfl⟩
          rw [hD9] at hr hE ⊢
          obtain ⟨hr1, hr2⟩ := hr
          clear hJr hbr hds hD hdl
          go_wp2_with (at_mapUpdate; go_loud (refine wpList_memo_put _ rfl _ _ _ 61 rfl 3 3 keyI Try.underlying61 M _ rfl hmM2 _ kl rfl hkl _ rfl hE ?_))
          intro w9 hm9 hg9 hs9 hh9
          have hJ9 : DJ ls Bl (.slice (some ⟨g, 0, none⟩) ls.length cl) w0 M w9 := ⟨HJr.out.bel.trans ⟨hg9.os, hg9.tape, hg9.output, hg9.size, fun k hk => hg9.block k (by have := HJr.out.bel.size; omega) (fun e => by have e2 := Option.some.inj e; omega)⟩, hM, HJr.out.lists, hm9⟩
          have HJ9 := Lib.hid hJ9
          have hB9 : Bar [M] w w9 := HBr.out.grown hg9 (.inl (by simp))
          clear hJ9 hm9 hg9 hh9
          go_wp2
          go_returns
          exact ⟨by rw [hD9]; rfl, HJ9.out, hB9⟩
    · intro x hx
      have hxc := ED_at hx hd0
      subst hxc
      go_wp2
      go_returns
      exact ⟨rfl, HJ.out, Bar.refl _ _⟩
theorem depth_all (ls : List (List Int)) (Bl : Nat) (lv : Value) (w0 : World) (M : Nat) (hn : ls.length ≤ 1048576) (hT : sumA ls ≤ 4194304) : ∀ k, k ≤ 1048578 → DepthOk ls Bl lv w0 M k
  | 0, _ => fun fn d hd w hJ => by simp [depthV] at hd
  | k + 1, h => depth_step ls Bl lv w0 M k (by omega) hn hT (depth_all ls Bl lv w0 M hn hT k (by omega))
theorem find_no {l : List Int} {p : Int → Bool} (h : l.find? p = none) : ∀ x ∈ l, p x = false := fun x hx => by
  have := List.find?_eq_none.1 h x hx
  simpa using this
theorem sound_ok {ls : List (List Int)} {fn : Int} (h : (soundV ls fn).2 = 0) : 0 ≤ fn ∧ fn < ls.length ∧ (soundV ls fn).1 = 0 ∧ (∀ k ∈ belongV ls [fn], lostB ls k = false) ∧ ∀ k ∈ belongV ls [fn], ringB ls k = false := by
  unfold soundV at h ⊢
  by_cases c : fn < 0 ∨ (ls.length : Int) ≤ fn
  · rw [if_pos c] at h; cases h
  · rw [if_neg c] at h ⊢
    cases e1 : (belongV ls [fn]).find? (lostB ls) with
    | some k => rw [e1] at h; cases h
    | none =>
      rw [e1] at h
      cases e2 : (belongV ls [fn]).find? (ringB ls) with
      | some k => rw [e2] at h; cases h
      | none => exact ⟨by omega, by omega, rfl, find_no e1, find_no e2⟩
/-- What Depth answers. -/
def Out3 (e : Ending) (a b c : Int) : Prop := e = .returned (.tuple #[.int .i64 a, .int .i64 b, .int .i64 c])
theorem c_Depth (ao : Option Addr) (n c : Nat) (fs : List FlatD) (fn : Int) (w : World) (hC : Codes w ao n fs) (hs : ∀ f ∈ fs, FlatSz f) (hbig : n ≤ 1048576) (hT : sumA (allV fs) ≤ 4194304) (d : Int) (hd : (soundV (allV fs) fn).2 = 0 → ∃ k, k ≤ 1048578 ∧ depthV (allV fs) k fn.toNat = some d) :
    Calls Try.prog 9 #[.slice ao n c, .int .i64 fn] w fun e w' => Out3 e (if (soundV (allV fs) fn).2 = 0 then d else 0) (soundV (allV fs) fn).1 (soundV (allV fs) fn).2 ∧ Below w.heap.size w w' := by
  have N1 := c_calls ao n c fs w hC hs (by omega)
  have hln : (allV fs).length = n := by rw [allV_len, hC.1]
  obtain ⟨ls, hls⟩ : ∃ l, allV fs = l := ⟨_, rfl⟩
  rw [hls] at N1 hT hd hln ⊢
  obtain ⟨R, hR⟩ : ∃ r, soundV ls fn = r := ⟨_, rfl⟩
  have N2 := fun B v W hL => c_sound B v ls fn W hL (by omega) hT
  have hfn : R.2 = 0 → 0 ≤ fn ∧ R.1 = 0 := fun h => ⟨(sound_ok (hR ▸ h)).1, hR ▸ (sound_ok (hR ▸ h)).2.2.1⟩
  have N3 := depth_all ls
  rw [hR] at hd N2 ⊢
  have hmm := @run_makeMap Try.prog
  obtain ⟨r1, r2⟩ := R
  simp only at hd hfn ⊢
  have HFN := Lib.hid hfn
  have HD := Lib.hid hd
  clear hC hs hls hR hd hfn
  by_cases he : r2 = 0
  · subst he
    obtain ⟨K, hK, hdK⟩ := HD.out rfl
    obtain ⟨hf0, rfl⟩ := HFN.out rfl
    obtain ⟨j, rfl⟩ : ∃ j : Nat, fn = j := ⟨fn.toNat, by omega⟩
    rw [Int.toNat_natCast] at hdK
    rw [if_pos rfl]
    go_enter Try.func9, Try.ntmps9
    go_wp2_with (first | (go_at_call 21; go_loud (with_reducible refine N1.mono ?_); rintro e w1 ⟨⟨v1, rfl, hL⟩, hb1⟩) | (go_at_call 22; go_loud (with_reducible refine (N2 _ v1 _ hL).mono ?_); rintro e w2 ⟨rfl, hb2⟩; have N4 := N3 w.heap.size v1 w2 w2.heap.size (by omega) hT K hK j d hdK (w2.alloc (.map #[] 0)) ⟨b_al (Below.refl _ _) _, Nat.le_refl _, hL.go hb2, memo_made _ _ _ _⟩) | (go_at_call 26; go_loud (with_reducible refine N4.mono ?_); rintro e w3 ⟨rfl, hJ3, hb3⟩))
    go_returns
    exact ⟨rfl, (b_go hb1 hb2).trans (hJ3.bel.mono (by have := hb1.size; have := hb2.size; omega))⟩
  · rw [if_neg he]
    go_enter Try.func9, Try.ntmps9
    go_wp2_with (first | (go_at_call 21; go_loud (with_reducible refine N1.mono ?_); rintro e w1 ⟨⟨v1, rfl, hL⟩, hb1⟩) | (go_at_call 22; go_loud (with_reducible refine (N2 _ v1 _ hL).mono ?_); rintro e w2 ⟨rfl, hb2⟩))
    go_returns
    exact ⟨rfl, b_go hb1 hb2⟩
end Go.Proofs.Ytmnaeoljpajomaa.H
