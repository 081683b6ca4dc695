/- Contracts of far and once: the most from a place on, within a loop; a loop's one pass. Condition: the code can be reckoned, its size is modest. -/
import Derived.Test.YtmnaeoljpajomaaHBeJ
namespace Go.Proofs.Ytmnaeoljpajomaa.H
set_option linter.unusedVariables false
set_option linter.unusedSimpArgs false
open Go.RowKit Go.Proofs.Ytmnaeoljpajomaa.Plain Go.Sort Go.Maps
set_option maxHeartbeats 3200000
set_option maxRecDepth 100000
attribute [local go_sem] ext_from ext_bits cell_isSome un_neg_float
/-- What a map answers does not hang on how much of the tape was read. -/
theorem look_all {P : Program} {kt t e : TypeId} {w : World} {b : Nat} {E : Value → Int → Prop} (h : Memo P kt w b E) (K : Keyed P kt) (ht : P.underlying t = some (.map kt e)) (hz : ∀ w, (zeroValue e).run P w = .ok (.int .i64 0) w) {key : Value} {kl : Lit} (hkey : keyOf P kt key = some kl) {v : Int} (hv : ∀ x, E key x → x = v) :
    (∀ q, (Instr.lookup t (.map (some b)) key true).run P (w.drewN q) = .ok (.tuple #[.int .i64 0, .bool false]) (w.drewN q)) ∨ (∀ q, (Instr.lookup t (.map (some b)) key true).run P (w.drewN q) = .ok (.tuple #[.int .i64 v, .bool true]) (w.drewN q)) := by
  obtain ⟨es, clock, hb, hes⟩ := h
  by_cases hx : ∃ e ∈ es.toList, e.key = key
  · refine .inr fun q => ?_
    obtain ⟨x, hr, hE⟩ := run_memo_has (P := P) (w := w.drewN q) (e := e) true ⟨es, clock, hb, hes⟩ K ht hkey ⟨es, clock, hb, hx⟩
    rw [hr, hv x hE]
    rfl
  · refine .inl fun q => ?_
    rcases K.find (w.drewN q) hkey es.toList (fun e he => (hes e he).1) with ⟨h1, h2⟩ | ⟨j, e0, h1, h2, h3⟩
    · have hb2 : (w.drewN q).heap[b]? = some (.map es clock) := hb
      simp [Instr.lookup, run_underlying ht, MapKept.run_getObj_map hb2, K.check (w.drewN q) _ hkey, h1, hz, Result.andThen]
    · exact absurd ⟨e0, List.mem_of_getElem? h2, h3⟩ hx
def CostOk (cx : Cx) (f : FlatD) (cost : OpD → Option Int) (n : Nat) : Prop :=
  ∀ (oo : OpD), oo ∈ f.ops → ∀ (c : Int), cost oo = some c → ∀ W, RJ cx f cost n W → Calls Try.prog 43 #[oo.val, .pointer (some ⟨n, 0, none⟩), .pointer (some ⟨n + 1, 0, none⟩)] W (OutR cx f cost n W c)
theorem far_zero (cx : Cx) (f : FlatD) (cost : OpD → Option Int) (n m : Nat) (q : Int) (hm : m < f.loops.length) (hln : f.loops.length = f.ln) (hz0 : zeroB f q (some m) = true) (w : World) (hz : Modest f) (hJ : RJ cx f cost n w) :
    Calls Try.prog 45 #[.pointer (some ⟨n + 5, 0, none⟩), .int .i64 q, .int .i64 m] w (OutR cx f cost n w 0) := by
  have hx := loopAt_get hm
  obtain ⟨x, hxx⟩ : ∃ x, loopAt f m = x := ⟨_, rfl⟩
  unfold zeroB at hz0
  simp only [hxx] at hz0
  rw [hxx] at hx
  obtain ⟨lo, hlo⟩ : ∃ a, f.lo = some a := by
    cases e : f.lo with
    | none => exact absurd (hJ.flat.2.2.2.1 e) (by omega)
    | some a => exact ⟨a, rfl⟩
  have hS1 := hJ.flat.2.2
  rw [hlo] at hS1
  have p0 := hS1.at0 LoopD.len hx rfl
  have p1 := hS1.atS LoopD.len hx (j := 1) (by decide) rfl
  have p2 := hS1.atS LoopD.len hx (j := 2) (by decide) rfl
  obtain ⟨r0, r1, r2, r3, r4, r5, r6, r7⟩ := RJ_cells hJ
  rw [hlo] at r7
  have hmln : (m : Int) < f.ln := by have := hz.2; omega
  have hm0 : (m : Int) ≥ 0 := by omega
  have N1 := c_has x q w
  have hla : (lo.add (m * 3)).block < w.heap.size := by rw [add_blk]; exact (hS1.2.2 lo rfl).2 (by omega)
  have hn5 : n + 5 < w.heap.size := by have := hJ.lt; omega
  have HJ := Lib.hid hJ
  obtain ⟨b, hb⟩ : ∃ b, hasB x q = b := ⟨_, rfl⟩
  rw [hb] at N1 hz0
  clear hJ hz hS1 hx
  cases b with
  | false =>
    go_enter Try.func45, Try.ntmps45
    go_wp2_with (go_at_call 42; go_loud (with_reducible refine N1.mono ?_); rintro e w1 ⟨rfl, hb1⟩)
    go_returns
    exact ⟨rfl, HJ.out.of_bel hb1, (Bar.refl _ _).go hb1⟩
  | true =>
    have hxq : x.head = q := by simpa using hz0
    have HXQ := Lib.hid hxq
    clear hxq hz0
    go_enter Try.func45, Try.ntmps45
    go_wp2_with (go_at_call 42; go_loud (with_reducible refine N1.mono ?_); rintro e w1 ⟨rfl, hb1⟩; have p0' := (hb1.cell hla).trans p0; have r7' := (hb1.cell (p := ⟨n + 5, 7, none⟩) hn5).trans r7; have hxq := HXQ.out)
    go_returns
    exact ⟨rfl, HJ.out.of_bel hb1, (Bar.refl _ _).go hb1⟩
theorem val_within {f : FlatD} {cost : OpD → Option Int} {k p m : Nat} {l : Option Nat} {v : Int} (hw : withinV f p l = some m) (hv : val f cost (k + 1) p l = some v) : ∃ o fs, val f cost k (loopAt f m).head.toNat (some m) = some o ∧ (outsV f m).mapM (farOf f (val f cost k) l) = some fs ∧ v = sumC (mulC o (loopAt f m).times) (maxV fs) := by
  have hh : (loopAt f m).head = (p : Int) := by
    have := (withinV_lt hw).2
    unfold skipB at this
    simp at this
    exact this.1
  unfold val at hv
  rw [hw] at hv
  simp only [Option.bind_eq_some_iff] at hv
  obtain ⟨o, ho, fs, hfs, e⟩ := hv
  cases e
  exact ⟨o, fs, by rw [hh, Int.toNat_natCast]; exact ho, hfs, rfl⟩
theorem val_plain {f : FlatD} {cost : OpD → Option Int} {k p : Nat} {l : Option Nat} {v : Int} (hw : withinV f p l = none) (hv : val f cost (k + 1) p l = some v) : ∃ c fs, cost (opAt f p) = some c ∧ (nextsV f p).mapM (farOf f (val f cost k) l) = some fs ∧ v = sumC c (maxV fs) := by
  unfold val at hv
  rw [hw] at hv
  simp only [Option.bind_eq_some_iff] at hv
  obtain ⟨o, ho, fs, hfs, e⟩ := hv
  cases e
  exact ⟨o, fs, ho, hfs, rfl⟩
theorem far_le {f : FlatD} {cost : OpD → Option Int} {k : Nat} (hR : ∀ p l c, val f cost k p l = some c → 0 ≤ c ∧ c ≤ H40) {l : Option Nat} {zs fs : List Int} (h : zs.mapM (farOf f (val f cost k) l) = some fs) : 0 ≤ maxV fs ∧ maxV fs ≤ H40 := by
  refine ⟨maxV_nonneg _, maxV_le fs 0 (by decide) (fun b hb => ?_)⟩
  obtain ⟨q, _, hq⟩ := mapM_mem _ _ h b hb
  unfold farOf at hq
  split at hq
  · cases hq; decide
  · exact (hR _ _ _ hq).2
theorem bar_block {cx : Cx} {n g : Nat} {w w' : World} {o : Obj} (h : w.heap[g]? = some o) (hg : n + 6 ≤ g) (hM : cx.M < n) (hb : Bar (rS cx n) w w') : w'.heap[g]? = some o := hb.keep h (fun c => by simp only [rS, List.mem_cons, List.mem_nil_iff, or_false] at c; omega)
theorem RJ_10 {cx : Cx} {f : FlatD} {cost : OpD → Option Int} {n : Nat} {W : World} (h : RJ cx f cost n W) : W.cell? ⟨n + 5, 10, none⟩ = some (.map (some (n + 3))) := k_cv h.blk 10 rfl
theorem RJ_ops {cx : Cx} {f : FlatD} {cost : OpD → Option Int} {n p : Nat} {W : World} {oa : Addr} (h : RJ cx f cost n W) (hoa : f.ao = some oa) {o : OpD} (ho : f.ops[p]? = some o) :
    W.cell? ⟨n + 5, 8, none⟩ = some (.func (.func 43) #[] #[.pointer (some ⟨n, 0, none⟩), .pointer (some ⟨n + 1, 0, none⟩)]) ∧ W.cell? ⟨n + 5, 6, none⟩ = some (.slice (some oa) f.on f.oc) ∧ W.cell? (oa.add (p * 10)) = some (.int .i64 o.code) ∧ W.cell? ⟨(oa.add (p * 10)).block, (oa.add (p * 10)).off + 1, none⟩ = some (.int .i64 o.a) ∧ W.cell? ⟨(oa.add (p * 10)).block, (oa.add (p * 10)).off + 2, none⟩ = some (.int .i64 o.b) ∧ W.cell? ⟨(oa.add (p * 10)).block, (oa.add (p * 10)).off + 3, none⟩ = some (.int .i64 o.c) ∧ W.cell? ⟨(oa.add (p * 10)).block, (oa.add (p * 10)).off + 4, none⟩ = some (.int .i64 o.d) ∧ W.cell? ⟨(oa.add (p * 10)).block, (oa.add (p * 10)).off + 5, none⟩ = some (.int .i64 o.lo) ∧ W.cell? ⟨(oa.add (p * 10)).block, (oa.add (p * 10)).off + 6, none⟩ = some (.int .i64 o.hi) ∧ W.cell? ⟨(oa.add (p * 10)).block, (oa.add (p * 10)).off + 7, none⟩ = some (.int .u8 o.vk) ∧ W.cell? ⟨(oa.add (p * 10)).block, (oa.add (p * 10)).off + 8, none⟩ = some (.int .u64 o.vb) ∧ W.cell? ⟨(oa.add (p * 10)).block, (oa.add (p * 10)).off + 9, none⟩ = some (.string o.vt) := by
  have hS := h.flat.1.2
  rw [hoa] at hS
  refine ⟨k_cv h.blk 8 rfl, by have := k_cv h.blk 6 rfl; rw [← hoa]; exact this, hS.at0 OpD.len ho rfl, hS.atS OpD.len ho (j := 1) (by decide) rfl, hS.atS OpD.len ho (j := 2) (by decide) rfl, hS.atS OpD.len ho (j := 3) (by decide) rfl, hS.atS OpD.len ho (j := 4) (by decide) rfl, hS.atS OpD.len ho (j := 5) (by decide) rfl, hS.atS OpD.len ho (j := 6) (by decide) rfl, hS.atS OpD.len ho (j := 7) (by decide) rfl, hS.atS OpD.len ho (j := 8) (by decide) rfl, hS.atS OpD.len ho (j := 9) (by decide) rfl⟩
theorem far_step (cx : Cx) (f : FlatD) (cost : OpD → Option Int) (n k : Nat) (hC : CanF f) (hz : Modest f) (hc : CostOk cx f cost n) (hcr : ∀ o c, cost o = some c → 0 ≤ c ∧ c ≤ H40) (hF : FarOk cx f cost n (val f cost k)) (hO : OnceOk cx f cost n (val f cost k))
    (p : Nat) (l : Option Nat) (v : Int) (hl : ∀ m, l = some m → m < f.loops.length) (hp : p < f.ops.length) (hz0 : zeroB f p l = false) (hv : val f cost (k + 1) p l = some v) (w : World) (hJ : RJ cx f cost n w) :
    Calls Try.prog 45 #[.pointer (some ⟨n + 5, 0, none⟩), .int .i64 p, .int .i64 (encL l)] w (OutR cx f cost n w v) := by
  obtain ⟨kl, hkl⟩ := keyP_of (x := p) (y := encL l) (by have := hz.1; omega) (by have := enc_small hz.2 hl; omega)
  have hE : EP f cost (pairV p (encL l)) v := ⟨k + 1, p, l, rfl, hv⟩
  have hR : ∀ p l c, val f cost k p l = some c → 0 ≤ c ∧ c ≤ H40 := fun p l c h => val_range hcr (fun m hm => (hC.loop m hm).2.2.2.1) k p l c h
  have hpz : (p : Int) ≤ 1048576 := by have := hz.1; omega
  have hlz := enc_small hz.2 hl
  have HJ := Lib.hid hJ
  have hn5 : n + 5 < w.heap.size := by have := hJ.lt; omega
  obtain ⟨oa, hoa⟩ : ∃ a, f.ao = some a := by
    cases e : f.ao with
    | none => exact absurd (hJ.flat.1.2.2.1 e) (by have := hJ.flat.1.1; omega)
    | some a => exact ⟨a, rfl⟩
  cases l with
  | none =>
    rw [show encL none = -1 from rfl] at hkl hE ⊢
    have k9 := k_cv hJ.blk 9 rfl
    simp only [List.getElem_toArray, List.getElem_cons_succ, List.getElem_cons_zero] at k9
    clear hJ
    go_enter Try.func45, Try.ntmps45
    go_upto_region 4 with fail
    obtain ⟨KB, hKBe⟩ : ∃ b, w.heap.size = b := ⟨_, rfl⟩
    obtain ⟨wk, hwk⟩ : ∃ W, W = w.alloc (.cells #[.int .i64 p, .int .i64 (-1)] 91 (0, 0)) := ⟨_, rfl⟩
    have hbb : Below w.heap.size w wk := by rw [hwk]; exact b_al (Below.refl _ _) _
    have hck : wk.heap[w.heap.size]? = some (.cells #[.int .i64 p, .int .i64 (-1)] 91 (0, 0)) := by rw [hwk]; exact k_box
    rw [← hwk]
    rw [hKBe] at hck ⊢
    clear hwk
    have hKB : n + 6 ≤ KB := by have := HJ.out.lt; omega
    have d0 := k_cv hck 0 rfl
    have d1 := k_cv hck 1 rfl
    simp only [List.getElem_toArray, List.getElem_cons_succ, List.getElem_cons_zero] at d0 d1
    have d9 := (hbb.cell (p := ⟨n + 5, 9, none⟩) hn5).trans k9
    have hJk := HJ.out.of_bel hbb
    have hJd := hJk.drew
    have hbkk : Bar (rS cx n) wk wk.drew := (Bar.refl _ _).drew
    have hbk : Bar (rS cx n) w wk.drew := ((Bar.refl _ w).go hbb).drew
    have hlook := look_all (e := 3) hJk.mP keyP Try.underlying78 zeroI hkl (v := v) (fun x hx => EP_at hx hv)
    rcases hlook with hlook | hlook
    · have hrun : (Instr.lookup 78 (.map (some (n + 2))) (.agg #[.int .i64 p, .int .i64 (-1)]) true).run Try.prog wk.drew = .ok (.tuple #[.int .i64 0, .bool false]) wk.drew := hlook 1
      go_region_held3 (fun w' => w'.cell? ⟨n + 5, 9, none⟩ = some (.map (some (n + 2))) ∧ w'.cell? ⟨KB, 0, none⟩ = some (.int .i64 p) ∧ w'.cell? ⟨KB, 1, none⟩ = some (.int .i64 (-1))) (first | exact ⟨d9, d0, d1⟩ | go_keep) (fail)
      clear hlook hrun d0 d1 d9
      have NW := c_within cx f cost n p none wk.drew hJd hz (by have := hz.1; omega) hl
      obtain ⟨O, hOw⟩ : ∃ O, withinV f p none = O := ⟨_, rfl⟩
      rw [hOw, show encL none = -1 from rfl] at NW
      cases O with
      | some m9 =>
        obtain ⟨ov, fs, ho, hfs, hvv⟩ := val_within hOw hv
        have NT := fun W hJW => c_through cx f cost n (val f cost k) hC hz hF hO hR m9 none ov fs (withinV_lt hOw).1 hl ho hfs W hJW
        rw [encL_some m9] at NW
        simp only [show encL none = -1 from rfl] at NT
        rw [← hvv] at NT
        have hm90 : ¬ (m9 : Int) < 0 := by omega
        clear hvv hfs ho hOw
        have hvv : v = v := rfl
        go_wp2_with (first | (go_at_call 55; go_loud (with_reducible refine NW.mono ?_); rintro e w2 ⟨rfl, hJ2, hb2⟩) | (go_at_call 56; go_loud (with_reducible refine (NT w2 hJ2).mono ?_); rintro e w3 ⟨rfl, hJ3, hb3⟩))
        have hck9 : w3.heap[KB]? = some (.cells #[.int .i64 p, .int .i64 (-1)] 91 (0, 0)) := bar_block (cx := cx) (n := n) hck hKB HJ.out.hM ((hbkk.trans hb2).trans hb3)
        have e0 := k_cv hck9 0 rfl
        have e1 := k_cv hck9 1 rfl
        have d9 := k_cv hJ3.blk 9 rfl
        simp only [List.getElem_toArray, List.getElem_cons_succ, List.getElem_cons_zero] at e0 e1 d9
        obtain ⟨w9, hrun, hm9, hg9, hs9, _⟩ := run_memo_put (t := 78) (e := 3) (Memo.keep (w' := w3.drew) hJ3.mP rfl) keyP Try.underlying78 hkl hE
        have hJ9 : RJ cx f cost n w9 := RJ.put (hJ3.drew) hg9 (by omega) (fun _ => hm9) (fun e => by omega) (fun e => by omega)
        have hB9 : Bar (rS cx n) w w9 := Bar.grown (Bar.drew ((hbk.trans hb2).trans hb3)) hg9 (.inl (by simp))
        have f0 : w9.cell? ⟨KB, 0, none⟩ = some (.int .i64 p) := (World.cell?_of_block (w := w3.drew) (hg9.block KB (k_lt hck9) (fun e => by cases e; have := hKB; omega))).trans e0
        have f1 : w9.cell? ⟨KB, 1, none⟩ = some (.int .i64 (-1)) := (World.cell?_of_block (w := w3.drew) (hg9.block KB (k_lt hck9) (fun e => by cases e; have := hKB; omega))).trans e1
        have f9 := k_cv hJ9.blk 9 rfl
        simp only [List.getElem_toArray, List.getElem_cons_succ, List.getElem_cons_zero] at f9
        go_region_held3 (fun w' => w'.cell? ⟨n + 5, 9, none⟩ = some (.map (some (n + 2))) ∧ w'.cell? ⟨KB, 0, none⟩ = some (.int .i64 p) ∧ w'.cell? ⟨KB, 1, none⟩ = some (.int .i64 (-1))) (first | exact ⟨f9, f0, f1⟩ | exact ⟨d9, e0, e1⟩ | go_keep) (fail)
        all_goals go_wp2
        all_goals go_returns
        all_goals exact ⟨by first | rfl | (rw [hvv]; rfl), hJ9, hB9⟩
      | none =>
        obtain ⟨cv, fs, hcv, hfs, hvv⟩ := val_plain hOw hv
        have hop := opAt_get hp
        obtain ⟨oo, hoo⟩ : ∃ oo, opAt f p = oo := ⟨_, rfl⟩
        have hnx := hC.next p hp
        have NC := fun W hJW => hc oo (by rw [← hoo]; exact List.mem_of_getElem? (opAt_get hp)) cv (hoo ▸ hcv) W hJW
        have hNX := fun W => c_irNext (opAt f p) p W (by have := hz.1; omega)
        have NF := fun v W hJW hI => c_farthest cx f cost n (val f cost k) hF none hl v (nextsV f p) fs hfs (fun z hzz => ⟨(hnx z hzz).1, (hnx z hzz).2.1⟩) (Nat.le_trans (nextI_len _ _) (by decide)) W hJW hI
        simp only [show encL none = -1 from rfl] at NF
        have NS := fun W => c_sum cv (maxV fs) W (by have := hcr _ _ hcv; unfold H40 at this; exact this) (by have := far_le hR hfs; unfold H40 at this; exact this)
        rw [← hvv] at NS
        have hNN : nextsV f p = nextI (opAt f p) p := rfl
        rw [← hNN] at hNX
        rw [hoo] at hop hNX
        obtain ⟨qs, hqs⟩ : ∃ qs, nextsV f p = qs := ⟨_, rfl⟩
        rw [hqs] at hNX NF
        obtain ⟨V, hV⟩ : ∃ V, maxV fs = V := ⟨_, rfl⟩
        rw [hV] at NF NS
        clear hvv hfs hcv hOw hV hqs hNN hoo hnx
        have hvv : v = v := rfl
        have hRO : ∀ W, RJ cx f cost n W → _ := fun W hJW => RJ_ops (p := p) hJW hoa hop
        have hpon : (p : Int) < f.on := by have := HJ.out.flat.1.1; omega
        go_wp2_with (go_at_call 55; go_loud (with_reducible refine NW.mono ?_); rintro e w2 ⟨rfl, hJ2, hb2⟩)
        have hJ2d := hJ2.drew
        have hb2d := hb2.drew
        go_region_held3 (fun w' => w'.cell? ⟨n + 5, 8, none⟩ = some (.func (.func 43) #[] #[.pointer (some ⟨n, 0, none⟩), .pointer (some ⟨n + 1, 0, none⟩)]) ∧ w'.cell? ⟨n + 5, 6, none⟩ = some (.slice (some oa) f.on f.oc) ∧ w'.cell? (oa.add (p * 10)) = some (.int .i64 oo.code) ∧ w'.cell? ⟨(oa.add (p * 10)).block, (oa.add (p * 10)).off + 1, none⟩ = some (.int .i64 oo.a) ∧ w'.cell? ⟨(oa.add (p * 10)).block, (oa.add (p * 10)).off + 2, none⟩ = some (.int .i64 oo.b) ∧ w'.cell? ⟨(oa.add (p * 10)).block, (oa.add (p * 10)).off + 3, none⟩ = some (.int .i64 oo.c) ∧ w'.cell? ⟨(oa.add (p * 10)).block, (oa.add (p * 10)).off + 4, none⟩ = some (.int .i64 oo.d) ∧ w'.cell? ⟨(oa.add (p * 10)).block, (oa.add (p * 10)).off + 5, none⟩ = some (.int .i64 oo.lo) ∧ w'.cell? ⟨(oa.add (p * 10)).block, (oa.add (p * 10)).off + 6, none⟩ = some (.int .i64 oo.hi) ∧ w'.cell? ⟨(oa.add (p * 10)).block, (oa.add (p * 10)).off + 7, none⟩ = some (.int .u8 oo.vk) ∧ w'.cell? ⟨(oa.add (p * 10)).block, (oa.add (p * 10)).off + 8, none⟩ = some (.int .u64 oo.vb) ∧ w'.cell? ⟨(oa.add (p * 10)).block, (oa.add (p * 10)).off + 9, none⟩ = some (.string oo.vt)) (first | exact hRO _ (by assumption) | go_keep) (first | (go_at_call 43; (with_reducible refine (NC _ (by assumption)).mono ?_); rintro e w4 ⟨rfl, hJ4, hb4⟩) | (go_at_call 39; (with_reducible refine (hNX _).mono ?_); rintro e w5 ⟨⟨v5, rfl, hI5⟩, hb5⟩; have hJ5 := RJ.of_bel (by assumption) hb5) | (go_at_call 57; (with_reducible refine (NF _ _ (by assumption) (ints_low hI5 (RJ.lt (by assumption)))).mono ?_); rintro e w6 ⟨rfl, hJ6, hb6⟩) | (go_at_call 44; (with_reducible refine (NS _).mono ?_); rintro e w7 ⟨rfl, rfl⟩))
        go_wp2_with fail
        have hck9 : w7.heap[KB]? = some (.cells #[.int .i64 p, .int .i64 (-1)] 91 (0, 0)) := bar_block (cx := cx) (n := n) hck hKB HJ.out.hM (((((hbkk.trans hb2d).trans hb4).go hb5).trans hb6))
        have e0 := k_cv hck9 0 rfl
        have e1 := k_cv hck9 1 rfl
        have d9 := k_cv hJ6.blk 9 rfl
        simp only [List.getElem_toArray, List.getElem_cons_succ, List.getElem_cons_zero] at e0 e1 d9
        obtain ⟨w9, hrun, hm9, hg9, hs9, _⟩ := run_memo_put (t := 78) (e := 3) (Memo.keep (w' := w7.drew) hJ6.mP rfl) keyP Try.underlying78 hkl hE
        have hJ9 : RJ cx f cost n w9 := RJ.put (hJ6.drew) hg9 (by omega) (fun _ => hm9) (fun e => by omega) (fun e => by omega)
        have hB9 : Bar (rS cx n) w w9 := Bar.grown (Bar.drew (((((hbk.trans hb2d).trans hb4).go hb5).trans hb6))) hg9 (.inl (by simp))
        have f0 : w9.cell? ⟨KB, 0, none⟩ = some (.int .i64 p) := (World.cell?_of_block (w := w7.drew) (hg9.block KB (k_lt hck9) (fun e => by cases e; have := hKB; omega))).trans e0
        have f1 : w9.cell? ⟨KB, 1, none⟩ = some (.int .i64 (-1)) := (World.cell?_of_block (w := w7.drew) (hg9.block KB (k_lt hck9) (fun e => by cases e; have := hKB; omega))).trans e1
        have f9 := k_cv hJ9.blk 9 rfl
        simp only [List.getElem_toArray, List.getElem_cons_succ, List.getElem_cons_zero] at f9
        go_region_held3 (fun w' => w'.cell? ⟨n + 5, 9, none⟩ = some (.map (some (n + 2))) ∧ w'.cell? ⟨KB, 0, none⟩ = some (.int .i64 p) ∧ w'.cell? ⟨KB, 1, none⟩ = some (.int .i64 (-1))) (first | exact ⟨f9, f0, f1⟩ | exact ⟨d9, e0, e1⟩ | go_keep) (fail)
        all_goals go_wp2
        all_goals go_returns
        all_goals exact ⟨by first | rfl | (rw [hvv]; rfl), hJ9, hB9⟩
    · have hrun : (Instr.lookup 78 (.map (some (n + 2))) (.agg #[.int .i64 p, .int .i64 (-1)]) true).run Try.prog wk.drew = .ok (.tuple #[.int .i64 v, .bool true]) wk.drew := hlook 1
      go_region_held3 (fun w' => w'.cell? ⟨n + 5, 9, none⟩ = some (.map (some (n + 2))) ∧ w'.cell? ⟨KB, 0, none⟩ = some (.int .i64 p) ∧ w'.cell? ⟨KB, 1, none⟩ = some (.int .i64 (-1))) (first | exact ⟨d9, d0, d1⟩ | go_keep) (fail)
      go_wp2
      go_returns
      exact ⟨rfl, hJd, hbk⟩
  | some m =>
    have hmf : m < f.loops.length := hl m rfl
    rw [encL_some m] at hkl hE ⊢
    have hx := loopAt_get hmf
    obtain ⟨x, hxx⟩ : ∃ x, loopAt f m = x := ⟨_, rfl⟩
    unfold zeroB at hz0
    simp only [hxx] at hz0
    rw [hxx] at hx
    obtain ⟨lo, hlo⟩ : ∃ a, f.lo = some a := by
      cases e : f.lo with
      | none => exact absurd (hJ.flat.2.2.2.1 e) (by have := hJ.flat.2.1; omega)
      | some a => exact ⟨a, rfl⟩
    have hS1 := hJ.flat.2.2
    rw [hlo] at hS1
    have p0 := hS1.at0 LoopD.len hx rfl
    have p1 := hS1.atS LoopD.len hx (j := 1) (by decide) rfl
    have p2 := hS1.atS LoopD.len hx (j := 2) (by decide) rfl
    obtain ⟨r0, r1, r2, r3, r4, r5, r6, r7⟩ := RJ_cells hJ
    rw [hlo] at r7
    have hmln : (m : Int) < f.ln := by have := hJ.flat.2.1; omega
    have hm0 : (m : Int) ≥ 0 := by omega
    have NH := c_has x p w
    have hla : (lo.add (m * 3)).block < w.heap.size := by rw [add_blk]; exact (hS1.2.2 lo rfl).2 (by have := hJ.flat.2.1; omega)
    obtain ⟨hb1x, hb2x⟩ : hasB x p = true ∧ ¬ x.head = p := by simpa using hz0
    rw [hb1x] at NH
    have k9 := k_cv hJ.blk 9 rfl
    simp only [List.getElem_toArray, List.getElem_cons_succ, List.getElem_cons_zero] at k9
    clear hJ hS1 hx hxx hz0 hb1x
    go_enter Try.func45, Try.ntmps45
    go_upto_region 4 with (go_at_call 42; go_loud (with_reducible refine NH.mono ?_); rintro e w1 ⟨rfl, hb1⟩; have p0x := (hb1.cell hla).trans p0; have r7x := (hb1.cell (p := ⟨n + 5, 7, none⟩) hn5).trans r7)
    obtain ⟨KB, hKBe⟩ : ∃ b, w1.heap.size = b := ⟨_, rfl⟩
    obtain ⟨wk, hwk⟩ : ∃ W, W = w1.alloc (.cells #[.int .i64 p, .int .i64 m] 91 (0, 0)) := ⟨_, rfl⟩
    have hbb : Below w.heap.size w wk := by rw [hwk]; exact b_al hb1 _
    have hck : wk.heap[w1.heap.size]? = some (.cells #[.int .i64 p, .int .i64 m] 91 (0, 0)) := by rw [hwk]; exact k_box
    have hw1s := hb1.size
    rw [← hwk]
    rw [hKBe] at hck ⊢
    clear hwk p0 p1 p2 r0 r1 r2 r3 r4 r5 r6 r7 p0x r7x NH
    have hKB : n + 6 ≤ KB := by have := HJ.out.lt; omega
    have d0 := k_cv hck 0 rfl
    have d1 := k_cv hck 1 rfl
    simp only [List.getElem_toArray, List.getElem_cons_succ, List.getElem_cons_zero] at d0 d1
    have d9 := (hbb.cell (p := ⟨n + 5, 9, none⟩) hn5).trans k9
    have hJk := HJ.out.of_bel hbb
    have hJd := hJk.drew
    have hbkk : Bar (rS cx n) wk wk.drew := (Bar.refl _ _).drew
    have hbk : Bar (rS cx n) w wk.drew := ((Bar.refl _ w).go hbb).drew
    have hlook := look_all (e := 3) hJk.mP keyP Try.underlying78 zeroI hkl (v := v) (fun x hx => EP_at hx hv)
    rcases hlook with hlook | hlook
    · have hrun : (Instr.lookup 78 (.map (some (n + 2))) (.agg #[.int .i64 p, .int .i64 (m)]) true).run Try.prog wk.drew = .ok (.tuple #[.int .i64 0, .bool false]) wk.drew := hlook 1
      go_region_held3 (fun w' => w'.cell? ⟨n + 5, 9, none⟩ = some (.map (some (n + 2))) ∧ w'.cell? ⟨KB, 0, none⟩ = some (.int .i64 p) ∧ w'.cell? ⟨KB, 1, none⟩ = some (.int .i64 (m))) (first | exact ⟨d9, d0, d1⟩ | go_keep) (fail)
      clear hlook hrun d0 d1 d9
      have NW := c_within cx f cost n p (some m) wk.drew hJd hz (by have := hz.1; omega) hl
      obtain ⟨O, hOw⟩ : ∃ O, withinV f p (some m) = O := ⟨_, rfl⟩
      rw [hOw, encL_some m] at NW
      cases O with
      | some m9 =>
        obtain ⟨ov, fs, ho, hfs, hvv⟩ := val_within hOw hv
        have NT := fun W hJW => c_through cx f cost n (val f cost k) hC hz hF hO hR m9 (some m) ov fs (withinV_lt hOw).1 hl ho hfs W hJW
        rw [encL_some m9] at NW
        simp only [encL_some m] at NT
        rw [← hvv] at NT
        have hm90 : ¬ (m9 : Int) < 0 := by omega
        clear hvv hfs ho hOw
        have hvv : v = v := rfl
        go_wp2_with (first | (go_at_call 55; go_loud (with_reducible refine NW.mono ?_); rintro e w2 ⟨rfl, hJ2, hb2⟩) | (go_at_call 56; go_loud (with_reducible refine (NT w2 hJ2).mono ?_); rintro e w3 ⟨rfl, hJ3, hb3⟩))
        have hck9 : w3.heap[KB]? = some (.cells #[.int .i64 p, .int .i64 (m)] 91 (0, 0)) := bar_block (cx := cx) (n := n) hck hKB HJ.out.hM ((hbkk.trans hb2).trans hb3)
        have e0 := k_cv hck9 0 rfl
        have e1 := k_cv hck9 1 rfl
        have d9 := k_cv hJ3.blk 9 rfl
        simp only [List.getElem_toArray, List.getElem_cons_succ, List.getElem_cons_zero] at e0 e1 d9
        obtain ⟨w9, hrun, hm9, hg9, hs9, _⟩ := run_memo_put (t := 78) (e := 3) (Memo.keep (w' := w3.drew) hJ3.mP rfl) keyP Try.underlying78 hkl hE
        have hJ9 : RJ cx f cost n w9 := RJ.put (hJ3.drew) hg9 (by omega) (fun _ => hm9) (fun e => by omega) (fun e => by omega)
        have hB9 : Bar (rS cx n) w w9 := Bar.grown (Bar.drew ((hbk.trans hb2).trans hb3)) hg9 (.inl (by simp))
        have f0 : w9.cell? ⟨KB, 0, none⟩ = some (.int .i64 p) := (World.cell?_of_block (w := w3.drew) (hg9.block KB (k_lt hck9) (fun e => by cases e; have := hKB; omega))).trans e0
        have f1 : w9.cell? ⟨KB, 1, none⟩ = some (.int .i64 (m)) := (World.cell?_of_block (w := w3.drew) (hg9.block KB (k_lt hck9) (fun e => by cases e; have := hKB; omega))).trans e1
        have f9 := k_cv hJ9.blk 9 rfl
        simp only [List.getElem_toArray, List.getElem_cons_succ, List.getElem_cons_zero] at f9
        go_region_held3 (fun w' => w'.cell? ⟨n + 5, 9, none⟩ = some (.map (some (n + 2))) ∧ w'.cell? ⟨KB, 0, none⟩ = some (.int .i64 p) ∧ w'.cell? ⟨KB, 1, none⟩ = some (.int .i64 (m))) (first | exact ⟨f9, f0, f1⟩ | exact ⟨d9, e0, e1⟩ | go_keep) (fail)
        all_goals go_wp2
        all_goals go_returns
        all_goals exact ⟨by first | rfl | (rw [hvv]; rfl), hJ9, hB9⟩
      | none =>
        obtain ⟨cv, fs, hcv, hfs, hvv⟩ := val_plain hOw hv
        have hop := opAt_get hp
        obtain ⟨oo, hoo⟩ : ∃ oo, opAt f p = oo := ⟨_, rfl⟩
        have hnx := hC.next p hp
        have NC := fun W hJW => hc oo (by rw [← hoo]; exact List.mem_of_getElem? (opAt_get hp)) cv (hoo ▸ hcv) W hJW
        have hNX := fun W => c_irNext (opAt f p) p W (by have := hz.1; omega)
        have NF := fun v W hJW hI => c_farthest cx f cost n (val f cost k) hF (some m) hl v (nextsV f p) fs hfs (fun z hzz => ⟨(hnx z hzz).1, (hnx z hzz).2.1⟩) (Nat.le_trans (nextI_len _ _) (by decide)) W hJW hI
        simp only [encL_some m] at NF
        have NS := fun W => c_sum cv (maxV fs) W (by have := hcr _ _ hcv; unfold H40 at this; exact this) (by have := far_le hR hfs; unfold H40 at this; exact this)
        rw [← hvv] at NS
        have hNN : nextsV f p = nextI (opAt f p) p := rfl
        rw [← hNN] at hNX
        rw [hoo] at hop hNX
        obtain ⟨qs, hqs⟩ : ∃ qs, nextsV f p = qs := ⟨_, rfl⟩
        rw [hqs] at hNX NF
        obtain ⟨V, hV⟩ : ∃ V, maxV fs = V := ⟨_, rfl⟩
        rw [hV] at NF NS
        rw [show encL none = -1 from rfl] at NW
        clear hvv hfs hcv hOw hV hqs hNN hoo hnx
        have hvv : v = v := rfl
        have hRO : ∀ W, RJ cx f cost n W → _ := fun W hJW => RJ_ops (p := p) hJW hoa hop
        have hpon : (p : Int) < f.on := by have := HJ.out.flat.1.1; omega
        go_wp2_with (go_at_call 55; go_loud (with_reducible refine NW.mono ?_); rintro e w2 ⟨rfl, hJ2, hb2⟩)
        have hJ2d := hJ2.drew
        have hb2d := hb2.drew
        go_region_held3 (fun w' => w'.cell? ⟨n + 5, 8, none⟩ = some (.func (.func 43) #[] #[.pointer (some ⟨n, 0, none⟩), .pointer (some ⟨n + 1, 0, none⟩)]) ∧ w'.cell? ⟨n + 5, 6, none⟩ = some (.slice (some oa) f.on f.oc) ∧ w'.cell? (oa.add (p * 10)) = some (.int .i64 oo.code) ∧ w'.cell? ⟨(oa.add (p * 10)).block, (oa.add (p * 10)).off + 1, none⟩ = some (.int .i64 oo.a) ∧ w'.cell? ⟨(oa.add (p * 10)).block, (oa.add (p * 10)).off + 2, none⟩ = some (.int .i64 oo.b) ∧ w'.cell? ⟨(oa.add (p * 10)).block, (oa.add (p * 10)).off + 3, none⟩ = some (.int .i64 oo.c) ∧ w'.cell? ⟨(oa.add (p * 10)).block, (oa.add (p * 10)).off + 4, none⟩ = some (.int .i64 oo.d) ∧ w'.cell? ⟨(oa.add (p * 10)).block, (oa.add (p * 10)).off + 5, none⟩ = some (.int .i64 oo.lo) ∧ w'.cell? ⟨(oa.add (p * 10)).block, (oa.add (p * 10)).off + 6, none⟩ = some (.int .i64 oo.hi) ∧ w'.cell? ⟨(oa.add (p * 10)).block, (oa.add (p * 10)).off + 7, none⟩ = some (.int .u8 oo.vk) ∧ w'.cell? ⟨(oa.add (p * 10)).block, (oa.add (p * 10)).off + 8, none⟩ = some (.int .u64 oo.vb) ∧ w'.cell? ⟨(oa.add (p * 10)).block, (oa.add (p * 10)).off + 9, none⟩ = some (.string oo.vt)) (first | exact hRO _ (by assumption) | go_keep) (first | (go_at_call 43; (with_reducible refine (NC _ (by assumption)).mono ?_); rintro e w4 ⟨rfl, hJ4, hb4⟩) | (go_at_call 39; (with_reducible refine (hNX _).mono ?_); rintro e w5 ⟨⟨v5, rfl, hI5⟩, hb5⟩; have hJ5 := RJ.of_bel (by assumption) hb5) | (go_at_call 57; (with_reducible refine (NF _ _ (by assumption) (ints_low hI5 (RJ.lt (by assumption)))).mono ?_); rintro e w6 ⟨rfl, hJ6, hb6⟩) | (go_at_call 44; (with_reducible refine (NS _).mono ?_); rintro e w7 ⟨rfl, rfl⟩))
        go_wp2_with fail
        have hck9 : w7.heap[KB]? = some (.cells #[.int .i64 p, .int .i64 (m)] 91 (0, 0)) := bar_block (cx := cx) (n := n) hck hKB HJ.out.hM (((((hbkk.trans hb2d).trans hb4).go hb5).trans hb6))
        have e0 := k_cv hck9 0 rfl
        have e1 := k_cv hck9 1 rfl
        have d9 := k_cv hJ6.blk 9 rfl
        simp only [List.getElem_toArray, List.getElem_cons_succ, List.getElem_cons_zero] at e0 e1 d9
        obtain ⟨w9, hrun, hm9, hg9, hs9, _⟩ := run_memo_put (t := 78) (e := 3) (Memo.keep (w' := w7.drew) hJ6.mP rfl) keyP Try.underlying78 hkl hE
        have hJ9 : RJ cx f cost n w9 := RJ.put (hJ6.drew) hg9 (by omega) (fun _ => hm9) (fun e => by omega) (fun e => by omega)
        have hB9 : Bar (rS cx n) w w9 := Bar.grown (Bar.drew (((((hbk.trans hb2d).trans hb4).go hb5).trans hb6))) hg9 (.inl (by simp))
        have f0 : w9.cell? ⟨KB, 0, none⟩ = some (.int .i64 p) := (World.cell?_of_block (w := w7.drew) (hg9.block KB (k_lt hck9) (fun e => by cases e; have := hKB; omega))).trans e0
        have f1 : w9.cell? ⟨KB, 1, none⟩ = some (.int .i64 (m)) := (World.cell?_of_block (w := w7.drew) (hg9.block KB (k_lt hck9) (fun e => by cases e; have := hKB; omega))).trans e1
        have f9 := k_cv hJ9.blk 9 rfl
        simp only [List.getElem_toArray, List.getElem_cons_succ, List.getElem_cons_zero] at f9
        go_region_held3 (fun w' => w'.cell? ⟨n + 5, 9, none⟩ = some (.map (some (n + 2))) ∧ w'.cell? ⟨KB, 0, none⟩ = some (.int .i64 p) ∧ w'.cell? ⟨KB, 1, none⟩ = some (.int .i64 (m))) (first | exact ⟨f9, f0, f1⟩ | exact ⟨d9, e0, e1⟩ | go_keep) (fail)
        all_goals go_wp2
        all_goals go_returns
        all_goals exact ⟨by first | rfl | (rw [hvv]; rfl), hJ9, hB9⟩
    · have hrun : (Instr.lookup 78 (.map (some (n + 2))) (.agg #[.int .i64 p, .int .i64 (m)]) true).run Try.prog wk.drew = .ok (.tuple #[.int .i64 v, .bool true]) wk.drew := hlook 1
      go_region_held3 (fun w' => w'.cell? ⟨n + 5, 9, none⟩ = some (.map (some (n + 2))) ∧ w'.cell? ⟨KB, 0, none⟩ = some (.int .i64 p) ∧ w'.cell? ⟨KB, 1, none⟩ = some (.int .i64 (m))) (first | exact ⟨d9, d0, d1⟩ | go_keep) (fail)
      go_wp2
      go_returns
      exact ⟨rfl, hJd, hbk⟩
theorem once_step (cx : Cx) (f : FlatD) (cost : OpD → Option Int) (n k : Nat) (hC : CanF f) (hz : Modest f) (hc : CostOk cx f cost n) (hcr : ∀ o c, cost o = some c → 0 ≤ c ∧ c ≤ H40) (hF : FarOk cx f cost n (val f cost k)) (hO : OnceOk cx f cost n (val f cost k))
    (m : Nat) (v : Int) (hm : m < f.loops.length) (hv0 : val f cost (k + 1) (loopAt f m).head.toNat (some m) = some v) (w : World) (hJ : RJ cx f cost n w) :
    Calls Try.prog 70 #[.pointer (some ⟨n + 5, 0, none⟩), .int .i64 m] w (OutR cx f cost n w v) := by
  have hkl := keyI_of (x := (m : Int)) (by have := hz.2; omega)
  obtain ⟨kl, hkl⟩ : ∃ kl, keyOf Try.prog 3 (.int .i64 m) = some kl := ⟨_, hkl⟩
  have hE : EO f cost (.int .i64 m) v := ⟨k + 1, m, rfl, hv0⟩
  have hR : ∀ p l c, val f cost k p l = some c → 0 ≤ c ∧ c ≤ H40 := fun p l c h => val_range hcr (fun m hm => (hC.loop m hm).2.2.2.1) k p l c h
  obtain ⟨l1, l2, l3, l4, l5⟩ := hC.loop m hm
  have hl : ∀ m', some m = some m' → m' < f.loops.length := fun m' h => by cases h; exact hm
  have HJ := Lib.hid hJ
  have hx := loopAt_get hm
  obtain ⟨p, hpe⟩ : ∃ p : Nat, (loopAt f m).head = p := ⟨(loopAt f m).head.toNat, by omega⟩
  have hv : val f cost (k + 1) p (some m) = some v := by rw [hpe, Int.toNat_natCast] at hv0; exact hv0
  have hp : p < f.ops.length := by omega
  obtain ⟨oa, hoa⟩ : ∃ a, f.ao = some a := by
    cases e : f.ao with
    | none => exact absurd (hJ.flat.1.2.2.1 e) (by have := hJ.flat.1.1; omega)
    | some a => exact ⟨a, rfl⟩
  obtain ⟨lo, hlo⟩ : ∃ a, f.lo = some a := by
    cases e : f.lo with
    | none => exact absurd (hJ.flat.2.2.2.1 e) (by have := hJ.flat.2.1; omega)
    | some a => exact ⟨a, rfl⟩
  have hS1 := hJ.flat.2.2
  rw [hlo] at hS1
  have p0 := hS1.at0 LoopD.len hx rfl
  rw [hpe] at p0
  obtain ⟨r0, r1, r2, r3, r4, r5, r6, r7⟩ := RJ_cells hJ
  rw [hlo] at r7
  have hmln : (m : Int) < f.ln := by have := hJ.flat.2.1; omega
  have hm0 : (m : Int) ≥ 0 := by omega
  have k10 := k_cv hJ.blk 10 rfl
  simp only [List.getElem_toArray, List.getElem_cons_succ, List.getElem_cons_zero] at k10
  have hmO := hJ.mO
  have hbk : Bar (rS cx n) w w := Bar.refl _ _
  have hvx := hv0
  clear hS1 hx hpe hv0 l1 l2 l3 l4 l5 hJ
  go_enter Try.func70, Try.ntmps70
  go_wp2_with (at_lookup; go_loud (refine wpList_memo_look _ rfl _ _ 61 true rfl 3 3 keyI Try.underlying61 (zeroI _) (n + 3) _ rfl hmO _ kl rfl hkl ?_ ?_))
  · have NW := c_within cx f cost n p (some m) w HJ.out hz (by have := hz.1; omega) hl
    obtain ⟨O, hOw⟩ : ∃ O, withinV f p (some m) = O := ⟨_, rfl⟩
    rw [hOw, encL_some m] at NW
    cases O with
    | some m9 =>
      obtain ⟨ov, fs, ho, hfs, hvv⟩ := val_within hOw hv
      have NT := fun W hJW => c_through cx f cost n (val f cost k) hC hz hF hO hR m9 (some m) ov fs (withinV_lt hOw).1 hl ho hfs W hJW
      rw [encL_some m9] at NW
      simp only [encL_some m] at NT
      rw [← hvv] at NT
      have hm90 : ¬ (m9 : Int) < 0 := by omega
      clear hvv hfs ho hOw
      have hvv : v = v := rfl
      go_wp2_with (first | (go_at_call 55; go_loud (with_reducible refine NW.mono ?_); rintro e w2 ⟨rfl, hJ2, hb2⟩) | (go_at_call 56; go_loud (with_reducible refine (NT w2 hJ2).mono ?_); rintro e w3 ⟨rfl, hJ3, hb3⟩; have hm2 := hJ3.mO; have d10 := RJ_10 hJ3) | (at_mapUpdate; go_loud (refine wpList_memo_put _ rfl _ _ _ 61 rfl 3 3 keyI Try.underlying61 (n + 3) _ rfl hm2 _ kl rfl hkl _ rfl hE ?_)))
      intro w9 hm9 hg9 hs9 hh9
      have hJ9 : RJ cx f cost n w9 := hJ3.put hg9 (by omega) (fun e => by omega) (fun _ => hm9) (fun e => by omega)
      have hB9 : Bar (rS cx n) w w9 := Bar.grown ((hbk.trans hb2).trans hb3) hg9 (.inl (by simp))
      have HJ9 := Lib.hid hJ9
      clear hJ9 hm9 hh9 hg9 hm2
      go_wp2
      go_returns
      exact ⟨by first | rfl | (rw [hvv]; rfl), HJ9.out, hB9⟩
    | none =>
      obtain ⟨cv, fs, hcv, hfs, hvv⟩ := val_plain hOw hv
      have hop := opAt_get hp
      obtain ⟨oo, hoo⟩ : ∃ oo, opAt f p = oo := ⟨_, rfl⟩
      have hnx := hC.next p hp
      have NC := fun W hJW => hc oo (by rw [← hoo]; exact List.mem_of_getElem? (opAt_get hp)) cv (hoo ▸ hcv) W hJW
      have hNX := fun W => c_irNext (opAt f p) p W (by have := hz.1; omega)
      have NF := fun v W hJW hI => c_farthest cx f cost n (val f cost k) hF (some m) hl v (nextsV f p) fs hfs (fun z hzz => ⟨(hnx z hzz).1, (hnx z hzz).2.1⟩) (Nat.le_trans (nextI_len _ _) (by decide)) W hJW hI
      simp only [encL_some m] at NF
      have NS := fun W => c_sum cv (maxV fs) W (by have := hcr _ _ hcv; unfold H40 at this; exact this) (by have := far_le hR hfs; unfold H40 at this; exact this)
      rw [← hvv] at NS
      have hNN : nextsV f p = nextI (opAt f p) p := rfl
      rw [← hNN] at hNX
      rw [hoo] at hop hNX
      obtain ⟨qs, hqs⟩ : ∃ qs, nextsV f p = qs := ⟨_, rfl⟩
      rw [hqs] at hNX NF
      obtain ⟨V, hV⟩ : ∃ V, maxV fs = V := ⟨_, rfl⟩
      rw [hV] at NF NS
      rw [show encL none = -1 from rfl] at NW
      clear hvv hfs hcv hOw hV hqs hNN hoo hnx
      have hvv : v = v := rfl
      have hRO : ∀ W, RJ cx f cost n W → _ := fun W hJW => RJ_ops (p := p) hJW hoa hop
      have hpon : (p : Int) < f.on := by have := HJ.out.flat.1.1; omega
      go_wp2_with (go_at_call 55; go_loud (with_reducible refine NW.mono ?_); rintro e w2 ⟨rfl, hJ2, hb2⟩)
      have hJ2d := hJ2.drew
      have hb2d := hb2.drew
      go_region_held3 (fun w' => w'.cell? ⟨n + 5, 8, none⟩ = some (.func (.func 43) #[] #[.pointer (some ⟨n, 0, none⟩), .pointer (some ⟨n + 1, 0, none⟩)]) ∧ w'.cell? ⟨n + 5, 6, none⟩ = some (.slice (some oa) f.on f.oc) ∧ w'.cell? (oa.add (p * 10)) = some (.int .i64 oo.code) ∧ w'.cell? ⟨(oa.add (p * 10)).block, (oa.add (p * 10)).off + 1, none⟩ = some (.int .i64 oo.a) ∧ w'.cell? ⟨(oa.add (p * 10)).block, (oa.add (p * 10)).off + 2, none⟩ = some (.int .i64 oo.b) ∧ w'.cell? ⟨(oa.add (p * 10)).block, (oa.add (p * 10)).off + 3, none⟩ = some (.int .i64 oo.c) ∧ w'.cell? ⟨(oa.add (p * 10)).block, (oa.add (p * 10)).off + 4, none⟩ = some (.int .i64 oo.d) ∧ w'.cell? ⟨(oa.add (p * 10)).block, (oa.add (p * 10)).off + 5, none⟩ = some (.int .i64 oo.lo) ∧ w'.cell? ⟨(oa.add (p * 10)).block, (oa.add (p * 10)).off + 6, none⟩ = some (.int .i64 oo.hi) ∧ w'.cell? ⟨(oa.add (p * 10)).block, (oa.add (p * 10)).off + 7, none⟩ = some (.int .u8 oo.vk) ∧ w'.cell? ⟨(oa.add (p * 10)).block, (oa.add (p * 10)).off + 8, none⟩ = some (.int .u64 oo.vb) ∧ w'.cell? ⟨(oa.add (p * 10)).block, (oa.add (p * 10)).off + 9, none⟩ = some (.string oo.vt)) (first | exact hRO _ (by assumption) | go_keep) (first | (go_at_call 43; (with_reducible refine (NC _ (by assumption)).mono ?_); rintro e w4 ⟨rfl, hJ4, hb4⟩) | (go_at_call 39; (with_reducible refine (hNX _).mono ?_); rintro e w5 ⟨⟨v5, rfl, hI5⟩, hb5⟩; have hJ5 := RJ.of_bel (by assumption) hb5) | (go_at_call 57; (with_reducible refine (NF _ _ (by assumption) (ints_low hI5 (RJ.lt (by assumption)))).mono ?_); rintro e w6 ⟨rfl, hJ6, hb6⟩) | (go_at_call 44; (with_reducible refine (NS _).mono ?_); rintro e w7 ⟨rfl, rfl⟩))
      have hm2 := hJ6.mO
      have d10 := RJ_10 hJ6
      go_wp2_with (at_mapUpdate; go_loud (refine wpList_memo_put _ rfl _ _ _ 61 rfl 3 3 keyI Try.underlying61 (n + 3) _ rfl hm2 _ kl rfl hkl _ rfl hE ?_))
      intro w9 hm9 hg9 hs9 hh9
      have hJ9 : RJ cx f cost n w9 := hJ6.put hg9 (by omega) (fun e => by omega) (fun _ => hm9) (fun e => by omega)
      have hB9 : Bar (rS cx n) w w9 := Bar.grown (((((hbk.trans hb2d).trans hb4).go hb5).trans hb6)) hg9 (.inl (by simp))
      have HJ9 := Lib.hid hJ9
      clear hJ9 hm9 hh9 hg9 hm2
      go_wp2
      go_returns
      exact ⟨by first | rfl | (rw [hvv]; rfl), HJ9.out, hB9⟩
  · intro x hx
    obtain rfl := EO_at hx hvx
    go_wp2
    go_returns
    exact ⟨rfl, HJ.out, hbk⟩
end Go.Proofs.Ytmnaeoljpajomaa.H
