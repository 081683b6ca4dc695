/- The law BoundOnce: walked. Condition: sizes within reach. -/
import Derived.Test.YtmnaeoljpajomaaHBoK
import Derived.Test.YtmnaeoljpajomaaHBoI
import Derived.Test.YtmnaeoljpajomaaHBeS
namespace Go.Proofs.Ytmnaeoljpajomaa.H
set_option linter.unusedVariables false
set_option linter.unusedSimpArgs false
open Go.RowKit Go.Proofs.Ytmnaeoljpajomaa.Plain Go.Sort Go.Maps
set_option maxHeartbeats 3200000
set_option maxRecDepth 100000
attribute [local go_sem] ext_from ext_bits cell_isSome un_neg_float
theorem flatMap_set {α : Type} {row : α → List Value} : ∀ (l : List α) (j : Nat) (g g' : α), l[j]? = some g → row g' = row g → (l.set j g').flatMap row = l.flatMap row
  | [], j, g, g', h, _ => by simp at h
  | x :: l, 0, g, g', h, e => by
    obtain rfl : x = g := by simpa using h
    simp [e]
  | x :: l, j + 1, g, g', h, e => by
    rw [List.set_cons_succ, List.flatMap_cons, List.flatMap_cons, flatMap_set l j g g' (by simpa using h) e]
theorem loops_set : ∀ (l : List LoopD) (k : Nat) (x : LoopD) (t : Int), l[k]? = some x → (l.flatMap LoopD.row).set (k * 3 + 2) (.int .i64 t) = (l.set k { x with times := t }).flatMap LoopD.row
  | [], k, x, t, h => by simp at h
  | y :: l, 0, x, t, h => by
    obtain rfl : y = x := by simpa using h
    simp [LoopD.row]
  | y :: l, k + 1, x, t, h => by
    have ih := loops_set l k x t (by simpa using h)
    rw [List.set_cons_succ, List.flatMap_cons, List.flatMap_cons, ← ih, List.set_append_right _ _ (by simp [LoopD.row]; omega)]
    congr 2
    simp [LoopD.row]
    omega
theorem own_heap {w : World} {B n k c : Nat} {T : TypeId} {us : List Value} {a : Addr} (h : w.ownsRow B T k (.slice (some a) n c) n us) : a = ⟨a.block, 0, none⟩ ∧ B ≤ a.block ∧ ∃ cs, w.heap[a.block]? = some (.cells cs T (0, 0)) := by
  rcases h.2 with ⟨e, _⟩ | ⟨g, cap, cur, e1, e2, e3, _⟩
  · cases e
  · cases e1
    exact ⟨rfl, e2, cur, e3⟩
theorem own_other {w : World} {B B2 n n2 k k2 c c2 : Nat} {T T2 : TypeId} {us us2 : List Value} {a a2 : Addr} (h : w.ownsRow B T k (.slice (some a) n c) n us) (h2 : w.ownsRow B2 T2 k2 (.slice (some a2) n2 c2) n2 us2) (hT : T ≠ T2) : a.block ≠ a2.block := by
  obtain ⟨_, _, cs, e1⟩ := own_heap h
  obtain ⟨_, _, cs2, e2⟩ := own_heap h2
  intro e
  rw [e, e2] at e1
  cases e1
  exact hT rfl
theorem codes_put {w : World} {B n c j k : Nat} {ao : Option Addr} {gs : List FlatD} {g : FlatD} {x : LoopD} {b : Nat} {t : Int} (hl : gs.length = n) (h : w.ownsRow B 32 8 (.slice ao n c) n (gs.flatMap FlatD.row)) (hf : ∀ g ∈ gs, FlatOwnB w B g) (hap : ApartL gs)
    (hg : gs[j]? = some g) (hx : g.loops[k]? = some x) (hlo : g.lo = some ⟨b, 0, none⟩) : Codes (w.setCell ⟨b, k * 3 + 2, none⟩ (.int .i64 t)) ao n (gs.set j { g with loops := g.loops.set k { x with times := t } }) := by
  have hgm := hf g (List.mem_of_getElem? hg)
  have hgl := hgm.2.2
  rw [hlo] at hgl
  have hC := codes_own hl h hf
  refine ⟨by rw [List.length_set]; exact hl, ?_, fun y hy => ?_⟩
  · rw [flatMap_set gs j g { g with loops := g.loops.set k { x with times := t } } hg rfl]
    refine hC.2.1.set (fun a ha => ?_)
    subst ha
    exact own_other h hgl (by decide)
  · obtain ⟨i, hi, e⟩ := List.mem_iff_getElem.1 hy
    rw [List.length_set] at hi
    rw [List.getElem_set] at e
    by_cases c : j = i
    · rw [if_pos c] at e
      subst e
      refine ⟨⟨hgm.1.1, (hC.2.2 g (List.mem_of_getElem? hg)).1.2.set (fun a ha => ?_)⟩, ⟨?_, ?_⟩⟩
      · have h2 := hgm.1.2
        have ha' : g.ao = some a := ha
        rw [ha'] at h2
        exact own_other h2 hgl (by decide)
      · show (g.loops.set k _).length = g.ln
        rw [List.length_set]; exact hgm.2.1
      · have h3 := (hgl.stored (k * 3 + 2) (.int .i64 t)).1
        rw [loops_set g.loops k x t hx] at h3
        obtain ⟨a1, c1, e1, s1⟩ := sl_own h3 (by rw [fm_len LoopD.len, List.length_set, hgm.2.1])
        cases e1
        show Sl _ g.lo g.ln 3 _
        rw [hlo]
        exact s1
    · rw [if_neg c] at e
      subst e
      have hi' : gs[i]? = some gs[i] := List.getElem?_eq_getElem hi
      have hym := hf gs[i] (List.getElem_mem hi)
      have hok := hC.2.2 gs[i] (List.getElem_mem hi)
      refine ⟨⟨hok.1.1, hok.1.2.set (fun a ha => ?_)⟩, ⟨hok.2.1, hok.2.2.set (fun a ha => ?_)⟩⟩
      · have h2 := hym.1.2
        rw [ha] at h2
        exact own_other h2 hgl (by decide)
      · rcases Nat.lt_or_gt_of_ne c with d | d
        · exact fun e => hap j i g gs[i] _ a d hg hi' hlo ha e.symm
        · exact fun e => hap i j gs[i] g a _ d hi' hg ha hlo e
theorem codes_putA {w : World} {B n c j k : Nat} {ao : Option Addr} {gs : List FlatD} {g : FlatD} {x : LoopD} {la : Addr} {t : Int} (hl : gs.length = n) (h : w.ownsRow B 32 8 (.slice ao n c) n (gs.flatMap FlatD.row)) (hf : ∀ g ∈ gs, FlatOwnB w B g) (hap : ApartL gs)
    (hg : gs[j]? = some g) (hx : g.loops[k]? = some x) (hlo : g.lo = some la) : Codes (w.setCell ⟨(la.add (k * 3)).block, (la.add (k * 3)).off + 2, none⟩ (.int .i64 t)) ao n (gs.set j { g with loops := g.loops.set k { x with times := t } }) ∧ B ≤ (la.add (k * 3)).block ∧ w.cell? ⟨(la.add (k * 3)).block, (la.add (k * 3)).off + 2, none⟩ = some (.int .i64 x.times) ∧ w.frozen? ⟨(la.add (k * 3)).block, (la.add (k * 3)).off + 2, none⟩ = false := by
  have hgm := hf g (List.mem_of_getElem? hg)
  have hgl := hgm.2.2
  rw [hlo] at hgl
  obtain ⟨e, hB, cs, hh⟩ := own_heap hgl
  have hok := hgm.own.ok.2.2
  rw [hlo] at hok
  have hc := hok.atS LoopD.len hx (j := 2) (by decide) rfl
  rw [add_blk]
  rw [add_blk] at hc
  refine ⟨?_, hB, hc, k_fr hh _⟩
  have e2 : (la.add (k * 3)).off = k * 3 := by rw [e, add_pl]
  rw [e2]
  exact codes_put hl h hf hap hg hx (by rw [hlo, ← e])
theorem own_cap {w : World} {B n k c : Nat} {T : TypeId} {us : List Value} {ao : Option Addr} (h : w.ownsRow B T k (.slice ao n c) n us) : n ≤ c := by
  rcases h.2 with ⟨e, e0⟩ | ⟨g, cap, cur, e1, e2, e3, e4, _⟩
  · omega
  · cases e1; exact e4
theorem copies_sizes {w : World} {B : Nat} {gs fs : List FlatD} (hal : Alike gs fs) (hs : ∀ f ∈ fs, FlatSz f) (hm : ∀ f ∈ fs, Modest f) (hfo : ∀ g ∈ gs, FlatOwnB w B g) : ∀ g ∈ gs, FlatSz g ∧ Modest g ∧ g.ln ≤ g.lc := fun g hg => by
  obtain ⟨i, hi, e⟩ := List.mem_iff_getElem.1 hg
  have hif : i < fs.length := by rw [← hal.1]; exact hi
  obtain ⟨e1, e2, e3, e4, e5, e6, e7, e8, e9, e10⟩ := hal.2 i gs[i] fs[i] (List.getElem?_eq_getElem hi) (List.getElem?_eq_getElem hif)
  rw [e] at e7 e8 e9 e10
  obtain ⟨z1, z2⟩ := hs fs[i] (List.getElem_mem hif)
  obtain ⟨z3, z4⟩ := hm fs[i] (List.getElem_mem hif)
  exact ⟨⟨by rw [e7]; exact z1, by rw [e8]; exact z2⟩, ⟨by rw [e9]; exact z3, by rw [e10]; exact z4⟩, own_cap (hfo g hg).2.2⟩
theorem allV_ops {gs fs : List FlatD} (hl : gs.length = fs.length) (h : ∀ (i : Nat) (f g : FlatD), fs[i]? = some f → gs[i]? = some g → f.ops = g.ops) : allV gs = allV fs := by
  apply List.ext_getElem?
  intro i
  rcases Nat.lt_or_ge i fs.length with c | c
  · have a := List.getElem?_eq_getElem c
    have b : gs[i]? = some (gs[i]'(by omega)) := List.getElem?_eq_getElem _
    rw [allV_at a, allV_at b, h i _ _ a b]
  · rw [List.getElem?_eq_none (by rw [allV_len]; omega), List.getElem?_eq_none (by rw [allV_len]; omega)]
theorem once_parts {gs fs : List FlatD} {j K : Nat} {f g : FlatD} (hal : Alike gs fs) (hn : True) (hf : fs[j]? = some f) (hg : gs[j]? = some g) (hK : K < f.loops.length) :
    (gs.set j { g with loops := g.loops.set K { loopAt g K with times := (loopAt g K).times + 1 } })[j]? = some { g with loops := g.loops.set K { loopAt g K with times := (loopAt g K).times + 1 } } ∧
    (∀ i, i ≠ j → ∀ (f1 g1 : FlatD), fs[i]? = some f1 → (gs.set j { g with loops := g.loops.set K { loopAt g K with times := (loopAt g K).times + 1 } })[i]? = some g1 → SameF f1 g1) ∧
    SimF f { g with loops := g.loops.set K { loopAt g K with times := (loopAt g K).times + 1 } } ∧
    (∀ m, m ≠ K → (loopAt { g with loops := g.loops.set K { loopAt g K with times := (loopAt g K).times + 1 } } m).times = (loopAt f m).times) ∧
    (loopAt { g with loops := g.loops.set K { loopAt g K with times := (loopAt g K).times + 1 } } K).times = (loopAt f K).times + 1 := by
  obtain ⟨e1, e2, e3, e4, e5, e6, e7, e8, e9, e10⟩ := hal.2 j g f hg hf
  have hgf : ∀ m, loopAt g m = loopAt f m := fun m => by unfold loopAt; rw [e10]
  have hjl : j < gs.length := (List.getElem?_eq_some_iff.1 hg).1
  have hk : loopAt { g with loops := g.loops.set K { loopAt g K with times := (loopAt g K).times + 1 } } K = { loopAt g K with times := (loopAt g K).times + 1 } := by
    show (g.loops.set K _).getD K _ = _
    rw [List.getD_eq_getElem?_getD, List.getElem?_set_self (by rw [e10]; exact hK)]
    rfl
  have ho : ∀ m, m ≠ K → loopAt { g with loops := g.loops.set K { loopAt g K with times := (loopAt g K).times + 1 } } m = loopAt g m := fun m c => by
    show (g.loops.set K _).getD m _ = g.loops.getD m _
    rw [List.getD_eq_getElem?_getD, List.getElem?_set_ne (fun e => c e.symm), ← List.getD_eq_getElem?_getD]
  refine ⟨by rw [List.getElem?_set_self hjl], fun i c f1 g1 a b => ?_, ⟨e9.symm, by rw [List.length_set, e10], fun m => ?_⟩, fun m c => by rw [ho m c, hgf], by rw [hk, hgf]⟩
  · rw [List.getElem?_set_ne (fun e => c e.symm)] at b
    obtain ⟨_, _, _, _, _, _, _, _, a9, a10⟩ := hal.2 i g1 f1 b a
    exact ⟨a9.symm, a10.symm⟩
  · by_cases c : m = K
    · subst c
      rw [hk, hgf]
      exact ⟨rfl, rfl⟩
    · rw [ho m c, hgf]
      exact ⟨rfl, rfl⟩
theorem law_Once (ao : Option Addr) (n c : Nat) (fs : List FlatD) (fn wh : Int) (w : World) (hC : Codes w ao n fs) (hs : ∀ f ∈ fs, FlatSz f) (hm : ∀ f ∈ fs, Modest f) (hcap : ∀ f ∈ fs, f.ln ≤ f.lc) (hbig : n ≤ 1048576) (hT : sumA (allV fs) ≤ 4194303) (hwh : 0 ≤ wh ∧ wh ≤ 18446744073709551615) :
    Calls Try.prog 5 #[.slice ao n c, .int .i64 fn, .int .u64 wh] w fun e w' => e = .returned (.bool true) ∧ Below w.heap.size w w' := by
  obtain ⟨v, hv⟩ := reckons_any hm fn
  have N1 := c_Of ao n c fs fn v w hC hs hm hcap hbig hT hv
  have NA := c_awake
  have hl := hC.1
  by_cases hok : (soundV (allV fs) fn).2 = 0 ∧ (belongV (allV fs) [fn]).find? (fun k => !(canB fs k)) = none ∧ v ≤ 1048576
  · obtain ⟨h1, h2, h3⟩ := hok
    have hR : ofR fs fn v = (v, 0, 0) := by
      unfold ofR
      rw [if_neg (by simp [h1]), h2]
      dsimp only
      rw [if_neg (by omega)]
    obtain ⟨⟨j, rfl, hj⟩, _⟩ := sound_all h1
    rw [allV_len] at hj
    obtain ⟨f, hf⟩ : ∃ f, fs[j]? = some f := ⟨_, List.getElem?_eq_getElem hj⟩
    have hfm := List.mem_of_getElem? hf
    rw [hR] at N1
    obtain ⟨a, rfl⟩ : ∃ a, ao = some a := by
      cases e : ao with
      | none => exact absurd (hC.2.1.2.1 e) (by omega)
      | some a => exact ⟨a, rfl⟩
    have hll := (hC.2.2 f hfm).2.1
    have hjI : (j : Int) < n := by omega
    have hcells := fun W (hb : Below w.heap.size w W) => codes_cells (hC.go hb) hf
    have HC := Lib.hid hC
    have HS := Lib.hid hs
    have HV := Lib.hid hv
    have HM := Lib.hid hm
    have HCAP := Lib.hid hcap
    have HT := Lib.hid hT
    have H1 := Lib.hid h1
    have H2 := Lib.hid h2
    have HN := Lib.hid hbig
    clear hC hs hm hcap hT hv h1 h2 hR hbig
    by_cases hz : f.ln = 0
    · go_enter Try.func5, Try.ntmps5
      go_wp2_with (first | (go_at_call 8; go_loud (with_reducible refine N1.mono ?_); rintro e w1 ⟨rfl, hbc⟩) | (go_at_call 10; go_loud (with_reducible refine (NA _).mono ?_); rintro e w2 ⟨rfl, hb2⟩; have hbc := b_go hbc hb2; obtain ⟨x0, x1, x2, x3, x4, x5, x6, x7⟩ := hcells w2 hbc))
      go_returns
      exact ⟨rfl, hbc⟩
    · have N2 := fun W (hb : Below w.heap.size w W) => c_FlatsB (some a) n c fs W (HC.out.go hb) HS.out (by have := HN.out; omega)
      obtain ⟨K, hK⟩ : ∃ K : Nat, (K : Int) = wh % f.ln := ⟨(wh % f.ln).toNat, by have := Int.emod_nonneg wh (show (f.ln : Int) ≠ 0 by omega); omega⟩
      have hKl : K < f.ln := by have := Int.emod_lt_of_pos wh (show (0 : Int) < f.ln by omega); omega
      have hln : f.ln ≤ 1048576 := by have := (HM.out f hfm).2; omega
      have hlnI : ¬ (f.ln : Int) = 0 := by omega
      go_enter Try.func5, Try.ntmps5
      go_upto_region 6 with (first | (go_at_call 8; go_loud (with_reducible refine N1.mono ?_); rintro e w1 ⟨rfl, hbc⟩) | (go_at_call 10; go_loud (with_reducible refine (NA _).mono ?_); rintro e w2 ⟨rfl, hb2⟩; have hbc := b_go hbc hb2; obtain ⟨x0, x1, x2, x3, x4, x5, x6, x7⟩ := hcells w2 hbc) | (go_at_call 13; go_loud (with_reducible refine (N2 _ hbc).mono ?_); rintro e w3 ⟨⟨ag, cg, gs, rfl, hal, hown, hfo, hap⟩, hb3⟩; rw [hl] at hown ⊢))
      rw [← hK]
      clear hK
      have hgl : gs.length = n := by rw [hal.1, hl]
      obtain ⟨g, hg⟩ : ∃ g, gs[j]? = some g := ⟨_, List.getElem?_eq_getElem (by omega)⟩
      obtain ⟨e1, e2, e3, e4, e5, e6, e7, e8, e9, e10⟩ := hal.2 j g f hg hf
      obtain ⟨ga, rfl⟩ : ∃ a, ag = some a := by
        cases e : ag with
        | none => exact absurd ((codes_own hgl hown hfo).2.1.2.1 e) (by omega)
        | some a => exact ⟨a, rfl⟩
      have hGC := codes_own hgl hown hfo
      have hgm := List.mem_of_getElem? hg
      obtain ⟨la, hla⟩ : ∃ a, g.lo = some a := by
        cases e : g.lo with
        | none => exact absurd ((hGC.2.2 g hgm).2.2.2.1 e) (by omega)
        | some a => exact ⟨a, rfl⟩
      obtain ⟨x, hx⟩ : ∃ x, g.loops[K]? = some x := ⟨_, List.getElem?_eq_getElem (by rw [e10]; omega)⟩
      obtain ⟨hput, hB, c1, c2⟩ := codes_putA (t := x.times + 1) hgl hown hfo hap hg hx hla
      obtain ⟨y0, y1, y2, y3, y4, y5, y6, y7⟩ := codes_cells hGC hg
      rw [hla, e8] at y7
      have hKI : (K : Int) < f.ln := by omega
      have hbw := b_go hbc hb3
      by_cases hmax : 65536 ≤ x.times
      · clear hput hown hfo hap hal e1 e2 e3 e4 e5 e6 e7 e8 e9 e10 hGC
        go_wp2
        go_returns
        exact ⟨rfl, hbw⟩
      · obtain ⟨p1, p2, p3⟩ := once_parts hal trivial hf hg (K := K) (by omega)
        obtain rfl : x = loopAt g K := Option.some.inj (hx.symm.trans (loopAt_get (by rw [e10]; omega)))
        have hgf : loopAt g K = loopAt f K := by unfold loopAt; rw [e10]
        obtain ⟨hG, hR⟩ := good_of HM.out H1.out H2.out
        obtain ⟨f', hf', hcan, _⟩ := hG.code j hR
        obtain rfl : f = f' := Option.some.inj (hf.symm.trans hf')
        have hpos := (hcan.loop K (by omega)).2.2.2.1
        obtain ⟨q1, q2, v', q3, q4, q5⟩ := of_once (by rw [List.length_set, hal.1]) p2 hf p1 p3.1 p3.2.1 p3.2.2 (by rw [← hgf]; omega) HM.out H1.out H2.out (by
          obtain ⟨k, hk⟩ := HV.out H1.out H2.out
          exact ⟨k, by rwa [Int.toNat_natCast] at hk⟩)
        have hv0 : 0 ≤ v := by
          obtain ⟨k, hk⟩ := HV.out H1.out H2.out
          exact (ofV_range k _ v hk).1
        have hz' := copies_sizes hal HS.out HM.out hfo
        have hzs : ∀ y ∈ gs.set j { g with loops := g.loops.set K { loopAt g K with times := (loopAt g K).times + 1 } }, FlatSz y ∧ Modest y ∧ y.ln ≤ y.lc := fun y hy => by
          rcases List.mem_or_eq_of_mem_set hy with h | rfl
          · exact hz' y h
          · obtain ⟨z1, z2, z3⟩ := hz' g hgm
            exact ⟨z1, ⟨z2.1, by show (g.loops.set K _).length ≤ _; rw [List.length_set]; exact z2.2⟩, z3⟩
        have hall : allV (gs.set j { g with loops := g.loops.set K { loopAt g K with times := (loopAt g K).times + 1 } }) = allV fs := allV_ops (by rw [List.length_set, hal.1]) (fun i f1 g1 a b => by
          by_cases c : i = j
          · subst c
            rw [p1] at b
            rw [hf] at a
            cases a; cases b
            exact p3.1.ops
          · exact (p2 i c f1 g1 a b).1)
        have N3 := c_Of (some ga) n cg (gs.set j { g with loops := g.loops.set K { loopAt g K with times := (loopAt g K).times + 1 } }) j v' _ hput (fun y hy => (hzs y hy).1) (fun y hy => (hzs y hy).2.1) (fun y hy => (hzs y hy).2.2) HN.out (by rw [hall]; exact HT.out) q3
        rw [hgf] at N3 hmax c1
        rw [← hgf] at hpos
        have hR' : ofR (gs.set j { g with loops := g.loops.set K { loopAt g K with times := (loopAt g K).times + 1 } }) j v' = if v' > 1048576 then (0, (j : Int), 241) else (v', 0, 0) := by
          unfold ofR
          rw [if_neg (by simp [q1]), q2]
        rw [← hgf] at N3 hmax c1
        rw [hR'] at N3
        have hbp : Below w.heap.size w (w3.setCell ⟨(la.add (K * 3)).block, (la.add (K * 3)).off + 2, none⟩ (.int .i64 ((loopAt g K).times + 1))) := b_st hbw (by have := hbc.size; omega) _
        obtain ⟨t, ht⟩ : ∃ t, (loopAt g K).times = t := ⟨_, rfl⟩
        rw [ht] at c1 hmax hpos hbp N3
        clear hput hown hfo hap hal e1 e2 e3 e4 e5 e6 e7 e8 e9 e10 hGC p1 p2 p3 hG hR hcan q1 q2 q3 hz' hzs hall hR' hgf ht N1 N2
        by_cases hgr : v' > 1048576
        · rw [if_pos hgr] at N3
          go_wp2_with (go_at_call 8; go_loud (with_reducible refine N3.mono ?_); rintro e w4 ⟨rfl, hb4⟩)
          go_returns
          exact ⟨rfl, b_go hbp hb4⟩
        · rw [if_neg hgr] at N3
          go_wp2_with (go_at_call 8; go_loud (with_reducible refine N3.mono ?_); rintro e w4 ⟨rfl, hb4⟩)
          go_returns
          exact ⟨rfl, b_go hbp hb4⟩
  · have hR : ∃ r1 r2 r3, ofR fs fn v = (r1, r2, r3) ∧ r3 ≠ 0 := by
      unfold ofR
      by_cases c1 : (soundV (allV fs) fn).2 = 0
      · rw [if_neg (by simp [c1])]
        cases c2 : (belongV (allV fs) [fn]).find? (fun k => !(canB fs k)) with
        | some k => exact ⟨_, _, _, rfl, by decide⟩
        | none =>
          dsimp only
          rw [if_pos (by
            refine Int.not_le.1 (fun x => hok ⟨c1, c2, x⟩))]
          exact ⟨_, _, _, rfl, by decide⟩
      · rw [if_pos c1]
        exact ⟨_, _, _, rfl, c1⟩
    obtain ⟨r1, r2, r3, hR, hr3⟩ := hR
    rw [hR] at N1
    clear hC hs hm hcap hbig hT hv hok hR
    go_enter Try.func5, Try.ntmps5
    go_wp2_with (first | (go_at_call 8; go_loud (with_reducible refine N1.mono ?_); rintro e w1 ⟨rfl, hbc⟩) | (go_at_call 10; go_loud (with_reducible refine (NA _).mono ?_); rintro e w2 ⟨rfl, hb2⟩; have hbc := b_go hbc hb2))
    go_returns
    exact ⟨rfl, hbc⟩
end Go.Proofs.Ytmnaeoljpajomaa.H
