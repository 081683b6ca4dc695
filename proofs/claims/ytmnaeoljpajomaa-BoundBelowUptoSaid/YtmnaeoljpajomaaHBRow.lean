/- What a row gives a walk: a list of codes that came in, with the sizes of its parts. Conditions: none beyond the row's own. -/
import Derived.Test.YtmnaeoljpajomaaHBeS
import Derived.Deep.Slices
import Derived.ChangeSame
import Derived.Deep.Strs
import Derived.SizedLaws
import Derived.ProofKit
import Derived.OpenShut
import Derived.ShutString
import Derived.Carry
namespace Go.Proofs.Ytmnaeoljpajomaa.H
set_option linter.unusedSimpArgs false
set_option linter.unusedVariables false
open Go.RowKit Go.ChangeShapes Go.WideShapes Go.ChangeAt Go.Deep Go.Proofs.Ytmnaeoljpajomaa.Plain
theorem ownH : ownKnob Try.prog.godebug = none := by kernel_rfl
theorem laidOutH : laidOutB Try.prog = true := by kernel_rfl
theorem all_ltH {H : Type} {enc : TypeId × Value → H} {P : Program} {w : World} {t : TypeId} {v : Value} {y : DataW H} {p : List MemPlace} (h : DataW.Trod enc P w 0 (fun _ => true) true t v y p) : ∀ x ∈ p, x.block < w.heap.size := by
  obtain ⟨m, hm⟩ := h
  exact DataW.trod_lt m _ _ _ hm
theorem lt_of_cell {w : World} {a : Addr} {v : Value} (h : w.cell? a = some v) : a.block < w.heap.size := by
  unfold World.cell? at h
  rcases Nat.lt_or_ge a.block w.heap.size with c | c
  · exact c
  · rw [Array.getElem?_eq_none c] at h; cases h
theorem weightsAll_mem {H : Type} {P : Program} {e : TypeId} : ∀ {l : List (DataW H)} {d : DataW H}, d ∈ l → ∀ n ∈ d.weights P e, n ∈ DataW.weightsAll P e l
  | x :: l, d, hd, n, hn => by
    simp only [DataW.weightsAll, List.mem_append]
    rcases List.mem_cons.1 hd with rfl | hd
    · exact .inl hn
    · exact .inr (weightsAll_mem hd n hn)
/-- A row of elements of k cells each, as it was read. -/
theorem rows_sl {α : Type} {row : α → List Value} {k : Nat} (hk : 0 < k) (hr : ∀ d, (row d).length = k) {W : World} {a : Addr} {Pr : Nat → α → Prop} : ∀ n, (∀ i, i < n → ∃ cs, W.cells? 0 (a.add (i * k)) k = some cs ∧ ∃ d : α, cs = row d ∧ Pr i d) →
    ∃ ds : List α, ds.length = n ∧ Sl W (some a) n k (ds.flatMap row) ∧ ∀ (i : Nat) d, ds[i]? = some d → Pr i d
  | 0, _ => ⟨[], rfl, ⟨by simp, (fun h => by cases h), fun a' ha => ⟨(fun m u hu => by simp at hu), fun h => absurd rfl h⟩⟩, fun i d h => by simp at h⟩
  | n + 1, h => by
    obtain ⟨ds, hl, hS, hP⟩ := rows_sl hk hr n (fun i hi => h i (by omega))
    obtain ⟨cs, hcs, d, rfl, hd⟩ := h n (by omega)
    obtain ⟨_, hlen, hcell⟩ := World.cells?_some hcs
    have hall : ∀ m u, ((ds ++ [d]).flatMap row)[m]? = some u → W.cell? (a.add m) = some u := by
      intro m u hu
      rw [List.flatMap_append] at hu
      have hfl := fm_len hr ds
      rw [hl] at hfl
      rcases Nat.lt_or_ge m (n * k) with c | c
      · rw [List.getElem?_append_left (by rw [hfl]; exact c)] at hu
        exact (hS.2.2 a rfl).1 m u hu
      · rw [List.getElem?_append_right (by rw [hfl]; exact c), hfl] at hu
        simp only [List.flatMap_cons, List.flatMap_nil, List.append_nil] at hu
        have hj : m - n * k < k := by
          rcases Nat.lt_or_ge (m - n * k) k with x | x
          · exact x
          · rw [List.getElem?_eq_none (by rw [hr]; exact x)] at hu; cases hu
        have := hcell _ hj
        rw [hu, Addr.add_add] at this
        rwa [show n * k + (m - n * k) = m by omega] at this
    refine ⟨ds ++ [d], by simp [hl], ⟨?_, (fun h => by cases h), fun a' ha => ?_⟩, fun i d' hd' => ?_⟩
    · rw [fm_len hr]; simp [hl]
    · obtain rfl : a = a' := Option.some.inj ha
      refine ⟨hall, fun _ => ?_⟩
      have h0 : ∃ u, (row d)[0]? = some u := ⟨_, List.getElem?_eq_getElem (by rw [hr]; exact hk)⟩
      obtain ⟨u, hu⟩ := h0
      have := hcell 0 hk
      rw [hu, Addr.add_add] at this
      have := lt_of_cell this
      rwa [add_blk] at this
    · by_cases c : i < ds.length
      · rw [List.getElem?_append_left c] at hd'; exact hP i d' hd'
      · have e : i = n := by
          rcases Nat.lt_or_ge n i with x | x
          · rw [List.getElem?_append_right (by omega), List.getElem?_eq_none (by simp; omega)] at hd'; cases hd'
          · omega
        subst e
        rw [List.getElem?_append_right (by omega), hl, Nat.sub_self] at hd'
        obtain rfl : d = d' := by simpa using hd'
        exact hd
theorem trod_struct8 {H : Type} {enc : TypeId × Value → H} {P : Program} {w : World} {base : Nat} {spare : Nat → Bool} {held : Bool} {t : TypeId} {f0 f1 f2 f3 f4 f5 f6 f7 : Field} {fuel : Nat} {cs : List Value} {x : DataW H × List MemPlace} (ht : P.underlying t = some (.struct #[f0, f1, f2, f3, f4, f5, f6, f7])) (h : DataW.trod enc P w base spare held fuel t cs = some x) :
    ∃ y0 y1 y2 y3 y4 y5 y6 y7 n, x.1 = .agg [y0.1, y1.1, y2.1, y3.1, y4.1, y5.1, y6.1, y7.1] ∧ cs.length = P.cellsOf t ∧ DataW.trod enc P w base spare held n f0.type ((cs.drop f0.offset).take (P.cellsOf f0.type)) = some y0 ∧ DataW.trod enc P w base spare held n f1.type ((cs.drop f1.offset).take (P.cellsOf f1.type)) = some y1 ∧ DataW.trod enc P w base spare held n f2.type ((cs.drop f2.offset).take (P.cellsOf f2.type)) = some y2 ∧ DataW.trod enc P w base spare held n f3.type ((cs.drop f3.offset).take (P.cellsOf f3.type)) = some y3 ∧ DataW.trod enc P w base spare held n f4.type ((cs.drop f4.offset).take (P.cellsOf f4.type)) = some y4 ∧ DataW.trod enc P w base spare held n f5.type ((cs.drop f5.offset).take (P.cellsOf f5.type)) = some y5 ∧ DataW.trod enc P w base spare held n f6.type ((cs.drop f6.offset).take (P.cellsOf f6.type)) = some y6 ∧ DataW.trod enc P w base spare held n f7.type ((cs.drop f7.offset).take (P.cellsOf f7.type)) = some y7 := by
  obtain ⟨xs, n, _, rfl, hl, hlen, hf⟩ := DataW.trod_struct ht h
  match xs, hlen with
  | [y0, y1, y2, y3, y4, y5, y6, y7], _ => exact ⟨y0, y1, y2, y3, y4, y5, y6, y7, n, rfl, hl, by simpa using hf 0 f0 rfl, by simpa using hf 1 f1 rfl, by simpa using hf 2 f2 rfl, by simpa using hf 3 f3 rfl, by simpa using hf 4 f4 rfl, by simpa using hf 5 f5 rfl, by simpa using hf 6 f6 rfl, by simpa using hf 7 f7 rfl⟩
theorem eightC {cs : List Value} (h : cs.length = 8) : ∃ c0 c1 c2 c3 c4 c5 c6 c7, cs = [c0, c1, c2, c3, c4, c5, c6, c7] := by
  match cs, h with
  | [c0, c1, c2, c3, c4, c5, c6, c7], _ => exact ⟨c0, c1, c2, c3, c4, c5, c6, c7, rfl⟩
theorem tenC {cs : List Value} (h : cs.length = 10) : ∃ c0 c1 c2 c3 c4 c5 c6 c7 c8 c9, cs = [c0, c1, c2, c3, c4, c5, c6, c7, c8, c9] := by
  match cs, h with
  | [c0, c1, c2, c3, c4, c5, c6, c7, c8, c9], _ => exact ⟨c0, c1, c2, c3, c4, c5, c6, c7, c8, c9, rfl⟩
theorem threeC {cs : List Value} (h : cs.length = 3) : ∃ c0 c1 c2, cs = [c0, c1, c2] := by
  match cs, h with
  | [c0, c1, c2], _ => exact ⟨c0, c1, c2, rfl⟩
theorem cInt : Try.prog.cellsOf 3 = 1 := by kernel_rfl
theorem cStr : Try.prog.cellsOf 9 = 1 := by kernel_rfl
theorem cKind : Try.prog.cellsOf 42 = 1 := by kernel_rfl
theorem cU64 : Try.prog.cellsOf 43 = 1 := by kernel_rfl
theorem cValue : Try.prog.cellsOf 45 = 3 := by kernel_rfl
theorem cOp : Try.prog.cellsOf 47 = 10 := by kernel_rfl
theorem cLoop : Try.prog.cellsOf 40 = 3 := by kernel_rfl
theorem cFlat : Try.prog.cellsOf 32 = 8 := by kernel_rfl
theorem cOps : Try.prog.cellsOf 29 = 1 := by kernel_rfl
theorem cLoops : Try.prog.cellsOf 30 = 1 := by kernel_rfl
theorem bOp : Try.prog.bytesOf 47 = 88 := by kernel_rfl
theorem bLoop : Try.prog.bytesOf 40 = 24 := by kernel_rfl
theorem bFlat : Try.prog.bytesOf 32 = 104 := by kernel_rfl
set_option maxRecDepth 100000 in
theorem op_one {H : Type} {enc : TypeId × Value → H} {W : World} {base : Nat} {sp : Nat → Bool} {hd : Bool} {fuel : Nat} {cs : List Value} {x : DataW H × List MemPlace} (h : DataW.trod enc Try.prog W base sp hd fuel 47 cs = some x) : ∃ d : OpD, cs = d.row := by
  obtain ⟨y0, y1, y2, y3, y4, y5, y6, y7, n, _, hl, h0, h1, h2, h3, h4, h5, h6, h7⟩ := trod_struct8 Try.underlying47 h
  obtain ⟨c0, c1, c2, c3, c4, c5, c6, c7, c8, c9, rfl⟩ := tenC (hl.trans cOp)
  obtain ⟨z0, z1, z2, m, _, _, g0, g1, g2⟩ := trod_struct3 Try.underlying45 h7
  simp [cInt, cStr, cKind, cU64, cValue] at h0 h1 h2 h3 h4 h5 h6 g0 g1 g2
  obtain ⟨n0, q0, _, _⟩ := DataW.trod_int Try.underlying3 h0
  obtain ⟨n1, q1, _, _⟩ := DataW.trod_int Try.underlying3 h1
  obtain ⟨n2, q2, _, _⟩ := DataW.trod_int Try.underlying3 h2
  obtain ⟨n3, q3, _, _⟩ := DataW.trod_int Try.underlying3 h3
  obtain ⟨n4, q4, _, _⟩ := DataW.trod_int Try.underlying3 h4
  obtain ⟨n5, q5, _, _⟩ := DataW.trod_int Try.underlying3 h5
  obtain ⟨n6, q6, _, _⟩ := DataW.trod_int Try.underlying3 h6
  obtain ⟨n7, q7, _, _⟩ := DataW.trod_int Try.underlying42 g0
  obtain ⟨n8, q8, _, _⟩ := DataW.trod_int Try.underlying43 g1
  obtain ⟨s9, q9, _, _⟩ := DataW.trod_string Try.underlying9 g2
  (try simp only [List.cons.injEq, and_true] at q0 q1 q2 q3 q4 q5 q6 q7 q8 q9)
  subst q0 q1 q2 q3 q4 q5 q6 q7 q8 q9
  exact ⟨⟨n0, n1, n2, n3, n4, n5, n6, n7, n8, s9⟩, rfl⟩
set_option maxRecDepth 100000 in
theorem loop_one {H : Type} {enc : TypeId × Value → H} {W : World} {base : Nat} {sp : Nat → Bool} {hd : Bool} {fuel : Nat} {cs : List Value} {x : DataW H × List MemPlace} (h : DataW.trod enc Try.prog W base sp hd fuel 40 cs = some x) : ∃ d : LoopD, cs = d.row := by
  obtain ⟨z0, z1, z2, m, _, hl, g0, g1, g2⟩ := trod_struct3 Try.underlying40 h
  obtain ⟨c0, c1, c2, rfl⟩ := threeC (hl.trans cLoop)
  simp [cInt] at g0 g1 g2
  obtain ⟨n0, q0, _, _⟩ := DataW.trod_int Try.underlying3 g0
  obtain ⟨n1, q1, _, _⟩ := DataW.trod_int Try.underlying3 g1
  obtain ⟨n2, q2, _, _⟩ := DataW.trod_int Try.underlying3 g2
  (try simp only [List.cons.injEq, and_true] at q0 q1 q2)
  subst q0 q1 q2
  exact ⟨⟨n0, n1, n2⟩, rfl⟩
set_option maxRecDepth 100000 in
/-- A slice of rows that came in: where it lies, its length in bytes. -/
theorem open_rows {α : Type} {row : α → List Value} {k b : Nat} (hk : 0 < k) (hr : ∀ d, (row d).length = k) {H : Type} {enc : TypeId × Value → H} {W : World} {T E : TypeId} {fuel : Nat} {v : Value} {x : DataW H × List MemPlace} (hT : Try.prog.underlying T = some (.slice E)) (hc : Try.prog.cellsOf E = k) (hb : Try.prog.bytesOf E = b) {Pr : DataW H → α → Prop}
    (hone : ∀ {fuel cs y}, DataW.trod enc Try.prog W 0 (fun _ => true) true fuel E cs = some y → ∃ d : α, cs = row d ∧ Pr y.1 d) (h : DataW.trod enc Try.prog W 0 (fun _ => true) true fuel T [v] = some x) :
    ∃ (ao : Option Addr) (n c : Nat) (ds : List α), v = .slice ao n c ∧ n ≤ c ∧ ds.length = n ∧ Sl W ao n k (ds.flatMap row) ∧ (∀ d ∈ ds, ∃ y, Pr y d ∧ ∀ m ∈ y.weights Try.prog E, m ∈ x.1.weights Try.prog T) ∧ (n = 0 ∨ ∃ m, n ≤ m ∧ m * b ∈ x.1.weights Try.prog T) := by
  rcases open_slice hT h with ⟨hcs, _⟩ | ⟨a, len, cap, m, n', D, Pl, hcs, _, hlc, hmx, hmm, rfl, hall⟩
  · obtain rfl : v = .slice none 0 0 := by simpa using hcs
    exact ⟨none, 0, 0, [], rfl, Nat.le_refl _, rfl, ⟨by simp, (fun _ => rfl), (fun a ha => by cases ha)⟩, (fun d hd => by cases hd), .inl rfl⟩
  · obtain rfl : v = .slice (some a) len cap := by simpa using hcs
    rw [hc] at hall
    simp at hmm
    subst hmm
    obtain ⟨ds, hl, hS, hP⟩ := rows_sl (Pr := fun i d => Pr (D i) d) hk hr len (fun i hi => by
      obtain ⟨cs', q1, q2⟩ := hall i (by omega)
      obtain ⟨d, rfl, hd⟩ := hone q2
      exact ⟨_, q1, d, rfl, hd⟩)
    refine ⟨some a, len, _, ds, rfl, hlc, hl, hS, fun d hd => ?_, .inr ⟨_, hlc, ?_⟩⟩
    · obtain ⟨i, hi, e⟩ := List.mem_iff_getElem.1 hd
      refine ⟨D i, hP i d (by rw [← e]; exact List.getElem?_eq_getElem hi), fun w hw => ?_⟩
      simp only [DataW.weights, hT, List.mem_cons, List.mem_append]
      exact .inr (.inl (weightsAll_mem (List.mem_map.2 ⟨i, List.mem_range.2 (by omega), rfl⟩) w hw))
    · simp only [DataW.weights, hT, List.mem_cons, hb]
      left
      congr 1
      simp
      omega
/-- What a code's reading says of its sizes. -/
def SizesOk {H : Type} (y : DataW H) (f : FlatD) : Prop := (∀ m ∈ y.weights Try.prog 32, m ≤ reachBytes) → FlatSz f
set_option maxRecDepth 100000 in
theorem flat_one {H : Type} {enc : TypeId × Value → H} {W : World} {fuel : Nat} {cs : List Value} {x : DataW H × List MemPlace} (h : DataW.trod enc Try.prog W 0 (fun _ => true) true fuel 32 cs = some x) : ∃ f : FlatD, cs = f.row ∧ FlatOk W f ∧ f.ln ≤ f.lc ∧ SizesOk x.1 f := by
  obtain ⟨y0, y1, y2, y3, y4, y5, y6, y7, n, hxe, hl, h0, h1, h2, h3, h4, h5, h6, h7⟩ := trod_struct8 Try.underlying32 h
  obtain ⟨c0, c1, c2, c3, c4, c5, c6, c7, rfl⟩ := eightC (hl.trans cFlat)
  simp [cInt, cStr, cOps, cLoops] at h0 h1 h2 h3 h4 h5 h6 h7
  obtain ⟨s0, q0, _, _⟩ := DataW.trod_string Try.underlying9 h0
  obtain ⟨n1, q1, _, _⟩ := DataW.trod_int Try.underlying3 h1
  obtain ⟨n2, q2, _, _⟩ := DataW.trod_int Try.underlying3 h2
  obtain ⟨n3, q3, _, _⟩ := DataW.trod_int Try.underlying3 h3
  obtain ⟨n4, q4, _, _⟩ := DataW.trod_int Try.underlying3 h4
  obtain ⟨n5, q5, _, _⟩ := DataW.trod_int Try.underlying3 h5
  obtain ⟨ao, on, oc, ops, rfl, hoc, hol, hoS, _, hob⟩ := open_rows (row := OpD.row) (k := 10) (b := 88) (Pr := fun _ _ => True) (by decide) OpD.len Try.underlying29 cOp bOp (fun hh => by obtain ⟨d, e⟩ := op_one hh; exact ⟨d, e, trivial⟩) h6
  obtain ⟨lo, ln, lc, loops, rfl, hlc, hll, hlS, _, hlb⟩ := open_rows (row := LoopD.row) (k := 3) (b := 24) (Pr := fun _ _ => True) (by decide) LoopD.len Try.underlying30 cLoop bLoop (fun hh => by obtain ⟨d, e⟩ := loop_one hh; exact ⟨d, e, trivial⟩) h7
  (try simp only [List.cons.injEq, and_true] at q0 q1 q2 q3 q4 q5)
  subst q0 q1 q2 q3 q4 q5
  refine ⟨⟨s0, n1, n2, n3, n4, n5, ao, on, oc, lo, ln, lc, ops, loops⟩, rfl, ⟨⟨hol, hoS⟩, ⟨hll, hlS⟩⟩, hlc, fun hw => ?_⟩
  rw [hxe] at hw
  have hr := reachBytes_lt
  have hin : ∀ m, (m ∈ y6.1.weights Try.prog 29 ∨ m ∈ y7.1.weights Try.prog 30) → m ≤ reachBytes := fun m hm => hw m (by
    simp only [DataW.weights, Try.underlying32]
    simp only [List.map_toArray, List.toList_toArray, List.map_cons, List.map_nil, DataW.weightsEach, List.mem_append]
    rcases hm with hm | hm
    · exact .inr (.inr (.inr (.inr (.inr (.inr (.inl hm))))))
    · exact .inr (.inr (.inr (.inr (.inr (.inr (.inr (.inl hm))))))))
  constructor
  · rcases hob with rfl | ⟨m, h1, h2⟩
    · show 0 * 88 ≤ 140737488355328
      omega
    · have := hin _ (.inl h2)
      show on * 88 ≤ 140737488355328
      have : on * 88 ≤ m * 88 := Nat.mul_le_mul_right _ h1
      omega
  · rcases hlb with rfl | ⟨m, h1, h2⟩
    · show 0 * 24 ≤ 140737488355328
      omega
    · have := hin _ (.inr h2)
      show ln * 24 ≤ 140737488355328
      have : ln * 24 ≤ m * 24 := Nat.mul_le_mul_right _ h1
      omega
set_option maxRecDepth 100000 in
theorem open_codes {H : Type} {enc : TypeId × Value → H} {W : World} {base : Nat} {ts : List TypeId} {ds : List (DataW H)} {j : Nat} {v : Value} {d : DataW H} {p : List MemPlace}
    (hsz : (DataW.weightsEach Try.prog ts ds).all (· ≤ reachBytes) = true) (ht : ts[j]? = some 22) (hd : ds[j]? = some d)
    (hval : Value.okWide Try.prog W .any base 22 v) (h : DataW.Trod enc Try.prog W 0 (fun _ => true) true 22 v d p) :
    ∃ (ao : Option Addr) (n c : Nat) (fs : List FlatD), v = .slice ao n c ∧ Codes W ao n fs ∧ (∀ f ∈ fs, FlatSz f) ∧ (∀ f ∈ fs, f.ln ≤ f.lc) ∧ n * 104 ≤ 140737488355328 := by
  obtain ⟨a0, len, cap, rfl⟩ := okWide_slice Try.underlying22 hval
  obtain ⟨m, hm⟩ := h
  have hm2 : DataW.trod enc Try.prog W 0 (fun _ => true) true m 22 [.slice a0 len cap] = some (d, p) := hm
  obtain ⟨ao, n, c, fs, e, _, hl, hS, hP, hb⟩ := open_rows (row := FlatD.row) (k := 8) (b := 104) (Pr := fun y f => FlatOk W f ∧ f.ln ≤ f.lc ∧ SizesOk y f) (by decide) FlatD.len Try.underlying22 cFlat bFlat (fun hh => by obtain ⟨f, e, h1, h2, h3⟩ := flat_one hh; exact ⟨f, e, h1, h2, h3⟩) hm2
  have hw : ∀ m ∈ d.weights Try.prog 22, m ≤ reachBytes := fun m hm => by
    have := List.all_eq_true.1 hsz _ (DataW.weights_mem_each ht hd m hm)
    simpa using this
  have hr := reachBytes_lt
  refine ⟨ao, n, c, fs, e, ⟨hl, hS, fun f hf => ?_⟩, fun f hf => ?_, fun f hf => ?_, ?_⟩
  · obtain ⟨y, h1, _⟩ := hP f hf
    exact h1.1
  · obtain ⟨y, h1, h2⟩ := hP f hf
    exact h1.2.2 (fun m hm => hw m (h2 m hm))
  · obtain ⟨y, h1, _⟩ := hP f hf
    exact h1.2.1
  · rcases hb with rfl | ⟨m, h1, h2⟩
    · omega
    · have := hw _ h2
      have : n * 104 ≤ m * 104 := Nat.mul_le_mul_right _ h1
      omega
end Go.Proofs.Ytmnaeoljpajomaa.H
