/- A queue of whole numbers: a slice at any place of a row of the walk's own; its laws for append and for what is taken off its front. No condition. -/
import Derived.Test.YtmnaeoljpajomaaHBdJ
import Derived.Deep.AppendSrc
import Derived.Deep.Onto
namespace Go.Proofs.Ytmnaeoljpajomaa.H
set_option linter.unusedVariables false
set_option linter.unusedSimpArgs false
open Go.RowKit Go.Proofs.Ytmnaeoljpajomaa.Plain Go.Sort
set_option maxHeartbeats 3200000
set_option maxRecDepth 100000
/-- Whole numbers in a slice at any place of a block of the walk's own. -/
def Que (w : World) (B : Nat) (v : Value) (zs : List Int) : Prop :=
  (zs = [] ∧ ∃ ao, v = .slice ao 0 0) ∨ ∃ g off cap, v = .slice (some ⟨g, off, none⟩) zs.length cap ∧ B ≤ g ∧ g < w.heap.size ∧ zs.length ≤ cap ∧ cap ≤ maxLen ∧ (∀ i z, zs[i]? = some z → w.cell? ⟨g, off + i, none⟩ = some (.int .i64 z)) ∧ ∀ j, j < cap → (w.cell? ⟨g, off + j, none⟩).isSome = true ∧ w.frozen? ⟨g, off + j, none⟩ = false
theorem Que.keep {w w' : World} {B : Nat} {v : Value} {zs : List Int} (h : Que w B v zs) (hs : w.heap.size ≤ w'.heap.size) (hb : ∀ g, v.ownBlock = some g → B ≤ g → g < w.heap.size → w'.heap[g]? = w.heap[g]?) : Que w' B v zs := by
  rcases h with h | ⟨g, off, cap, rfl, h1, h2, h3, h4, h5, h6⟩
  · exact .inl h
  · have e := hb g rfl h1 h2
    refine .inr ⟨g, off, cap, rfl, h1, by omega, h3, h4, fun i z hz => ?_, fun j hj => ?_⟩
    · rw [World.cell?_of_block (w := w) (a := ⟨g, off + i, none⟩) e]; exact h5 i z hz
    · rw [World.cell?_of_block (w := w) (a := ⟨g, off + j, none⟩) e, World.frozen?_of_block (w := w) (a := ⟨g, off + j, none⟩) e]; exact h6 j hj
theorem Que.go {w w' : World} {B : Nat} {v : Value} {zs : List Int} (h : Que w B v zs) (hb : Below w.heap.size w w') : Que w' B v zs := h.keep hb.size (fun g _ _ hg => hb.block g hg)
theorem Que.set {w : World} {B b i : Nat} {v u : Value} {zs : List Int} (h : Que w B v zs) (hb : b < B) : Que (w.setCell ⟨b, i, none⟩ u) B v zs := h.keep (by simp [World.setCell]) (fun g _ hg _ => Below.heap_setCell _ _ _ _ (fun e => by have e2 : g = b := e; omega))
theorem own_parts {w : World} {B : Nat} {v : Value} {zs : List Int} (h : Ints w B v zs) : v = .slice none 0 0 ∧ zs = [] ∨ ∃ g cap, v = .slice (some ⟨g, 0, none⟩) zs.length cap ∧ B ≤ g ∧ g < w.heap.size ∧ zs.length ≤ cap ∧ cap ≤ maxLen ∧ (∀ i z, zs[i]? = some z → w.cell? ⟨g, i, none⟩ = some (.int .i64 z)) ∧ ∀ j, j < cap → (w.cell? ⟨g, j, none⟩).isSome = true ∧ w.frozen? ⟨g, j, none⟩ = false := by
  rcases h.2 with ⟨rfl, e⟩ | ⟨g, cap, cur, rfl, hb, hg, hn, hm, hs, ht⟩
  · exact .inl ⟨rfl, List.eq_nil_of_length_eq_zero e⟩
  · refine .inr ⟨g, cap, rfl, hb, k_lt hg, hn, hm, fun i z hz => ?_, fun j hj => ?_⟩
    · have := h.cells (g := g) rfl i (.int .i64 z) (by simp [hz])
      rwa [add_pl] at this
    · have hjs : j < cur.size := by omega
      refine ⟨?_, by simp [World.frozen?, hg]⟩
      rw [k_cell hg j, Array.getElem?_eq_getElem hjs]
      rfl
theorem que_of_ints {w : World} {B : Nat} {v : Value} {zs : List Int} (h : Ints w B v zs) : Que w B v zs := by
  rcases own_parts h with ⟨rfl, rfl⟩ | ⟨g, cap, rfl, h1, h2, h3, h4, h5, h6⟩
  · exact .inl ⟨rfl, none, rfl⟩
  · exact .inr ⟨g, 0, cap, rfl, h1, h2, h3, h4, fun i z hz => by rw [Nat.zero_add]; exact h5 i z hz, fun j hj => by rw [Nat.zero_add]; exact h6 j hj⟩
theorem Que.shape {w : World} {B : Nat} {v : Value} {zs : List Int} (h : Que w B v zs) : ∃ a c, v = .slice a zs.length c := by
  rcases h with ⟨rfl, ao, rfl⟩ | ⟨g, off, cap, rfl, _⟩
  · exact ⟨ao, 0, rfl⟩
  · exact ⟨_, cap, rfl⟩
/-- The front of a queue that is not empty, and what is left of it. -/
theorem Que.front {w : World} {B : Nat} {v : Value} {z : Int} {zs : List Int} (h : Que w B v (z :: zs)) : ∃ g off cap, v = .slice (some ⟨g, off, none⟩) (zs.length + 1) cap ∧ zs.length + 1 ≤ cap ∧ cap ≤ maxLen ∧ w.cell? ⟨g, off, none⟩ = some (.int .i64 z) ∧ (cap = 1 → Que w B (.slice (some ⟨g, off, none⟩) zs.length (cap - 1)) zs) ∧ (cap ≠ 1 → Que w B (.slice (some ⟨g, off + 1, none⟩) zs.length (cap - 1)) zs) := by
  rcases h with ⟨h, _⟩ | ⟨g, off, cap, rfl, h1, h2, h3, h4, h5, h6⟩
  · cases h
  · simp only [List.length_cons] at h3
    refine ⟨g, off, cap, rfl, h3, h4, h5 0 z rfl, fun hc => ?_, fun hc => ?_⟩
    · subst hc
      have : zs = [] := List.eq_nil_of_length_eq_zero (by omega)
      subst this
      exact .inl ⟨rfl, _, rfl⟩
    · refine .inr ⟨g, off + 1, cap - 1, rfl, h1, h2, by omega, by omega, fun i x hx => ?_, fun j hj => ?_⟩
      · have := h5 (i + 1) x (by simpa using hx)
        rwa [show off + 1 + i = off + (i + 1) by omega]
      · have := h6 (j + 1) (by omega)
        rwa [show off + 1 + j = off + (j + 1) by omega]
theorem setCells_parts (b : Nat) : ∀ (vs : List Value) (o : Nat) (w : World), (w.setCells b o vs).os = w.os ∧ (w.setCells b o vs).tape = w.tape ∧ (w.setCells b o vs).output = w.output ∧ (w.setCells b o vs).heap.size = w.heap.size ∧ ∀ k, k ≠ b → (w.setCells b o vs).heap[k]? = w.heap[k]?
  | [], _, _ => ⟨rfl, rfl, rfl, rfl, fun _ _ => rfl⟩
  | v :: vs, o, w => by
    obtain ⟨h1, h2, h3, h4, h5⟩ := setCells_parts b vs (o + 1) (w.setCell ⟨b, o, none⟩ v)
    refine ⟨h1.trans rfl, h2.trans rfl, h3.trans rfl, h4.trans (by simp [World.setCell]), fun k hk => (h5 k hk).trans (Below.heap_setCell _ _ _ _ hk)⟩
/-- NOTHING IS APPENDED onto a slice without room. -/
theorem run_append_nothing_q (P : Program) (w : World) (t ty e : TypeId) (i : TypeInfo) (ht : P.underlying t = some (.slice e)) (hi : P.info? e = some i) (ao : Option Addr) (x : Value) (hs : Src P i.size t x 0 [] w) :
    (Builtin.append_ #[t, t] ty #[.slice ao 0 0, x]).run P w = .ok (.slice ao 0 0) w := by
  cases ao <;> simp [Builtin.append_, run_underlying ht, sizeOf, typeInfo, hi, hs.len, hs.cells, storeCells]
/-- append onto a queue: what comes, in the world that comes. -/
theorem run_append_que (P : Program) (w : World) (B : Nat) (t ty e : TypeId) (i : TypeInfo) (ht : P.underlying t = some (.slice e)) (hi : P.info? e = some i) (hz : i.zero = some (.int .i64 0)) (hsize : i.size = 1) (hby : i.bytes = 8)
    (v : Value) (zs : List Int) (hq : Que w B v zs) (x : Value) (ns : List Int) (hs : Src P 1 t x ns.length (ns.map encI) w) (h63 : zs.length + ns.length ≤ maxLen) (hbytes : (zs.length + ns.length) * 8 ≤ 140737488355328) (hB : B ≤ w.heap.size) :
    ∃ v' w', (Builtin.append_ #[t, t] ty #[v, x]).run P w = .ok v' w' ∧ Que w' B v' (zs ++ ns) ∧ (∃ row, w.grownBy w' row ∧ ∀ g, row = some g → B ≤ g) := by
  have grow : ∀ (ao : Option Addr) (cap : Nat), zs.length ≤ cap → cap < zs.length + ns.length → (Builtin.firstCells 1 zs.length (.slice ao zs.length cap)).run P w.drew = .ok (zs.map encI).toArray w.drew →
      ∃ v' w', (Builtin.append_ #[t, t] ty #[.slice ao zs.length cap, x]).run P w = .ok v' w' ∧ Que w' B v' (zs ++ ns) ∧ (∃ row, w.grownBy w' row ∧ ∀ g, row = some g → B ≤ g) := by
    intro ao cap hle hg hold
    have h63' : ((zs.length + ns.length : Nat) : Int) ≤ 9223372036854775807 := by simp only [maxLen] at h63; omega
    have hr := run_append_grow_src (P := P) w t t ty e i (.int .i64 0) ht hi hz ao zs.length cap (zs.map encI) (by rw [hsize]; exact hold) x ns.length (ns.map encI) (by rw [hsize]; exact hs) hg h63' (growslice_fits (by omega) (by rw [hby]; exact hbytes))
    refine ⟨_, _, hr, ?_, ⟨none, ⟨rfl, rfl, rfl, by simp, fun k hk _ => Below.heap_alloc w.drew _ k hk⟩, fun g h => by cases h⟩⟩
    have hge := grownCap_ge w (zs.length + ns.length) cap e
    have hcm : grownCap w (zs.length + ns.length) cap e ≤ maxLen := grownCap_le_maxLen w _ cap e h63
    have hrow : (w.drew.alloc (.cells ((zs.map encI ++ ns.map encI).toArray ++ Builtin.zeroCells (Value.int .i64 0).cells (grownCap w (zs.length + ns.length) cap e - (zs.length + ns.length))) e)).heap[w.heap.size]? = some (.cells ((zs.map encI ++ ns.map encI).toArray ++ Builtin.zeroCells (Value.int .i64 0).cells (grownCap w (zs.length + ns.length) cap e - (zs.length + ns.length))) e (0, 0)) := heap_alloc_new w.drew _
    refine .inr ⟨w.heap.size, 0, _, by rw [List.length_append], hB, by simp, by rw [List.length_append]; exact hge, hcm, fun j z hz' => ?_, fun j hj => ?_⟩
    · rw [Nat.zero_add, k_cell hrow j]
      have hj : j < (zs ++ ns).length := (List.getElem?_eq_some_iff.1 hz').1
      have e1 : zs.map encI ++ ns.map encI = (zs ++ ns).map encI := by simp
      rw [e1, Array.getElem?_append_left (by simpa using hj), List.getElem?_toArray, List.getElem?_map, hz']
      rfl
    · rw [Nat.zero_add]
      refine ⟨?_, World.frozen?_alloc_new w.drew _ _ j⟩
      rw [k_cell hrow j]
      have : j < ((zs.map encI ++ ns.map encI).toArray ++ Builtin.zeroCells (Value.int .i64 0).cells (grownCap w (zs.length + ns.length) cap e - (zs.length + ns.length))).size := by
        simp only [Array.size_append, List.size_toArray, List.length_append, List.length_map, size_zeroCells]
        have h1 : (Value.int .i64 0).cells.size = 1 := rfl
        rw [h1]
        omega
      rw [Array.getElem?_eq_getElem this]
      rfl
  rcases hq with ⟨rfl, ao, rfl⟩ | ⟨g, off, cap, rfl, h1, h2, h3, h4, h5, h6⟩
  · by_cases h0 : ns.length = 0
    · have hn : ns = [] := List.eq_nil_of_length_eq_zero h0
      subst hn
      have hr := run_append_nothing_q P w t ty e i ht hi ao x (by rw [hsize]; exact hs)
      exact ⟨_, _, hr, .inl ⟨rfl, ao, rfl⟩, none, ⟨rfl, rfl, rfl, Nat.le_refl _, fun _ _ _ => rfl⟩, fun g h => by cases h⟩
    · refine grow ao 0 (Nat.le_refl _) (by simp; omega) ?_
      cases ao with
      | none => exact run_firstCells_none w.drew 1 0 0 0
      | some a => exact run_firstCells_some w.drew 1 0 a 0 0 [] (by simp) (by intro _ _ h'; simp at h')
  · by_cases hroom : zs.length + ns.length ≤ cap
    · have hr := run_append_room_src (P := P) w t t ty e i ht hi g off zs.length cap x ns.length (ns.map encI) (by rw [hsize]; exact hs) hroom (fun j hj => by rw [hsize, Nat.mul_one, Nat.add_assoc]; exact (h6 _ (by simp at hj; omega)).1) (fun j hj => by rw [hsize, Nat.mul_one, Nat.add_assoc]; exact (h6 _ (by simp at hj; omega)).2)
      rw [hsize, Nat.mul_one] at hr
      obtain ⟨p1, p2, p3, p4, p5⟩ := setCells_parts g (ns.map encI) (off + zs.length) w
      refine ⟨_, _, hr, .inr ⟨g, off, cap, by rw [List.length_append], h1, by rw [p4]; exact h2, by rw [List.length_append]; exact hroom, h4, fun j z hz' => ?_, fun j hj => ?_⟩, some g, ⟨p1, p2, p3, by rw [p4]; exact Nat.le_refl _, fun k _ hk => p5 k (fun e => hk (by rw [e]))⟩, fun g' hg' => by cases hg'; exact h1⟩
      · by_cases hj : j < zs.length
        · rw [List.getElem?_append_left hj] at hz'
          rw [World.cell?_setCells_out g _ _ _ _ (fun _ _ => Or.inl (by show off + j < off + zs.length; omega))]
          exact h5 j z hz'
        · rw [List.getElem?_append_right (by omega)] at hz'
          have hjn : j - zs.length < ns.length := (List.getElem?_eq_some_iff.1 hz').1
          have := World.cell?_setCells_in g (ns.map encI) (off + zs.length) w (fun q hq => by rw [Nat.add_assoc]; exact (h6 _ (by simp at hq; omega)).1) (j - zs.length) (by simpa using hjn)
          rw [show off + zs.length + (j - zs.length) = off + j by omega] at this
          rw [this]
          have hz2 : ns[j - zs.length] = z := by rw [List.getElem?_eq_getElem hjn] at hz'; exact Option.some.inj hz'
          simp [hz2]
      · refine ⟨?_, (World.frozen?_setCells g _ _ _ _).trans (h6 j hj).2⟩
        by_cases hin : zs.length ≤ j ∧ j < zs.length + ns.length
        · have := World.cell?_setCells_in g (ns.map encI) (off + zs.length) w (fun q hq => by rw [Nat.add_assoc]; exact (h6 _ (by simp at hq; omega)).1) (j - zs.length) (by simp; omega)
          rw [show off + zs.length + (j - zs.length) = off + j by omega] at this
          rw [this]; rfl
        · rw [World.cell?_setCells_out g _ _ _ _ (fun _ _ => by show off + j < off + zs.length ∨ off + zs.length + _ ≤ off + j; rw [List.length_map]; omega)]
          exact (h6 j hj).1
    · refine grow (some ⟨g, off, none⟩) cap h3 (by omega) ?_
      refine run_firstCells_some w.drew 1 zs.length ⟨g, off, none⟩ zs.length cap (zs.map encI) (by simp) (fun j u hu => ?_)
      rw [Addr.add_lit]
      rw [List.getElem?_map] at hu
      obtain ⟨z, hz', rfl⟩ := Option.map_eq_some_iff.1 hu
      exact h5 j z hz'
/-- The same at the operation. -/
theorem wpList_append_que {P : Program} (w : World) {ops : Array Oper} {rest : List Oper} {o : Oper} {a : Act} {Q : Exit → Act → World → Prop} (hgd : o.guard = none) (s x : Operand) (t : TypeId)
    (ho : o.op = .call { callee := .builtin .append, args := #[s, x], argTypes := #[t, t] }) (B : Nat) (e : TypeId) (i : TypeInfo) (ht : P.underlying t = some (.slice e)) (hi : P.info? e = some i) (hz : i.zero = some (.int .i64 0)) (hsize : i.size = 1) (hby : i.bytes = 8)
    (v : Value) (zs : List Int) (hv : a.eval s = v) (hq : Que w B v zs) (xv : Value) (hx : a.eval x = xv) (ns : List Int) (hs : Src P 1 t xv ns.length (ns.map encI) w) (h63 : zs.length + ns.length ≤ maxLen) (hbytes : (zs.length + ns.length) * 8 ≤ 140737488355328) (hB : B ≤ w.heap.size)
    (hK : ∀ v' w' row, Que w' B v' (zs ++ ns) → w.grownBy w' row → (∀ g, row = some g → B ≤ g) → wpList P ops Q rest (a.put o.dst v') w') : wpList P ops Q (o :: rest) a w := by
  refine wpList_plain hgd fun K hK' => ?_
  obtain ⟨v', w', hrun, h1, row, h2, h3⟩ := run_append_que P w B t o.type e i ht hi hz hsize hby v zs hq xv ns hs h63 hbytes hB
  unfold Oper.wp
  simp [execOp, ho, resolve, invoke, builtin, hv, hx, hrun, Result.andThen]
  exact hK' _ _ (hK v' w' row h1 h2 h3)
/-- A list of the walk's own, as what is appended. -/
theorem src_ints {P : Program} {w : World} {B : Nat} {t e' : TypeId} {v : Value} {zs : List Int} (ht : P.underlying t = some (.slice e')) (h : Ints w B v zs) : Src P 1 t v zs.length (zs.map encI) w := by
  rcases own_parts h with ⟨rfl, rfl⟩ | ⟨g, cap, rfl, h1, h2, h3, h4, h5, h6⟩
  · exact Src.ofNil w ht 0
  · refine Src.ofSlice w ht _ _ _ _ (by simp) (fun j u hj => ?_) (fun u hu => by obtain ⟨z, _, rfl⟩ := List.mem_map.1 hu; rfl)
    rw [add_pl]
    rw [List.getElem?_map] at hj
    obtain ⟨z, hz', rfl⟩ := Option.map_eq_some_iff.1 hj
    exact h5 j z hz'
end Go.Proofs.Ytmnaeoljpajomaa.H
