/- What a reckoner in memory is (its blocks, and that what it keeps is right); contract of within: the loop that begins at a place. Condition: the code can be reckoned. -/
import Derived.Test.YtmnaeoljpajomaaHBeF
namespace Go.Proofs.Ytmnaeoljpajomaa.H
set_option linter.unusedVariables false
set_option linter.unusedSimpArgs false
open Go.RowKit Go.Proofs.Ytmnaeoljpajomaa.Plain Go.Sort Go.Maps
set_option maxHeartbeats 3200000
set_option maxRecDepth 100000
attribute [local go_sem] ext_from ext_bits cell_isSome un_neg_float
/-- All blocks but those of a list are as they were. -/
structure Bar (S : List Nat) (w w' : World) : Prop where
  os : w'.os = w.os
  tape : w'.tape = w.tape
  output : w'.output = w.output
  size : w.heap.size ≤ w'.heap.size
  block : ∀ k, k < w.heap.size → k ∉ S → w'.heap[k]? = w.heap[k]?
theorem Bar.refl (S : List Nat) (w : World) : Bar S w w := ⟨rfl, rfl, rfl, Nat.le_refl _, fun _ _ _ => rfl⟩
theorem Bar.trans {S : List Nat} {a b c : World} (h : Bar S a b) (k : Bar S b c) : Bar S a c :=
  ⟨k.os.trans h.os, k.tape.trans h.tape, k.output.trans h.output, Nat.le_trans h.size k.size, fun i hi hn => (k.block i (Nat.lt_of_lt_of_le hi h.size) hn).trans (h.block i hi hn)⟩
theorem Bar.of_below {S : List Nat} {w w' : World} (h : Below w.heap.size w w') : Bar S w w' := ⟨h.os, h.tape, h.output, h.size, fun k hk _ => h.block k hk⟩
theorem Bar.alloc {S : List Nat} {a w : World} (h : Bar S a w) (o : Obj) : Bar S a (w.alloc o) := h.trans (Bar.of_below ((Below.refl _ _).alloc (Nat.le_refl _) o))
theorem Bar.drew {S : List Nat} {a w : World} (h : Bar S a w) : Bar S a w.drew := ⟨h.os, h.tape, h.output, h.size, h.block⟩
theorem Bar.setCell {S : List Nat} {a w : World} (h : Bar S a w) {b o : Nat} (hb : a.heap.size ≤ b) (v : Value) : Bar S a (w.setCell ⟨b, o, none⟩ v) := by
  refine ⟨h.os, h.tape, h.output, by simpa [World.setCell] using h.size, fun k hk hn => ?_⟩
  rw [Below.heap_setCell _ _ _ _ (show k ≠ b by omega)]
  exact h.block k hk hn
theorem Bar.go {S : List Nat} {a w w' : World} (h : Bar S a w) (k : Below w.heap.size w w') : Bar S a w' := h.trans (Bar.of_below k)
theorem Bar.grown {S : List Nat} {a w w' : World} {g : Nat} (h : Bar S a w) (hg : w.grownBy w' (some g)) (hS : g ∈ S ∨ a.heap.size ≤ g) : Bar S a w' :=
  ⟨hg.os.trans h.os, hg.tape.trans h.tape, hg.output.trans h.output, Nat.le_trans h.size hg.size, fun k hk hn => (hg.block k (Nat.lt_of_lt_of_le hk h.size) (fun e => by
    cases e
    rcases hS with c | c
    · exact hn c
    · omega)).trans (h.block k hk hn)⟩
theorem Bar.below {S : List Nat} {a w : World} (h : Bar S a w) {B : Nat} (hB : B ≤ a.heap.size) (hS : ∀ s ∈ S, B ≤ s) : Below B a w :=
  ⟨h.os, h.tape, h.output, h.size, fun k hk => h.block k (by omega) (fun e => by have := hS k e; omega)⟩
theorem Bar.keep {S : List Nat} {a w : World} (h : Bar S a w) {g : Nat} {o : Obj} (hg : a.heap[g]? = some o) (hn : g ∉ S) : w.heap[g]? = some o := (h.block g (k_lt hg) hn).trans hg
theorem Bar.mono {S T : List Nat} {a w : World} (h : Bar S a w) (hST : ∀ s, s < a.heap.size → s ∈ S → s ∈ T) : Bar T a w := ⟨h.os, h.tape, h.output, h.size, fun k hk hn => h.block k hk (fun e => hn (hST k hk e))⟩
/-- Can a code be reckoned? -/
structure CanF (f : FlatD) : Prop where
  pos : 0 < f.ops.length
  loop : ∀ m, m < f.loops.length → 0 ≤ (loopAt f m).head ∧ (loopAt f m).head < (loopAt f m).stop ∧ (loopAt f m).stop ≤ f.ops.length ∧ 0 ≤ (loopAt f m).times ∧ (loopAt f m).times ≤ 65536
  nest : ∀ i j, j < i → i < f.loops.length → (loopAt f i).stop ≤ (loopAt f j).head ∨ (loopAt f j).stop ≤ (loopAt f i).head ∨ ((loopAt f j).head ≤ (loopAt f i).head ∧ (loopAt f i).stop ≤ (loopAt f j).stop) ∨ ((loopAt f i).head ≤ (loopAt f j).head ∧ (loopAt f j).stop ≤ (loopAt f i).stop)
  next : ∀ p, p < f.ops.length → ∀ q ∈ nextsV f p, 0 ≤ q ∧ q < f.ops.length ∧ (q ≤ p → ∃ m, m < f.loops.length ∧ (loopAt f m).head = q ∧ hasB (loopAt f m) p = true)
/-- Sizes within reach. -/
def Modest (f : FlatD) : Prop := f.ops.length ≤ 1048576 ∧ f.loops.length ≤ 1048576
/-- Where the codes lie, and the map of their bounds. -/
structure Cx where
  fs : List FlatD
  ao : Option Addr
  an : Nat
  ac : Nat
  w0 : World
  M : Nat
def EM (fs : List FlatD) (key : Value) (c : Int) : Prop := ∃ k j : Nat, key = .int .i64 j ∧ ofV fs k j = some c
structure OutJ (cx : Cx) (w : World) : Prop where
  bel : Below cx.w0.heap.size cx.w0 w
  hM : cx.w0.heap.size ≤ cx.M
  codes : Codes cx.w0 cx.ao cx.an cx.fs
  memo : Memo Try.prog 3 w cx.M (EM cx.fs)
theorem OutJ.go {cx : Cx} {w w' : World} {B : Nat} (h : OutJ cx w) (hb : Below B w w') (hB : cx.M < B) : OutJ cx w' :=
  ⟨h.bel.trans (hb.mono (Nat.le_trans h.hM (Nat.le_of_lt hB))), h.hM, h.codes, h.memo.keep (hb.block _ hB)⟩
theorem OutJ.bar {cx : Cx} {w w' : World} {S : List Nat} (h : OutJ cx w) (hb : Bar S w w') (hS : ∀ s ∈ S, cx.M < s) : OutJ cx w' :=
  h.go (hb.below (B := cx.M + 1) h.memo.lt (fun s hs => hS s hs)) (Nat.lt_succ_self _)
theorem OutJ.flat {cx : Cx} {w : World} (h : OutJ cx w) {j : Nat} {f : FlatD} (hf : cx.fs[j]? = some f) : FlatOk w f := (h.codes.2.2 f (List.mem_of_getElem? hf)).go h.bel
/-- What a reckoner keeps. -/
def EP (f : FlatD) (cost : OpD → Option Int) (key : Value) (c : Int) : Prop := ∃ (k p : Nat) (l : Option Nat), key = pairV p (encL l) ∧ val f cost k p l = some c
def EO (f : FlatD) (cost : OpD → Option Int) (key : Value) (c : Int) : Prop := ∃ (k m : Nat), key = .int .i64 m ∧ val f cost k (loopAt f m).head.toNat (some m) = some c
def EI (f : FlatD) (key : Value) (c : Int) : Prop := ∃ (p : Nat) (l : Option Nat), key = pairV p (encL l) ∧ c = encL (withinV f p l)
theorem encL_inj {l l' : Option Nat} (h : encL l = encL l') : l = l' := by
  cases l <;> cases l' <;> simp [encL] at h ⊢ <;> omega
theorem pairV_inj {x y x' y' : Int} (h : pairV x y = pairV x' y') : x = x' ∧ y = y' := by
  injection h with h
  simp at h
  exact h
theorem EP_at {f : FlatD} {cost : OpD → Option Int} {k p : Nat} {l : Option Nat} {c c' : Int} (h : EP f cost (pairV p (encL l)) c) (hv : val f cost k p l = some c') : c = c' := by
  obtain ⟨k1, p1, l1, e, h1⟩ := h
  obtain ⟨e1, e2⟩ := pairV_inj e
  obtain rfl : p = p1 := by omega
  obtain rfl := encL_inj e2
  exact val_one h1 hv
theorem EO_at {f : FlatD} {cost : OpD → Option Int} {k m : Nat} {c c' : Int} (h : EO f cost (.int .i64 m) c) (hv : val f cost k (loopAt f m).head.toNat (some m) = some c') : c = c' := by
  obtain ⟨k1, m1, e, h1⟩ := h
  injection e with _ e
  obtain rfl : m = m1 := by omega
  exact val_one h1 hv
theorem EI_at {f : FlatD} {p : Nat} {l : Option Nat} {c : Int} (h : EI f (pairV p (encL l)) c) : c = encL (withinV f p l) := by
  obtain ⟨p1, l1, e, h1⟩ := h
  obtain ⟨e1, e2⟩ := pairV_inj e
  obtain rfl : p = p1 := by omega
  obtain rfl := encL_inj e2
  exact h1
theorem EM_at {fs : List FlatD} {k j : Nat} {c c' : Int} (h : EM fs (.int .i64 j) c) (hv : ofV fs k j = some c') : c = c' := by
  obtain ⟨k1, j1, e, h1⟩ := h
  injection e with _ e
  obtain rfl : j = j1 := by omega
  exact ofV_one h1 hv
abbrev recA (cx : Cx) (f : FlatD) (n : Nat) : Array Value := #[.string f.name, .int .i64 f.what, .int .i64 f.cells, .int .i64 f.base, .int .i64 f.regs, .int .i64 f.slots, .slice f.ao f.on f.oc, .slice f.lo f.ln f.lc, .func (.func 43) #[] #[.pointer (some ⟨n, 0, none⟩), .pointer (some ⟨n + 1, 0, none⟩)], .map (some (n + 2)), .map (some (n + 3)), .map (some (n + 4))]
/-- A reckoner, its blocks from n on: the codes' cell, the map's cell, three maps, and itself. -/
structure RJ (cx : Cx) (f : FlatD) (cost : OpD → Option Int) (n : Nat) (w : World) : Prop where
  out : OutJ cx w
  hM : cx.M < n
  flat : FlatOk w f
  low : ∀ g : Nat, (∃ a, f.lo = some a ∧ f.ln ≠ 0 ∧ a.block = g) ∨ (∃ a, f.ao = some a ∧ f.on ≠ 0 ∧ a.block = g) → g < cx.w0.heap.size
  cod : w.heap[n]? = some (.cells #[.slice cx.ao cx.an cx.ac] 22 (0, 0))
  kno : w.heap[n + 1]? = some (.cells #[.map (some cx.M)] 61 (0, 0))
  mP : Memo Try.prog 91 w (n + 2) (EP f cost)
  mO : Memo Try.prog 3 w (n + 3) (EO f cost)
  mI : Memo Try.prog 91 w (n + 4) (EI f)
  blk : w.heap[n + 5]? = some (.cells (recA cx f n) 81 (0, 0))
abbrev rS (cx : Cx) (n : Nat) : List Nat := [cx.M, n + 2, n + 3, n + 4]
theorem sl_below {w w' : World} {ao : Option Addr} {n k B : Nat} {us : List Value} (h : Sl w ao n k us) (hl : ∀ a, ao = some a → n ≠ 0 → a.block < B) (hb : Below B w w') : Sl w' ao n k us := by
  obtain ⟨h1, h2, h3⟩ := h
  refine ⟨h1, h2, fun a ha => ?_⟩
  obtain ⟨h4, h5⟩ := h3 a ha
  refine ⟨fun m u hu => ?_, fun h => Nat.lt_of_lt_of_le (h5 h) hb.size⟩
  have hn : n ≠ 0 := by
    rintro rfl
    rw [Nat.zero_mul] at h1
    rw [List.eq_nil_of_length_eq_zero h1] at hu
    simp at hu
  exact (hb.cell (p := a.add m) (by rw [add_blk]; exact hl a ha hn)).trans (h4 m u hu)
theorem RJ.go {cx : Cx} {f : FlatD} {cost : OpD → Option Int} {n : Nat} {w w' : World} (h : RJ cx f cost n w) (hb : Below (n + 6) w w') : RJ cx f cost n w' := by
  have hM := h.hM
  have hw := h.out.hM
  refine ⟨h.out.go hb (by omega), hM, ⟨⟨h.flat.1.1, sl_below h.flat.1.2 (fun a ha hn => by have := h.low a.block (.inr ⟨a, ha, hn, rfl⟩); omega) hb⟩, ⟨h.flat.2.1, sl_below h.flat.2.2 (fun a ha hn => by have := h.low a.block (.inl ⟨a, ha, hn, rfl⟩); omega) hb⟩⟩, h.low, ?_, ?_, ?_, ?_, ?_, ?_⟩
  · exact (hb.block _ (by omega)).trans h.cod
  · exact (hb.block _ (by omega)).trans h.kno
  · exact h.mP.keep (hb.block _ (by omega))
  · exact h.mO.keep (hb.block _ (by omega))
  · exact h.mI.keep (hb.block _ (by omega))
  · exact (hb.block _ (by omega)).trans h.blk
theorem RJ.lt {cx : Cx} {f : FlatD} {cost : OpD → Option Int} {n : Nat} {w : World} (h : RJ cx f cost n w) : n + 6 ≤ w.heap.size := k_lt h.blk
theorem RJ.drew {cx : Cx} {f : FlatD} {cost : OpD → Option Int} {n : Nat} {w : World} (h : RJ cx f cost n w) : RJ cx f cost n w.drew := h.go ⟨rfl, rfl, rfl, Nat.le_refl _, fun _ _ => rfl⟩
theorem RJ.drewN {cx : Cx} {f : FlatD} {cost : OpD → Option Int} {n : Nat} {w : World} (h : RJ cx f cost n w) (q : Nat) : RJ cx f cost n (w.drewN q) := h.go ⟨rfl, rfl, rfl, Nat.le_refl _, fun _ _ => rfl⟩
theorem RJ.alloc {cx : Cx} {f : FlatD} {cost : OpD → Option Int} {n : Nat} {w : World} (h : RJ cx f cost n w) (o : Obj) : RJ cx f cost n (w.alloc o) := h.go (((Below.refl _ w).alloc (Nat.le_refl _) o).mono h.lt)
theorem RJ.set {cx : Cx} {f : FlatD} {cost : OpD → Option Int} {n : Nat} {w : World} (h : RJ cx f cost n w) {b i : Nat} (hb : n + 6 ≤ b) (v : Value) : RJ cx f cost n (w.setCell ⟨b, i, none⟩ v) := h.go ((Below.refl _ w).setCell hb v)
theorem RJ.of_bel {cx : Cx} {f : FlatD} {cost : OpD → Option Int} {n : Nat} {w w' : World} (h : RJ cx f cost n w) (hb : Below w.heap.size w w') : RJ cx f cost n w' := h.go (hb.mono h.lt)
/-- A map's entry more: all else of the reckoner stays. -/
theorem RJ.put {cx : Cx} {f : FlatD} {cost : OpD → Option Int} {n : Nat} {w w' : World} (h : RJ cx f cost n w) {g : Nat} (hg : w.grownBy w' (some g)) (hn : n + 2 ≤ g ∧ g ≤ n + 4) (hP : g = n + 2 → Memo Try.prog 91 w' (n + 2) (EP f cost)) (hO : g = n + 3 → Memo Try.prog 3 w' (n + 3) (EO f cost)) (hI : g = n + 4 → Memo Try.prog 91 w' (n + 4) (EI f)) : RJ cx f cost n w' := by
  have hM := h.hM
  have hw := h.out.hM
  have hl := h.lt
  have hblk : ∀ k, k < n + 6 → k ≠ g → w'.heap[k]? = w.heap[k]? := fun k hk hne => hg.block k (by omega) (fun e => hne (Option.some.inj e))
  have hb : Below (n + 2) w w' := ⟨hg.os, hg.tape, hg.output, hg.size, fun k hk => hblk k (by omega) (by omega)⟩
  refine ⟨h.out.go hb (by omega), hM, ⟨⟨h.flat.1.1, sl_below h.flat.1.2 (fun a ha hn => by have := h.low a.block (.inr ⟨a, ha, hn, rfl⟩); omega) hb⟩, ⟨h.flat.2.1, sl_below h.flat.2.2 (fun a ha hn => by have := h.low a.block (.inl ⟨a, ha, hn, rfl⟩); omega) hb⟩⟩, h.low, ?_, ?_, ?_, ?_, ?_, ?_⟩
  · exact (hb.block _ (by omega)).trans h.cod
  · exact (hb.block _ (by omega)).trans h.kno
  · by_cases e : g = n + 2
    · exact hP e
    · exact h.mP.keep (hblk _ (by omega) (by omega))
  · by_cases e : g = n + 3
    · exact hO e
    · exact h.mO.keep (hblk _ (by omega) (by omega))
  · by_cases e : g = n + 4
    · exact hI e
    · exact h.mI.keep (hblk _ (by omega) (by omega))
  · exact (hblk _ (by omega) (by omega)).trans h.blk
/-- A call that keeps what lies below, and the map of bounds. -/
theorem RJ.out_go {cx : Cx} {f : FlatD} {cost : OpD → Option Int} {n : Nat} {w w' : World} (h : RJ cx f cost n w) (hJ : OutJ cx w') (hb : Bar [cx.M] w w') : RJ cx f cost n w' := by
  have hM := h.hM
  have hw := h.out.hM
  have hl := h.lt
  have hblk : ∀ k, k < n + 6 → k ≠ cx.M → w'.heap[k]? = w.heap[k]? := fun k hk hne => hb.block k (by omega) (by simpa using hne)
  have hb2 : Below cx.w0.heap.size w w' := ⟨hb.os, hb.tape, hb.output, hb.size, fun k hk => hblk k (by omega) (by omega)⟩
  refine ⟨hJ, hM, ⟨⟨h.flat.1.1, sl_below h.flat.1.2 (fun a ha hn => by have := h.low a.block (.inr ⟨a, ha, hn, rfl⟩); omega) hb2⟩, ⟨h.flat.2.1, sl_below h.flat.2.2 (fun a ha hn => by have := h.low a.block (.inl ⟨a, ha, hn, rfl⟩); omega) hb2⟩⟩, h.low, ?_, ?_, ?_, ?_, ?_, ?_⟩
  · exact (hblk _ (by omega) (by omega)).trans h.cod
  · exact (hblk _ (by omega) (by omega)).trans h.kno
  · exact h.mP.keep (hblk _ (by omega) (by omega))
  · exact h.mO.keep (hblk _ (by omega) (by omega))
  · exact h.mI.keep (hblk _ (by omega) (by omega))
  · exact (hblk _ (by omega) (by omega)).trans h.blk
end Go.Proofs.Ytmnaeoljpajomaa.H
