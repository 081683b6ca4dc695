/- Codes as lists of their instructions and loops, and how they lie in memory. No condition. -/
import Derived.Test.YtmnaeoljpajomaaHLeaf
import Derived.WalkSmall
import Derived.Handy
import Derived.OwnWalk
import Derived.OneCell
import Derived.Laws.OwnMore
import Derived.Laws.AppendOwnNone
import Derived.Lib.SliceRun
import Derived.Lib.SmallJoins
namespace Go.Proofs.Ytmnaeoljpajomaa.H
set_option linter.unusedVariables false
set_option linter.unusedSimpArgs false
open Go.RowKit Go.Proofs.Ytmnaeoljpajomaa.Plain
set_option maxHeartbeats 3200000
set_option maxRecDepth 100000
attribute [local go_sem] ext_from ext_bits cell_isSome un_neg_float
/-- An instruction. -/
structure OpD where
  code : Int
  a : Int
  b : Int
  c : Int
  d : Int
  lo : Int
  hi : Int
  vk : Int
  vb : Int
  vt : ByteArray
def OpD.row (o : OpD) : List Value := [.int .i64 o.code, .int .i64 o.a, .int .i64 o.b, .int .i64 o.c, .int .i64 o.d, .int .i64 o.lo, .int .i64 o.hi, .int .u8 o.vk, .int .u64 o.vb, .string o.vt]
theorem OpD.len (o : OpD) : o.row.length = 10 := rfl
theorem OpD.one (o : OpD) : ∀ u ∈ o.row, u.oneCell' = true := by
  intro u hu
  simp [OpD.row] at hu
  rcases hu with rfl | rfl | rfl | rfl | rfl | rfl | rfl | rfl | rfl | rfl <;> rfl
/-- A loop. -/
structure LoopD where
  head : Int
  stop : Int
  times : Int
def LoopD.row (o : LoopD) : List Value := [.int .i64 o.head, .int .i64 o.stop, .int .i64 o.times]
theorem LoopD.len (o : LoopD) : o.row.length = 3 := rfl
theorem LoopD.one (o : LoopD) : ∀ u ∈ o.row, u.oneCell' = true := by
  intro u hu
  simp [LoopD.row] at hu
  rcases hu with rfl | rfl | rfl <;> rfl
theorem fm_len {α : Type} {row : α → List Value} {k : Nat} (hr : ∀ d, (row d).length = k) (l : List α) : (l.flatMap row).length = l.length * k := by
  induction l with
  | nil => simp
  | cons v l ih => rw [List.flatMap_cons, List.length_append, ih, hr, List.length_cons, Nat.succ_mul, Nat.add_comm]
theorem fm_get {α : Type} {row : α → List Value} {k : Nat} (hr : ∀ d, (row d).length = k) (l : List α) (i : Nat) (v : α) (h : l[i]? = some v) (j : Nat) (hj : j < k) : (l.flatMap row)[i * k + j]? = (row v)[j]? := by
  induction l generalizing i with
  | nil => simp at h
  | cons x l ih =>
    rw [List.flatMap_cons]
    cases i with
    | zero =>
      have h2 : x = v := by simpa using h
      subst h2
      rw [List.getElem?_append_left (by rw [hr]; omega)]
      simp
    | succ i =>
      rw [List.getElem?_append_right (by rw [hr, Nat.succ_mul]; omega), hr]
      have := ih i (by simpa using h)
      rw [show (i + 1) * k + j - k = i * k + j by rw [Nat.succ_mul]; omega]
      exact this
theorem fm_one {α : Type} {row : α → List Value} (h1 : ∀ d, ∀ u ∈ row d, u.oneCell' = true) (l : List α) : ∀ u ∈ l.flatMap row, u.oneCell' = true := by
  intro u hu
  obtain ⟨v, _, hv⟩ := List.mem_flatMap.1 hu
  exact h1 v u hv
theorem add_blk (a : Addr) (n : Nat) : (a.add n).block = a.block := by
  unfold Addr.add
  split <;> first | rfl | (rename_i h; subst h; rfl) | simp_all
theorem add_pl (g j : Nat) : (⟨g, 0, none⟩ : Addr).add j = ⟨g, j, none⟩ := by
  unfold Addr.add
  split
  · rename_i h; subst h; rfl
  · simp
/-- A slice's cells, n of k cells each. -/
def Sl (w : World) (ao : Option Addr) (n k : Nat) (us : List Value) : Prop := us.length = n * k ∧ (ao = none → n = 0) ∧ ∀ a, ao = some a → (∀ m u, us[m]? = some u → w.cell? (a.add m) = some u) ∧ (n ≠ 0 → a.block < w.heap.size)
theorem Sl.go {w w' : World} {ao : Option Addr} {n k : Nat} {us : List Value} (h : Sl w ao n k us) (hb : Below w.heap.size w w') : Sl w' ao n k us := by
  obtain ⟨h1, h2, h3⟩ := h
  refine ⟨h1, h2, fun a ha => ?_⟩
  obtain ⟨h4, h5⟩ := h3 a ha
  refine ⟨fun m u hu => ?_, fun h => Nat.lt_of_lt_of_le (h5 h) hb.size⟩
  have hn : n ≠ 0 := by
    rintro rfl
    rw [Nat.zero_mul] at h1
    rw [List.eq_nil_of_length_eq_zero h1] at hu
    simp at hu
  exact (hb.cell (p := a.add m) (by rw [add_blk]; exact h5 hn)).trans (h4 m u hu)
theorem sl_own {w : World} {B n k : Nat} {T : TypeId} {v : Value} {us : List Value} (h : w.ownsRow B T k v n us) (hl : us.length = n * k) : ∃ ao c, v = .slice ao n c ∧ Sl w ao n k us := by
  obtain ⟨h1, h2 | ⟨g, cap, cur, rfl, e2, e3, e4⟩⟩ := h
  · obtain ⟨rfl, rfl⟩ := h2
    exact ⟨none, 0, rfl, hl, fun _ => rfl, fun a ha => by cases ha⟩
  · refine ⟨some ⟨g, 0, none⟩, cap, rfl, hl, (fun h => by cases h), fun a ha => ?_⟩
    obtain rfl : (⟨g, 0, none⟩ : Addr) = a := Option.some.inj ha
    refine ⟨fun m u hu => ?_, fun _ => k_lt e3⟩
    have hown : w.ownsRow B T k (.slice (some ⟨g, 0, none⟩) n cap) n us := ⟨h1, .inr ⟨g, cap, cur, rfl, e2, e3, e4⟩⟩
    exact hown.cells (g := g) rfl m u hu
theorem Sl.set {w : World} {ao : Option Addr} {n k b i : Nat} {us : List Value} {v : Value} (h : Sl w ao n k us) (hne : ∀ a, ao = some a → a.block ≠ b) : Sl (w.setCell ⟨b, i, none⟩ v) ao n k us := by
  obtain ⟨h1, h2, h3⟩ := h
  refine ⟨h1, h2, fun a ha => ?_⟩
  obtain ⟨h4, h5⟩ := h3 a ha
  refine ⟨fun m u hu => ?_, fun h => by have := h5 h; simpa [World.setCell] using this⟩
  rw [World.cell?_setCell_other _ _ _ _ (fun e => hne a ha (by rw [← add_blk a m, ← e]))]
  exact h4 m u hu
theorem sl_fresh {w : World} {B n k : Nat} {T : TypeId} {us : List Value} {ao : Option Addr} {c : Nat} (h : w.ownsRow B T k (.slice ao n c) n us) : ∀ a, ao = some a → B ≤ a.block := by
  intro a ha
  rcases h.2 with ⟨e, _⟩ | ⟨g, cap, cur, e1, e2, _⟩
  · cases e; cases ha
  · cases e1; cases ha; exact e2
theorem own_below {B : Nat} {e : TypeId} {k : Nat} {v : Value} {n : Nat} {xs : List Value} {w w' : World} (h : w.ownsRow B e k v n xs) (hb : Below w.heap.size w w') : w'.ownsRow B e k v n xs := by
  obtain ⟨h1, h2⟩ := h
  refine ⟨h1, ?_⟩
  rcases h2 with h2 | ⟨g, cap, cur, e1, e2, e3, e4⟩
  · exact .inl h2
  · exact .inr ⟨g, cap, cur, e1, e2, k_go e3 hb, e4⟩
theorem own_low {B B' : Nat} {e : TypeId} {k : Nat} {v : Value} {n : Nat} {xs : List Value} {w : World} (h : w.ownsRow B e k v n xs) (hB : B' ≤ B) : w.ownsRow B' e k v n xs := by
  obtain ⟨h1, h2⟩ := h
  refine ⟨h1, ?_⟩
  rcases h2 with h2 | ⟨g, cap, cur, e1, e2, e3⟩
  · exact .inl h2
  · exact .inr ⟨g, cap, cur, e1, Nat.le_trans hB e2, e3⟩
theorem own_set {B b i : Nat} {e : TypeId} {k : Nat} {v u : Value} {n : Nat} {xs : List Value} {w : World} (h : w.ownsRow B e k v n xs) (hb : b < B) : (w.setCell ⟨b, i, none⟩ u).ownsRow B e k v n xs := by
  obtain ⟨h1, h2⟩ := h
  refine ⟨h1, ?_⟩
  rcases h2 with h2 | ⟨g, cap, cur, e1, e2, e3, e4⟩
  · exact .inl h2
  · exact .inr ⟨g, cap, cur, e1, e2, by rw [Below.heap_setCell _ _ _ _ (show g ≠ b by omega)]; exact e3, e4⟩
/-- A row stays as it is where another one, of another type, grows. -/
theorem own_grown {B B2 : Nat} {e T : TypeId} {k k2 : Nat} {v u : Value} {n n2 : Nat} {xs ys : List Value} {w w1 : World} (h : w.ownsRow B e k v n xs) (hu : w.ownsRow B2 T k2 u n2 ys) (hT : e ≠ T) (hg : w.grownBy w1 u.ownBlock) : w1.ownsRow B e k v n xs := by
  obtain ⟨h1, h2⟩ := h
  refine ⟨h1, ?_⟩
  rcases h2 with h2 | ⟨g, cap, cur, e1, e2, e3, e4⟩
  · exact .inl h2
  · refine .inr ⟨g, cap, cur, e1, e2, (hg.block g (k_lt e3) (fun c => ?_)).trans e3, e4⟩
    rcases hu.2 with ⟨rfl, _⟩ | ⟨g2, cap2, cur2, rfl, _, f3, _⟩
    · cases c
    · have : g = g2 := Option.some.inj c
      subst this
      rw [f3] at e3
      cases e3
      exact hT rfl
theorem own_shape {w : World} {B n size : Nat} {T : TypeId} {v : Value} {xs : List Value} (h : w.ownsRow B T size v n xs) : ∃ a c, v = .slice a n c := by
  rcases h.2 with ⟨rfl, rfl⟩ | ⟨g, cap, cur, rfl, _⟩
  · exact ⟨none, 0, rfl⟩
  · exact ⟨_, cap, rfl⟩
theorem k_cv {w : World} {b : Nat} {cs : Array Value} {t : TypeId} {v : Value} (h : w.heap[b]? = some (.cells cs t (0, 0))) (i : Nat) (hv : cs[i]? = some v) : w.cell? ⟨b, i, none⟩ = some v := (k_cell h i).trans hv
theorem k_fr {w : World} {b : Nat} {cs : Array Value} {t : TypeId} (h : w.heap[b]? = some (.cells cs t (0, 0))) (i : Nat) : w.frozen? ⟨b, i, none⟩ = false := by simp [World.frozen?, h]
theorem k_dr {w : World} {g : Nat} {o : Obj} (h : w.heap[g]? = some o) : w.drew.heap[g]? = some o := h
/-- Instructions in a slice; loops in a slice. -/
def Ops (w : World) (ao : Option Addr) (n : Nat) (l : List OpD) : Prop := l.length = n ∧ Sl w ao n 10 (l.flatMap OpD.row)
def Loops (w : World) (ao : Option Addr) (n : Nat) (l : List LoopD) : Prop := l.length = n ∧ Sl w ao n 3 (l.flatMap LoopD.row)
theorem Ops.go {w w' : World} {ao : Option Addr} {n : Nat} {l : List OpD} (h : Ops w ao n l) (hb : Below w.heap.size w w') : Ops w' ao n l := ⟨h.1, h.2.go hb⟩
theorem Loops.go {w w' : World} {ao : Option Addr} {n : Nat} {l : List LoopD} (h : Loops w ao n l) (hb : Below w.heap.size w w') : Loops w' ao n l := ⟨h.1, h.2.go hb⟩
/-- A code: its plain fields, and where its instructions and loops lie. -/
structure FlatD where
  name : ByteArray
  what : Int
  cells : Int
  base : Int
  regs : Int
  slots : Int
  ao : Option Addr
  on : Nat
  oc : Nat
  lo : Option Addr
  ln : Nat
  lc : Nat
  ops : List OpD
  loops : List LoopD
def FlatD.row (f : FlatD) : List Value := [.string f.name, .int .i64 f.what, .int .i64 f.cells, .int .i64 f.base, .int .i64 f.regs, .int .i64 f.slots, .slice f.ao f.on f.oc, .slice f.lo f.ln f.lc]
theorem FlatD.len (o : FlatD) : o.row.length = 8 := rfl
theorem FlatD.one (o : FlatD) : ∀ u ∈ o.row, u.oneCell' = true := by
  intro u hu
  simp [FlatD.row] at hu
  rcases hu with rfl | rfl | rfl | rfl | rfl | rfl | rfl | rfl <;> rfl
/-- Its instructions and loops lie there. -/
def FlatOk (w : World) (f : FlatD) : Prop := Ops w f.ao f.on f.ops ∧ Loops w f.lo f.ln f.loops
theorem FlatOk.go {w w' : World} {f : FlatD} (h : FlatOk w f) (hb : Below w.heap.size w w') : FlatOk w' f := ⟨h.1.go hb, h.2.go hb⟩
/-- Its instructions and loops are rows of the walk's own. -/
def FlatOwn (w : World) (f : FlatD) : Prop := (f.ops.length = f.on ∧ w.ownsRow 0 47 10 (.slice f.ao f.on f.oc) f.on (f.ops.flatMap OpD.row)) ∧ (f.loops.length = f.ln ∧ w.ownsRow 0 40 3 (.slice f.lo f.ln f.lc) f.ln (f.loops.flatMap LoopD.row))
theorem FlatOwn.ok {w : World} {f : FlatD} (h : FlatOwn w f) : FlatOk w f := by
  obtain ⟨⟨l1, o1⟩, ⟨l2, o2⟩⟩ := h
  obtain ⟨a1, c1, e1, s1⟩ := sl_own o1 (by rw [fm_len OpD.len, l1])
  obtain ⟨a2, c2, e2, s2⟩ := sl_own o2 (by rw [fm_len LoopD.len, l2])
  cases e1
  cases e2
  exact ⟨⟨l1, s1⟩, ⟨l2, s2⟩⟩
theorem FlatOwn.go {w w' : World} {f : FlatD} (h : FlatOwn w f) (hb : Below w.heap.size w w') : FlatOwn w' f := ⟨⟨h.1.1, own_below h.1.2 hb⟩, ⟨h.2.1, own_below h.2.2 hb⟩⟩
theorem FlatOwn.grown {w w1 : World} {f : FlatD} {B n k : Nat} {u : Value} {us : List Value} {T : TypeId} (h : FlatOwn w f) (hu : w.ownsRow B T k u n us) (h1 : 47 ≠ T) (h2 : 40 ≠ T) (hg : w.grownBy w1 u.ownBlock) : FlatOwn w1 f :=
  ⟨⟨h.1.1, own_grown h.1.2 hu h1 hg⟩, ⟨h.2.1, own_grown h.2.2 hu h2 hg⟩⟩
/-- Codes in a slice. -/
def Codes (w : World) (ao : Option Addr) (n : Nat) (l : List FlatD) : Prop := l.length = n ∧ Sl w ao n 8 (l.flatMap FlatD.row) ∧ ∀ f ∈ l, FlatOk w f
theorem Codes.go {w w' : World} {ao : Option Addr} {n : Nat} {l : List FlatD} (h : Codes w ao n l) (hb : Below w.heap.size w w') : Codes w' ao n l := ⟨h.1, h.2.1.go hb, fun f hf => (h.2.2 f hf).go hb⟩
/-- What two codes have alike: all but where it lies. -/
def FlatD.same (f g : FlatD) : Prop := f.name = g.name ∧ f.what = g.what ∧ f.cells = g.cells ∧ f.base = g.base ∧ f.regs = g.regs ∧ f.slots = g.slots ∧ f.on = g.on ∧ f.ln = g.ln ∧ f.ops = g.ops ∧ f.loops = g.loops
theorem add_at (a : Addr) (m j : Nat) (hj : 1 ≤ j) : a.add (m + j) = ⟨(a.add m).block, (a.add m).off + j, none⟩ := by
  unfold Addr.add
  rw [if_neg (by omega)]
  by_cases h : m = 0
  · subst h; simp
  · rw [if_neg h]; simp [Nat.add_assoc]
/-- One element's cells. -/
theorem Sl.at {α : Type} {row : α → List Value} {k : Nat} (hr : ∀ d, (row d).length = k) {w : World} {a : Addr} {n : Nat} {l : List α} (h : Sl w (some a) n k (l.flatMap row)) {i : Nat} {d : α} (hd : l[i]? = some d) {j : Nat} {u : Value} (hu : (row d)[j]? = some u) : w.cell? (a.add (i * k + j)) = some u := by
  have hj : j < k := by
    rcases Nat.lt_or_ge j k with c | c
    · exact c
    · rw [List.getElem?_eq_none (by rw [hr]; exact c)] at hu; cases hu
  exact (h.2.2 a rfl).1 _ _ ((fm_get hr l i d hd j hj).trans hu)
/-- The same, as a walk names the places. -/
theorem Sl.at0 {α : Type} {row : α → List Value} {k : Nat} (hr : ∀ d, (row d).length = k) {w : World} {a : Addr} {n : Nat} {l : List α} (h : Sl w (some a) n k (l.flatMap row)) {i : Nat} {d : α} (hd : l[i]? = some d) {u : Value} (hu : (row d)[0]? = some u) : w.cell? (a.add (i * k)) = some u := h.at hr hd hu
theorem Sl.atS {α : Type} {row : α → List Value} {k : Nat} (hr : ∀ d, (row d).length = k) {w : World} {a : Addr} {n : Nat} {l : List α} (h : Sl w (some a) n k (l.flatMap row)) {i : Nat} {d : α} (hd : l[i]? = some d) {j : Nat} {u : Value} (hj : 1 ≤ j) (hu : (row d)[j]? = some u) : w.cell? ⟨(a.add (i * k)).block, (a.add (i * k)).off + j, none⟩ = some u := by
  rw [← add_at a (i * k) j hj]
  exact h.at hr hd hu
end Go.Proofs.Ytmnaeoljpajomaa.H
