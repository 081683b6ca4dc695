/- Maps that keep what was reckoned: each entry is right; laws for asking and for keeping. No condition. -/
import Derived.Test.YtmnaeoljpajomaaHBeE
import Derived.Maps.Own
import Derived.Maps.OwnOps
import Derived.WideKeyArr
import Derived.DeepKeys5
namespace Go.Proofs.Ytmnaeoljpajomaa.H
set_option linter.unusedVariables false
set_option linter.unusedSimpArgs false
open Go.RowKit Go.Proofs.Ytmnaeoljpajomaa.Plain Go.Sort Go.Maps Go.ChangeMaps Go.MapKept
set_option maxHeartbeats 3200000
set_option maxRecDepth 100000
/-- A map from keys to whole numbers, each entry of which is right. -/
def Memo (P : Program) (kt : TypeId) (w : World) (b : Nat) (E : Value → Int → Prop) : Prop := ∃ es clock, w.heap[b]? = some (.map es clock) ∧ ∀ e ∈ es.toList, (∃ l, keyOf P kt e.key = some l) ∧ ∃ c, e.val = .int .i64 c ∧ E e.key c
theorem memo_made (P : Program) (kt : TypeId) (w : World) (E : Value → Int → Prop) : Memo P kt (w.alloc (.map #[] 0)) w.heap.size E := ⟨#[], 0, k_new rfl, fun e he => by simp at he⟩
theorem Memo.keep {P : Program} {kt : TypeId} {w w' : World} {b : Nat} {E : Value → Int → Prop} (h : Memo P kt w b E) (hb : w'.heap[b]? = w.heap[b]?) : Memo P kt w' b E := by
  obtain ⟨es, clock, h1, h2⟩ := h
  exact ⟨es, clock, hb.trans h1, h2⟩
theorem Memo.lt {P : Program} {kt : TypeId} {w : World} {b : Nat} {E : Value → Int → Prop} (h : Memo P kt w b E) : b < w.heap.size := by
  obtain ⟨es, clock, h1, _⟩ := h
  exact k_lt h1
theorem run_memo_look {P : Program} {kt t e : TypeId} {w : World} {b : Nat} {E : Value → Int → Prop} (c : Bool) (h : Memo P kt w b E) (K : Keyed P kt) (ht : P.underlying t = some (.map kt e)) (hz : (zeroValue e).run P w = .ok (.int .i64 0) w) {key : Value} {kl : Lit} (hkey : keyOf P kt key = some kl) :
    (Instr.lookup t (.map (some b)) key c).run P w = .ok (if c then .tuple #[.int .i64 0, .bool false] else .int .i64 0) w ∨ ∃ x, (Instr.lookup t (.map (some b)) key c).run P w = .ok (if c then .tuple #[.int .i64 x, .bool true] else .int .i64 x) w ∧ E key x := by
  obtain ⟨es, clock, hb, hes⟩ := h
  rcases K.find w hkey es.toList (fun e he => (hes e he).1) with ⟨h1, h2⟩ | ⟨j, e0, h1, h2, h3⟩
  · exact .inl (by cases c <;> simp [Instr.lookup, run_underlying ht, MapKept.run_getObj_map hb, K.check w _ hkey, h1, hz, Result.andThen])
  · obtain ⟨_, x, hx, hE⟩ := hes e0 (List.mem_of_getElem? h2)
    refine .inr ⟨x, ?_, h3 ▸ hE⟩
    cases c <;> simp [Instr.lookup, run_underlying ht, MapKept.run_getObj_map hb, K.check w _ hkey, h1, hx, Result.andThen]
/-- A key is in a map. -/
def HasK (w : World) (b : Nat) (key : Value) : Prop := ∃ es clock, w.heap[b]? = some (.map es clock) ∧ ∃ e ∈ es.toList, e.key = key
theorem HasK.keep {w w' : World} {b : Nat} {key : Value} (h : HasK w b key) (hb : w'.heap[b]? = w.heap[b]?) : HasK w' b key := by
  obtain ⟨es, clock, h1, h2⟩ := h
  exact ⟨es, clock, hb.trans h1, h2⟩
theorem run_memo_has {P : Program} {kt t e : TypeId} {w : World} {b : Nat} {E : Value → Int → Prop} (c : Bool) (h : Memo P kt w b E) (K : Keyed P kt) (ht : P.underlying t = some (.map kt e)) {key : Value} {kl : Lit} (hkey : keyOf P kt key = some kl) (hh : HasK w b key) :
    ∃ x, (Instr.lookup t (.map (some b)) key c).run P w = .ok (if c then .tuple #[.int .i64 x, .bool true] else .int .i64 x) w ∧ E key x := by
  obtain ⟨es, clock, hb, hes⟩ := h
  obtain ⟨es', clock', hb', e1, he1, hk1⟩ := hh
  rw [hb] at hb'
  cases hb'
  rcases K.find w hkey es.toList (fun e he => (hes e he).1) with ⟨h1, h2⟩ | ⟨j, e0, h1, h2, h3⟩
  · exact absurd hk1 (h2 e1 he1)
  · obtain ⟨_, x, hx, hE⟩ := hes e0 (List.mem_of_getElem? h2)
    refine ⟨x, ?_, h3 ▸ hE⟩
    cases c <;> simp [Instr.lookup, run_underlying ht, MapKept.run_getObj_map hb, K.check w _ hkey, h1, hx, Result.andThen]
theorem run_memo_put {P : Program} {kt t e : TypeId} {w : World} {b : Nat} {E : Value → Int → Prop} (h : Memo P kt w b E) (K : Keyed P kt) (ht : P.underlying t = some (.map kt e)) {key : Value} {kl : Lit} (hkey : keyOf P kt key = some kl) {x : Int} (hE : E key x) :
    ∃ w', (Instr.mapUpdate t (.map (some b)) key (.int .i64 x)).run P w = .ok () w' ∧ Memo P kt w' b E ∧ w.grownBy w' (some b) ∧ w'.heap.size = w.heap.size ∧ HasK w' b key := by
  obtain ⟨es, clock, hb, hes⟩ := h
  have mk : ∀ es' clock', (∀ e ∈ es'.toList, (∃ l, keyOf P kt e.key = some l) ∧ ∃ c, e.val = .int .i64 c ∧ E e.key c) → (∃ e ∈ es'.toList, e.key = key) → Memo P kt (setBlock w b (.map es' clock')) b E ∧ w.grownBy (setBlock w b (.map es' clock')) (some b) ∧ (setBlock w b (.map es' clock')).heap.size = w.heap.size ∧ HasK (setBlock w b (.map es' clock')) b key :=
    fun es' clock' h' hh => ⟨⟨es', clock', heap_setBlock_same hb _, h'⟩, ⟨rfl, rfl, rfl, by simp [setBlock], fun i _ hi => heap_setBlock_other hb _ (fun e => hi (by rw [e]))⟩, by simp [setBlock], ⟨es', clock', heap_setBlock_same hb _, hh⟩⟩
  rcases K.find w hkey es.toList (fun e he => (hes e he).1) with ⟨h1, h2⟩ | ⟨j, e0, h1, h2, h3⟩
  · refine ⟨_, by simp [Instr.mapUpdate, run_underlying ht, MapKept.run_getObj_map hb, K.check w false hkey, h1, MapKept.run_setObj_map _ hb, Result.andThen]; rfl, mk (es.push ⟨_, .int .i64 x, clock⟩) (clock + 1) (fun e he => ?_) ⟨⟨key, .int .i64 x, clock⟩, by simp, rfl⟩⟩
    simp only [Array.toList_push, List.mem_append, List.mem_singleton] at he
    rcases he with he | rfl
    · exact hes e he
    · exact ⟨⟨_, hkey⟩, x, rfl, hE⟩
  · have hj : es[j]? = some e0 := by simpa using h2
    refine ⟨_, by simp [Instr.mapUpdate, run_underlying ht, MapKept.run_getObj_map hb, K.check w false hkey, h1, hj, h3, K.stays w hkey, MapKept.run_setObj_map _ hb, Result.andThen]; rfl, mk (es.modify j (fun e' => { e' with key := _, val := .int .i64 x })) clock (fun e he => ?_) ⟨{ e0 with key := key, val := .int .i64 x }, ?_, rfl⟩⟩
    · rw [Array.toList_modify, modify_eq_set _ _ _ _ h2] at he
      rcases List.mem_or_eq_of_mem_set he with he | rfl
      · exact hes e he
      · exact ⟨⟨_, hkey⟩, x, rfl, hE⟩
    · rw [Array.toList_modify, modify_eq_set _ _ _ _ h2]
      exact List.mem_set (List.getElem?_eq_some_iff.1 h2).1 _
theorem wpList_memo_look {P : Program} (w : World) {ops : Array Oper} {rest : List Oper} {o : Oper} {a : Act} {Q : Exit → Act → World → Prop} (hg : o.guard = none) (m x : Operand) (t : TypeId) (c : Bool) (hop : o.op = Op.lookup t m x c)
    (kt e : TypeId) (K : Keyed P kt) (ht : P.underlying t = some (.map kt e)) (hz : (zeroValue e).run P w = .ok (.int .i64 0) w) (b : Nat) (E : Value → Int → Prop) (hm : a.eval m = .map (some b)) (h : Memo P kt w b E) (key : Value) (kl : Lit) (hx : a.eval x = key) (hkey : keyOf P kt key = some kl)
    (hK0 : wpList P ops Q rest (a.put o.dst (if c then .tuple #[.int .i64 0, .bool false] else .int .i64 0)) w) (hK1 : ∀ v : Int, E key v → wpList P ops Q rest (a.put o.dst (if c then .tuple #[.int .i64 v, .bool true] else .int .i64 v)) w) :
    wpList P ops Q (o :: rest) a w := by
  refine wpList_plain hg fun K' hK' => ?_
  unfold Oper.wp
  rcases run_memo_look c h K ht hz hkey with hr | ⟨v, hr, hE⟩
  · simp only [execOp, hop, hm, hx]
    simp [hr, Result.andThen]
    exact hK' _ _ hK0
  · simp only [execOp, hop, hm, hx]
    simp [hr, Result.andThen]
    exact hK' _ _ (hK1 v hE)
theorem wpList_memo_put {P : Program} (w : World) {ops : Array Oper} {rest : List Oper} {o : Oper} {a : Act} {Q : Exit → Act → World → Prop} (hg : o.guard = none) (m x v : Operand) (t : TypeId) (hop : o.op = Op.mapUpdate t m x v)
    (kt e : TypeId) (K : Keyed P kt) (ht : P.underlying t = some (.map kt e)) (b : Nat) (E : Value → Int → Prop) (hm : a.eval m = .map (some b)) (h : Memo P kt w b E) (key : Value) (kl : Lit) (hx : a.eval x = key) (hkey : keyOf P kt key = some kl) (c : Int) (hv : a.eval v = .int .i64 c) (hE : E key c)
    (hK : ∀ w', Memo P kt w' b E → w.grownBy w' (some b) → w'.heap.size = w.heap.size → HasK w' b key → wpList P ops Q rest (a.put o.dst undef) w') : wpList P ops Q (o :: rest) a w := by
  refine wpList_plain hg fun K' hK' => ?_
  obtain ⟨w', hr, h1, h2, h3, h4⟩ := run_memo_put h K ht hkey hE
  unfold Oper.wp
  simp [execOp, hop, hm, hx, hv, hr, Result.andThen]
  exact hK' _ _ (hK w' h1 h2 h3 h4)
theorem keyI : Keyed Try.prog 3 := int_keyed Try.underlying3
theorem keyI_of {x : Int} (h : -9223372036854775808 ≤ x ∧ x ≤ 9223372036854775807) : keyOf Try.prog 3 (.int .i64 x) = some (.int .i64 x) := keyOf_int_mk Try.underlying3 (WalkArith.wf_i64 (by omega))
theorem arrP : WideMaps.ArrKey Try.prog 91 3 2 := ⟨Try.underlying91, by kernel_rfl, by kernel_rfl, by kernel_rfl⟩
theorem keyP : Keyed Try.prog 91 := Keyed.of_law arrP.law
theorem zeroI (w : World) : (zeroValue 3).run Try.prog w = .ok (.int .i64 0) w := by kernel_rfl
abbrev pairV (x y : Int) : Value := .agg #[.int .i64 x, .int .i64 y]
theorem keyP_of {x y : Int} (hx : -9223372036854775808 ≤ x ∧ x ≤ 9223372036854775807) (hy : -9223372036854775808 ≤ y ∧ y ≤ 9223372036854775807) : ∃ l, keyOf Try.prog 91 (pairV x y) = some l := by
  have hwx : (Lit.int .i64 x).wf = true := WalkArith.wf_i64 (by omega)
  have hwy : (Lit.int .i64 y).wf = true := WalkArith.wf_i64 (by omega)
  obtain ⟨m, hm⟩ : ∃ m, Try.prog.types.size = m + 1 := ⟨Try.prog.types.size - 1, by kernel_rfl⟩
  have hk : Try.prog.keyType 91 = true := arrP.keyType ⟨m, hm⟩
  have hc2 : Try.prog.cellsOf 91 = 2 := by kernel_rfl
  have hc1 : Try.prog.cellsOf 3 = 1 := by kernel_rfl
  have e : Try.prog.keyLits (Try.prog.types.size + 1) 91 [.int .i64 x, .int .i64 y] = some [.int .i64 x, .int .i64 y] := by
    rw [hm]
    unfold Program.keyLits
    rw [Try.underlying91]
    simp only [hc2, hc1, List.length_cons, List.length_nil, if_true, Nat.reduceAdd]
    simp only [show List.range 2 = [0, 1] from rfl, List.mapM_cons, List.mapM_nil]
    simp [Program.keyLits, Try.underlying3, hwx, hwy]
  unfold keyOf
  rw [Try.underlying91]
  simp only [hk, Value.formed, Try.underlying91, hc2]
  simp only [Value.cells, e]
  exact ⟨_, rfl⟩
end Go.Proofs.Ytmnaeoljpajomaa.H
