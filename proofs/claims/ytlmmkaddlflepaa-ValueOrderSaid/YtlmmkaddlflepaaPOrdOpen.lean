/- What an argument that can be read as data holds, told by kinds: words of this session's own, for rows of laws over structs and slices of these. Over any program; no condition. -/
import Derived.ProofKit
import Derived.WalkKit
import Derived.OpenShut
import Derived.ShutString
import Derived.SizedLaws
import Derived.Deep.Slices
import Derived.Laws.Cover2
import Derived.Test.YtlmmkaddlflepaaPOrdW
namespace Go.Proofs.Ytlmmkaddlflepaa.Open
open Go.ChangeShapes Go.WideShapes Go.Deep Go.RowKit Go.Proofs.YtlmmkaddlflepaaW.PrintWords
variable {H : Type} {enc : TypeId × Value → H} {P : Program} {w : World}

/-- What reads at type t is of kind d, and meets ok. -/
def Opens {α : Type} (enc : TypeId × Value → H) (P : Program) (w : World) (t : TypeId) (d : Kd α) (ok : α → Prop) : Prop :=
  ∀ (fuel : Nat) (cs : List Value) (y : DataW H) (p : List MemPlace), DataW.trod enc P w 0 (fun _ => true) true fuel t cs = some (y, p) → (∀ n ∈ y.weights P t, n ≤ reachBytes) → ∃ x, d.K w x cs ∧ ok x

theorem opens_int {t : TypeId} {k : IntKind} (ht : P.underlying t = some (.int k)) : Opens enc P w t (Kd.int k) (fun x => (Lit.int k x).wf = true) := by
  intro fuel cs y p h _
  obtain ⟨n, rfl, _, hw⟩ := DataW.trod_int ht h
  exact ⟨n, rfl, hw⟩
theorem opens_bool {t : TypeId} (ht : P.underlying t = some .bool) : Opens enc P w t Kd.bool (fun _ => True) := by
  intro fuel cs y p h _
  obtain ⟨b, rfl, _⟩ := DataW.trod_bool ht h
  exact ⟨b, rfl, trivial⟩
theorem opens_string {t : TypeId} (ht : P.underlying t = some .string) : Opens enc P w t Kd.string (fun x => x.size ≤ 140737488351232) := by
  intro fuel cs y p h hw
  obtain ⟨s, rfl, hx, _⟩ := DataW.trod_string ht h
  obtain ⟨rfl, rfl⟩ := Prod.mk.inj hx
  refine ⟨s, rfl, ?_⟩
  have z := hw s.data.toList.length (by simp [DataW.weights])
  rw [Array.length_toList] at z
  exact z
theorem weights_all {e : TypeId} {l : List (DataW H)} {i : Nat} {d : DataW H} (hi : l[i]? = some d) {n : Nat} (hn : n ∈ d.weights P e) : n ∈ DataW.weightsAll P e l := by
  induction l generalizing i with
  | nil => simp at hi
  | cons a l ih =>
    cases i with
    | zero =>
      have : a = d := by simpa using hi
      subst this
      simp [DataW.weightsAll, hn]
    | succ i =>
      simp only [DataW.weightsAll, List.mem_append]
      exact .inr (ih (by simpa using hi))
theorem weights_each {ts : List TypeId} {l : List (DataW H)} {i : Nat} {t : TypeId} {d : DataW H} (ht : ts[i]? = some t) (hi : l[i]? = some d) {n : Nat} (hn : n ∈ d.weights P t) : n ∈ DataW.weightsEach P ts l := by
  induction ts generalizing l i with
  | nil => simp at ht
  | cons a ts ih =>
    cases l with
    | nil => simp at hi
    | cons b l =>
      cases i with
      | zero =>
        have h1 : a = t := by simpa using ht
        have h2 : b = d := by simpa using hi
        subst h1 h2
        simp [DataW.weightsEach, hn]
      | succ i =>
        simp only [DataW.weightsEach, List.mem_append]
        exact .inr (ih (by simpa using ht) (by simpa using hi))

theorem list_of {α : Type} (Q : Nat → α → Prop) (len : Nat) (key : ∀ i, i < len → ∃ x, Q i x) : ∃ l : List α, l.length = len ∧ ∀ i x, l[i]? = some x → Q i x := by
  induction len with
  | zero => exact ⟨[], rfl, fun i x hx => by simp at hx⟩
  | succ len ih =>
    obtain ⟨l, h1, h2⟩ := ih (fun i hi => key i (by omega))
    obtain ⟨x, h3⟩ := key len (by omega)
    refine ⟨l ++ [x], by simp [h1], fun i y hy => ?_⟩
    rcases Nat.lt_or_ge i l.length with hi | hi
    · rw [List.getElem?_append_left hi] at hy
      exact h2 i y hy
    · have hi2 : i = l.length := by
        have := (List.getElem?_eq_some_iff.1 hy).1
        simp at this
        omega
      subst hi2
      have hy2 : x = y := by simpa using hy
      subst hy2
      rw [h1]
      exact h3
/-- A slice's elements: how many there are, and what holds of each. -/
def Each {α : Type} (B : Nat) (ok : α → Prop) (l : List α) : Prop := l.length ≤ maxLen ∧ l.length * B ≤ 140737488351232 ∧ ∀ x ∈ l, ok x
theorem opens_slice {α : Type} {t e : TypeId} {d : Kd α} {ok : α → Prop} {B : Nat} (ht : P.underlying t = some (.slice e)) (hB : P.bytesOf e = B) (hs : d.sz = P.cellsOf e) (he : Opens enc P w e d ok) : Opens enc P w t (Kd.slice e d) (Each B ok) := by
  intro fuel cs y p h hw
  rcases open_slice ht h with ⟨rfl, hx⟩ | ⟨a, len, cap, m, n, D, Pl, rfl, _, hl, hm, hmm, hx, hel⟩
  · refine ⟨[], ⟨none, 0, rfl, Nat.le_refl _, rfl, by simp, fun h => absurd h (by simp)⟩, by simp, by simp, fun x hx => by simp at hx⟩
  · obtain ⟨rfl, rfl⟩ := Prod.mk.inj hx
    have hm2 : m = cap := by rw [hmm]; rfl
    subst hm2
    have hwt : ∀ n, n ∈ (m * P.bytesOf e :: (DataW.weightsAll P e ((List.range len).map D) ++ DataW.weightsAll P e ((List.range (m - len)).map fun j => D (len + j)))) → n ≤ reachBytes := by
      intro n hn
      refine hw n ?_
      simp only [DataW.weights, ht]
      have e1 : ((List.range len).map D).length + ((List.range (m - len)).map fun j => D (len + j)).length = m := by simp; omega
      rw [e1]
      exact hn
    have key : ∀ i, i < len → ∃ x : α, (∃ c, c.length = d.sz ∧ d.K w x c ∧ ∀ j u, c[j]? = some u → w.cell? (a.add (i * d.sz + j)) = some u) ∧ ok x := by
      intro i hi
      obtain ⟨cs', h1, h2⟩ := hel i (by omega)
      obtain ⟨x, hK, ho⟩ := he n cs' (D i) (Pl i) h2 (fun q hq => hwt q (by
        refine List.mem_cons_of_mem _ (List.mem_append_left _ (weights_all (i := i) (d := D i) ?_ hq))
        simp [hi]))
      obtain ⟨_, hlen, hc⟩ := World.cells?_some h1
      refine ⟨x, ⟨cs', by rw [hs]; exact hlen, hK, fun j u hu => ?_⟩, ho⟩
      have hj : j < P.cellsOf e := by rw [← hlen]; exact (List.getElem?_eq_some_iff.1 hu).1
      have := hc j hj
      rw [hu] at this
      rw [hs]
      have e2 : (a.add (i * P.cellsOf e)).add j = a.add (i * P.cellsOf e + j) := Deep.add_add _ _ _
      rw [← e2]
      exact this
    have ex : ∃ l : List α, l.length = len ∧ ∀ i x, l[i]? = some x → (∃ c, c.length = d.sz ∧ d.K w x c ∧ ∀ j u, c[j]? = some u → w.cell? (a.add (i * d.sz + j)) = some u) ∧ ok x := by
      exact list_of (fun i x => (∃ c, c.length = d.sz ∧ d.K w x c ∧ ∀ j u, c[j]? = some u → w.cell? (a.add (i * d.sz + j)) = some u) ∧ ok x) len key
    obtain ⟨l, h1, h2⟩ := ex
    have hle : len * B ≤ 140737488351232 := by
      have z := hwt _ List.mem_cons_self
      rw [hB] at z
      exact Nat.le_trans (Nat.mul_le_mul_right _ hl) z
    refine ⟨l, ⟨some a, m, by rw [h1], by rw [h1]; exact hl, by rw [h1], ?_, fun _ => ⟨a, rfl, fun j p hp => (h2 j p hp).1⟩⟩, ⟨by rw [h1]; exact Nat.le_trans hl hm, by rw [h1]; exact hle, fun x hx => ?_⟩⟩
    · rw [h1]
      have : maxLen = 9223372036854775807 := rfl
      omega
    · obtain ⟨i, hi⟩ := List.getElem?_of_mem hx
      exact (h2 i x hi).2

/-- A float: its word. -/
theorem trod_f64 {fuel : Nat} {t : TypeId} {cs : List Value} {x : DataW H × List MemPlace} (ht : P.underlying t = some (.float .f64)) (h : DataW.trod enc P w 0 (fun _ => true) true fuel t cs = some x) : ∃ b, cs = [.float .f64 b] ∧ x = (.lit (.float .f64 b), []) ∧ (Lit.float .f64 b).wf = true := by
  cases fuel with
  | zero => simp [DataW.trod] at h
  | succ n =>
    unfold DataW.trod at h
    rw [ht] at h
    split at h <;> simp_all

/-- A value and its reading: its cells' reading. -/
theorem opens_val {α : Type} {t : TypeId} {d : Kd α} {ok : α → Prop} (h : Opens enc P w t d ok) {v : Value} {y : DataW H} {p : List MemPlace} (hv : DataW.Trod enc P w 0 (fun _ => true) true t v y p) (hw : ∀ n ∈ y.weights P t, n ≤ reachBytes) : ∃ x, d.K w x v.cells.toList ∧ ok x := by
  obtain ⟨fuel, hf⟩ := hv
  exact h fuel _ y p hf hw
theorem weights_of {ts : List TypeId} {ds : List (DataW H)} {j : Nat} {t : TypeId} {d : DataW H} (hsz : (DataW.weightsEach P ts ds).all (· ≤ reachBytes) = true) (ht : ts[j]? = some t) (hd : ds[j]? = some d) : ∀ n ∈ d.weights P t, n ≤ reachBytes := by
  intro n hn
  have := List.all_eq_true.1 hsz n (weights_each ht hd hn)
  simpa using this
/-- A struct's value, of its cells. -/
theorem agg_of {r : Reach} {b0 : Nat} {t : TypeId} {fs : Array Field} {v : Value} (ht : P.underlying t = some (.struct fs)) (hv : Value.okWide P w r b0 t v) {cs : List Value} (hc : v.cells.toList = cs) : v = .agg cs.toArray := by
  obtain ⟨c, rfl, _⟩ := okWide_struct ht hv
  rw [← hc]
  simp [Value.cells]
/-- One that is no struct is its one cell. -/
theorem one_of {v c : Value} (h1 : v.cells.toList = [c]) (hv : v.cells.toList = [v]) : v = c := by
  rw [hv] at h1
  exact List.head_eq_of_cons_eq h1
theorem all_lt {t : TypeId} {v : Value} {y : DataW H} {p : List MemPlace} (h : DataW.Trod enc P w 0 (fun _ => true) true t v y p) : ∀ x ∈ p, x.block < w.heap.size := by
  obtain ⟨m, hm⟩ := h
  exact DataW.trod_lt m _ _ _ hm
end Go.Proofs.Ytlmmkaddlflepaa.Open
