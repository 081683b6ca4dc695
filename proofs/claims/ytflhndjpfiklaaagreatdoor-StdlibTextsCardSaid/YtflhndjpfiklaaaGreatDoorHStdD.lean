/- Words on the entries of the standard functions' table. Condition: none. -/
import Derived.Test.YtflhndjpfiklaaaGreatDoorHStdX
namespace Go.Proofs.YtflhndjpfiklaaaGreatDoor.H
set_option linter.unusedVariables false
set_option linter.unusedSimpArgs false
open Go.RowKit Go.Proofs.YtflhndjpfiklaaaGreatDoor.Plain
set_option maxHeartbeats 12800000
set_option maxRecDepth 100000
attribute [local go_sem] ext_from ext_bits cell_isSome un_neg_float
/-- The functions' names, in their order. -/
def fnames : Array ByteArray := #[⟨#[]⟩, ⟨#[65, 68, 68]⟩, ⟨#[83, 85, 66]⟩, ⟨#[77, 85, 76]⟩, ⟨#[68, 73, 86]⟩, ⟨#[77, 79, 68]⟩, ⟨#[65, 78, 68]⟩, ⟨#[79, 82]⟩, ⟨#[88, 79, 82]⟩, ⟨#[78, 79, 84]⟩, ⟨#[69, 81]⟩, ⟨#[78, 69]⟩, ⟨#[76, 84]⟩, ⟨#[76, 69]⟩, ⟨#[71, 84]⟩, ⟨#[71, 69]⟩, ⟨#[77, 79, 86, 69]⟩, ⟨#[65, 66, 83]⟩, ⟨#[77, 73, 78]⟩, ⟨#[77, 65, 88]⟩, ⟨#[76, 73, 77, 73, 84]⟩, ⟨#[83, 69, 76]⟩, ⟨#[77, 85, 88]⟩, ⟨#[83, 72, 76]⟩, ⟨#[83, 72, 82]⟩, ⟨#[82, 79, 76]⟩, ⟨#[82, 79, 82]⟩, ⟨#[76, 69, 78]⟩, ⟨#[76, 69, 70, 84]⟩, ⟨#[82, 73, 71, 72, 84]⟩, ⟨#[77, 73, 68]⟩, ⟨#[67, 79, 78, 67, 65, 84]⟩, ⟨#[73, 78, 83, 69, 82, 84]⟩, ⟨#[68, 69, 76, 69, 84, 69]⟩, ⟨#[82, 69, 80, 76, 65, 67, 69]⟩, ⟨#[70, 73, 78, 68]⟩, ⟨#[84, 82, 85, 78, 67]⟩]
/-- Entries: a name and three function values each; of nought none. -/
def Named (xs : List Value) (k : Nat) : Prop := xs.length = k * 4 ∧ ∀ j, j < k → xs[j * 4]? = some (.string (fnames.getD j ⟨#[]⟩)) ∧ (∀ m, 1 ≤ m → m < 4 → ∃ v, xs[j * 4 + m]? = some v ∧ (FnV v ∨ j = 0 ∧ v = .nilFunc))
theorem named_step {xs : List Value} {k : Nat} {nm : ByteArray} {p g d : Value} (h : Named xs k) (hk : 1 ≤ k) (hn : fnames.getD k ⟨#[]⟩ = nm) (hp : FnV p) (hg : FnV g) (hd : FnV d) : Named (xs ++ [.string nm, p, g, d]) (k + 1) := by
  obtain ⟨h1, h2⟩ := h
  refine ⟨by simp [h1]; omega, fun j hj => ?_⟩
  rcases Nat.lt_or_ge j k with c | c
  · obtain ⟨a, b⟩ := h2 j c
    refine ⟨by rw [List.getElem?_append_left (by omega)]; exact a, fun m m1 m2 => ?_⟩
    rw [List.getElem?_append_left (by omega)]
    exact b m m1 m2
  · obtain rfl : j = k := by omega
    refine ⟨by rw [List.getElem?_append_right (by omega), h1, Nat.sub_self]; simp [hn], fun m m1 m2 => ?_⟩
    rw [List.getElem?_append_right (by omega), show j * 4 + m - xs.length = m by omega]
    match m, m1, m2 with
    | 1, _, _ => exact ⟨p, rfl, .inl hp⟩
    | 2, _, _ => exact ⟨g, rfl, .inl hg⟩
    | 3, _, _ => exact ⟨d, rfl, .inl hd⟩
theorem got_app {xs ys : List Value} {i : Nat} {v : Value} (h : xs[i]? = some v) : (xs ++ ys)[i]? = some v := by
  rw [List.getElem?_append_left]
  · exact h
  · rcases Nat.lt_or_ge i xs.length with c | c
    · exact c
    · rw [List.getElem?_eq_none c] at h; cases h
theorem got_new {xs : List Value} {k m : Nat} {ys : List Value} {v : Value} (h : Named xs k) (hy : ys[m]? = some v) : (xs ++ ys)[k * 4 + m]? = some v := by
  rw [List.getElem?_append_right (by rw [h.1]; omega), h.1, Nat.add_sub_cancel_left]
  exact hy
/-- Formal names of just so many arguments. -/
def FixedAt (w : World) (v : Value) (n : Nat) : Prop := ∃ a b c, v = .func (.func 85) #[] #[.pointer (some ⟨a, 0, none⟩)] ∧ w.heap[a]? = some (.cells #[.slice (some ⟨b, 0, none⟩) n c] 53 (0, 0))
/-- What takes just the kinds of some tests, and gives one kind (nought: the first argument's). -/
def KindsOf (w : World) (v : Value) (k : Int) (l : List Fn) : Prop := ∃ o i r c, v = .func (.func 91) #[] #[.pointer (some ⟨i, 0, none⟩), .pointer (some ⟨o, 0, none⟩)] ∧ w.heap[o]? = some (.cells #[.int .u8 k] 22 (0, 0)) ∧ w.heap[i]? = some (.cells #[.slice (some ⟨r, 0, none⟩) l.length c] 91 (0, 0)) ∧
  w.heap[r]? = some (.cells (l.map (fun f => Value.func f #[] #[])).toArray 34 (0, 0))
/-- What turns round, to the higher bits or to the lower ones. -/
def RotAt (w : World) (v : Value) (up : Bool) : Prop := ∃ a, v = .func (.func 100) #[] #[.pointer (some ⟨a, 0, none⟩)] ∧ w.heap[a]? = some (.cells #[.bool up] 4 (0, 0))
theorem FixedAt.kp {L : Nat} {w w' : World} {v : Value} {n : Nat} (h : FixedAt w v n) (hk : Kp L w w') (hL : ∃ s, w.heap[L]? = some (.cells #[s] 46 (0, 0))) : FixedAt w' v n := by
  obtain ⟨a, b, c, rfl, h1⟩ := h
  obtain ⟨s, hs⟩ := hL
  exact ⟨a, b, c, rfl, hk.keep h1 (by rintro rfl; rw [hs] at h1; cases h1) (by decide)⟩
theorem RotAt.kp {L : Nat} {w w' : World} {v : Value} {up : Bool} (h : RotAt w v up) (hk : Kp L w w') (hL : ∃ s, w.heap[L]? = some (.cells #[s] 46 (0, 0))) : RotAt w' v up := by
  obtain ⟨a, rfl, h1⟩ := h
  obtain ⟨s, hs⟩ := hL
  exact ⟨a, rfl, hk.keep h1 (by rintro rfl; rw [hs] at h1; cases h1) (by decide)⟩
theorem KindsOf.kp {L : Nat} {w w' : World} {v : Value} {k : Int} {l : List Fn} (h : KindsOf w v k l) (hk : Kp L w w') (hL : ∃ s, w.heap[L]? = some (.cells #[s] 46 (0, 0))) : KindsOf w' v k l := by
  obtain ⟨o, i, r, c, rfl, h1, h2, h3⟩ := h
  obtain ⟨s, hs⟩ := hL
  exact ⟨o, i, r, c, rfl, hk.keep h1 (by rintro rfl; rw [hs] at h1; cases h1) (by decide), hk.keep h2 (by rintro rfl; rw [hs] at h2; cases h2) (by decide), hk.keep h3 (by rintro rfl; have e := Option.some.inj (hs.symm.trans h3); injection e with _ e2 _; exact absurd e2 (by decide)) (by decide)⟩
theorem Tab.var {w : World} {B L k : Nat} {xs : List Value} (h : Tab w B L k xs) : ∃ s, w.heap[L]? = some (.cells #[s] 46 (0, 0)) := let ⟨_, v, h1, _⟩ := h; ⟨v, h1⟩
theorem fnv (f : Fn) (a c : Array Value) : FnV (.func f a c) := ⟨f, a, c, rfl⟩
/-- The entry of a function over texts: what it takes, what it gives, what it does. -/
def TSpec (w : World) (j : Nat) (p g d : Value) : Prop :=
  match j with
  | 0 => FixedAt w p 1 ∧ KindsOf w g 3 [.func 103] ∧ d = .func (.func 104) #[] #[]
  | 1 => FixedAt w p 2 ∧ KindsOf w g 19 [.func 103, .func 52] ∧ d = .func (.func 106) #[] #[]
  | 2 => FixedAt w p 2 ∧ KindsOf w g 19 [.func 103, .func 52] ∧ d = .func (.func 110) #[] #[]
  | 3 => FixedAt w p 3 ∧ KindsOf w g 19 [.func 103, .func 52, .func 52] ∧ d = .func (.func 111) #[] #[]
  | 4 => p = .func (.func 30) #[] #[] ∧ g = .func (.func 113) #[] #[] ∧ d = .func (.func 114) #[] #[]
  | 5 => FixedAt w p 3 ∧ KindsOf w g 19 [.func 103, .func 103, .func 52] ∧ d = .func (.func 115) #[] #[]
  | 6 => FixedAt w p 3 ∧ KindsOf w g 19 [.func 103, .func 52, .func 52] ∧ d = .func (.func 116) #[] #[]
  | 7 => FixedAt w p 4 ∧ KindsOf w g 19 [.func 103, .func 103, .func 52, .func 52] ∧ d = .func (.func 117) #[] #[]
  | 8 => FixedAt w p 2 ∧ KindsOf w g 3 [.func 103, .func 103] ∧ d = .func (.func 118) #[] #[]
  | 9 => FixedAt w p 1 ∧ KindsOf w g 5 [.func 120] ∧ d = .func (.func 121) #[] #[]
  | _ => False
theorem TSpec.kp {L : Nat} {w w' : World} {j : Nat} {p g d : Value} (h : TSpec w j p g d) (hk : Kp L w w') (hL : ∃ s, w.heap[L]? = some (.cells #[s] 46 (0, 0))) : TSpec w' j p g d := by
  unfold TSpec at h ⊢
  split at h
  · exact ⟨h.1.kp hk hL, h.2.1.kp hk hL, h.2.2⟩
  · exact ⟨h.1.kp hk hL, h.2.1.kp hk hL, h.2.2⟩
  · exact ⟨h.1.kp hk hL, h.2.1.kp hk hL, h.2.2⟩
  · exact ⟨h.1.kp hk hL, h.2.1.kp hk hL, h.2.2⟩
  · exact h
  · exact ⟨h.1.kp hk hL, h.2.1.kp hk hL, h.2.2⟩
  · exact ⟨h.1.kp hk hL, h.2.1.kp hk hL, h.2.2⟩
  · exact ⟨h.1.kp hk hL, h.2.1.kp hk hL, h.2.2⟩
  · exact ⟨h.1.kp hk hL, h.2.1.kp hk hL, h.2.2⟩
  · exact ⟨h.1.kp hk hL, h.2.1.kp hk hL, h.2.2⟩
  · exact h
/-- The entries of the functions over texts, as many as there are. -/
def NamedT (w : World) (xs : List Value) (k : Nat) : Prop := xs.length = k * 4 ∧ ∀ j, j < k → xs[j * 4]? = some (.string (fnames.getD (27 + j) ⟨#[]⟩)) ∧ ∃ p g d, xs[j * 4 + 1]? = some p ∧ xs[j * 4 + 2]? = some g ∧ xs[j * 4 + 3]? = some d ∧ TSpec w j p g d
theorem namedT_zero (w : World) : NamedT w [] 0 := ⟨rfl, fun _ h => absurd h (by omega)⟩
theorem namedT_kp {L : Nat} {w w' : World} {xs : List Value} {k : Nat} (h : NamedT w xs k) (hk : Kp L w w') (hL : ∃ s, w.heap[L]? = some (.cells #[s] 46 (0, 0))) : NamedT w' xs k :=
  ⟨h.1, fun j hj => let ⟨a, p, g, d, h1, h2, h3, h4⟩ := h.2 j hj; ⟨a, p, g, d, h1, h2, h3, h4.kp hk hL⟩⟩
theorem namedT_step {w : World} {xs : List Value} {k : Nat} {nm : ByteArray} {p g d : Value} (h : NamedT w xs k) (hn : fnames.getD (27 + k) ⟨#[]⟩ = nm) (hs : TSpec w k p g d) : NamedT w (xs ++ [.string nm, p, g, d]) (k + 1) := by
  obtain ⟨h1, h2⟩ := h
  refine ⟨by simp [h1]; omega, fun j hj => ?_⟩
  rcases Nat.lt_or_ge j k with c | c
  · obtain ⟨a, p', g', d', b1, b2, b3, b4⟩ := h2 j c
    refine ⟨by rw [List.getElem?_append_left (by omega)]; exact a, p', g', d', ?_, ?_, ?_, b4⟩ <;> rw [List.getElem?_append_left (by omega)] <;> assumption
  · obtain rfl : j = k := by omega
    refine ⟨by rw [List.getElem?_append_right (by omega), h1, Nat.sub_self]; simp [hn], p, g, d, ?_, ?_, ?_, hs⟩ <;> rw [List.getElem?_append_right (by omega), h1]
    · rw [show j * 4 + 1 - j * 4 = 1 by omega]; rfl
    · rw [show j * 4 + 2 - j * 4 = 2 by omega]; rfl
    · rw [show j * 4 + 3 - j * 4 = 3 by omega]; rfl
end Go.Proofs.YtflhndjpfiklaaaGreatDoor.H
