/- Plain facts on decimal numerals: which lists of bytes are one, what number it is, and what strconv.ParseUint makes of it. No condition. -/
import Derived.Lib.ParseIntB
import Derived.Lib.ItoaNum
namespace Go.Proofs.YtlmmkaddlflepaaGreatDoor.Plain
set_option linter.unusedSimpArgs false
set_option linter.unusedVariables false
open Go

/-- A decimal digit. -/
def isD (c : UInt8) : Prop := 48 ≤ c.toNat ∧ c.toNat ≤ 57
instance (c : UInt8) : Decidable (isD c) := inferInstanceAs (Decidable (_ ∧ _))
/-- The number of digits behind some number. -/
def dval (a : Nat) (l : List UInt8) : Nat := l.foldl (fun a c => a * 10 + (c.toNat - 48)) a
/-- A numeral without noughts ahead. -/
def canon (l : List UInt8) : Prop := l ≠ [] ∧ (∀ c ∈ l, isD c) ∧ (l.length = 1 ∨ l.head? ≠ some 48)
instance (l : List UInt8) : Decidable (canon l) := inferInstanceAs (Decidable (_ ∧ _))
/-- The number that a text is; false: it is none, or above 64 bits. -/
def digV (l : List UInt8) : Int × Bool := if canon l ∧ dval 0 l < 18446744073709551616 then ((dval 0 l : Nat), true) else (0, false)

theorem dval_snoc (a : Nat) (l : List UInt8) (c : UInt8) : dval a (l ++ [c]) = dval a l * 10 + (c.toNat - 48) := by simp [dval]
theorem dval_cons (a : Nat) (l : List UInt8) (c : UInt8) : dval a (c :: l) = dval (a * 10 + (c.toNat - 48)) l := List.foldl_cons ..
theorem dval_ge (l : List UInt8) : ∀ a, a ≤ dval a l := by
  induction l with
  | nil => intro a; exact Nat.le_refl _
  | cons c l ih => intro a; rw [dval_cons]; have := ih (a * 10 + (c.toNat - 48)); omega
theorem parse_ok (l : List UInt8) : ∀ a, (∀ c ∈ l, isD c) → dval a l < 18446744073709551616 → Lib.parseUintM 18446744073709551615 a l = .ok (dval a l) := by
  induction l with
  | nil => intro a _ _; rfl
  | cons c l ih =>
    intro a hd hv
    have hc := hd c (by simp)
    rw [dval_cons] at hv ⊢
    have hg := dval_ge l (a * 10 + (c.toNat - 48))
    simp only [Lib.parseUintM]
    rw [if_pos (show 48 ≤ c.toNat ∧ c.toNat ≤ 57 from hc), if_neg (by omega), if_neg (by omega)]
    exact ih _ (fun x hx => hd x (by simp [hx])) hv
theorem parse_inv (l : List UInt8) : ∀ a u, a < 18446744073709551616 → Lib.parseUintM 18446744073709551615 a l = .ok u → (∀ c ∈ l, isD c) ∧ u = dval a l ∧ u < 18446744073709551616 := by
  induction l with
  | nil => intro a u ha h; cases h; exact ⟨by simp, rfl, ha⟩
  | cons c l ih =>
    intro a u ha h
    simp only [Lib.parseUintM] at h
    split at h
    · next hc =>
      split at h
      · cases h
      · split at h
        · cases h
        · obtain ⟨h1, h2, h3⟩ := ih _ u (by omega) h
          exact ⟨fun x hx => by rcases List.mem_cons.1 hx with rfl | hx; exact hc; exact h1 x hx, h2, h3⟩
    · cases h
theorem toNat_digit (d : Nat) (h : d < 10) : (UInt8.ofNat (48 + d)).toNat = 48 + d := by
  rw [UInt8.toNat_ofNat']; omega
theorem dec_small (u : Nat) (h : u < 10) : Lib.decDigits u = [UInt8.ofNat (48 + u)] := by rw [Lib.decDigits, dif_pos h]
theorem dec_great (u : Nat) (h : ¬ u < 10) : Lib.decDigits u = Lib.decDigits (u / 10) ++ [UInt8.ofNat (48 + u % 10)] := by rw [Lib.decDigits, dif_neg h]
theorem dval_dec (u : Nat) : dval 0 (Lib.decDigits u) = u := by
  induction u using Nat.strongRecOn with
  | _ u ih =>
    by_cases h : u < 10
    · rw [dec_small u h]; simp only [dval, List.foldl]; rw [toNat_digit u h]; omega
    · rw [dec_great u h, dval_snoc, ih (u / 10) (by omega), toNat_digit _ (by omega)]; omega
theorem dec_ne (u : Nat) : Lib.decDigits u ≠ [] := by
  by_cases h : u < 10
  · rw [dec_small u h]; simp
  · rw [dec_great u h]; simp
theorem dec_head (u : Nat) (h1 : 1 ≤ u) : (Lib.decDigits u).head? ≠ some 48 := by
  induction u using Nat.strongRecOn with
  | _ u ih =>
    by_cases h : u < 10
    · rw [dec_small u h]
      intro e
      have e : UInt8.ofNat (48 + u) = 48 := Option.some.inj e
      have e := congrArg UInt8.toNat e
      rw [toNat_digit u h] at e
      have : (48 : UInt8).toNat = 48 := rfl
      omega
    · rw [dec_great u h, List.head?_append]
      have := ih (u / 10) (by omega) (by omega)
      cases hd : (Lib.decDigits (u / 10)).head? with
      | none => exact absurd (List.head?_eq_none_iff.1 hd) (dec_ne _)
      | some x => rw [hd] at this; simpa using this
theorem dec_digits (u : Nat) : ∀ c ∈ Lib.decDigits u, isD c := by
  induction u using Nat.strongRecOn with
  | _ u ih =>
    intro c hc
    by_cases h : u < 10
    · rw [dec_small u h] at hc
      rw [List.mem_singleton] at hc
      subst hc
      unfold isD; rw [toNat_digit u h]; omega
    · rw [dec_great u h] at hc
      rcases List.mem_append.1 hc with hc | hc
      · exact ih _ (by omega) c hc
      · rw [List.mem_singleton] at hc
        subst hc
        unfold isD; rw [toNat_digit _ (by omega)]; omega
theorem canon_dec (u : Nat) : canon (Lib.decDigits u) := by
  refine ⟨dec_ne u, dec_digits u, ?_⟩
  by_cases h : u < 10
  · exact .inl (by rw [dec_small u h]; rfl)
  · exact .inr (dec_head u (by omega))
theorem byte_eq (c : UInt8) (h : isD c) : UInt8.ofNat (48 + (c.toNat - 48)) = c := by
  rw [show 48 + (c.toNat - 48) = c.toNat by unfold isD at h; omega]
  simp
theorem dval_pos (l : List UInt8) (hd : ∀ c ∈ l, isD c) (hne : l ≠ []) (hh : l.head? ≠ some 48) : 1 ≤ dval 0 l := by
  cases l with
  | nil => exact absurd rfl hne
  | cons c l =>
    rw [dval_cons]
    have hc := hd c (by simp)
    have : c.toNat ≠ 48 := fun e => hh (by
      have : c = 48 := UInt8.toNat_inj.1 e
      simp [this])
    have := dval_ge l (0 * 10 + (c.toNat - 48))
    unfold isD at hc
    omega
theorem dec_of_canon (n : Nat) : ∀ l : List UInt8, l.length = n → canon l → Lib.decDigits (dval 0 l) = l := by
  induction n with
  | zero => intro l hl hc; exact absurd (List.length_eq_zero_iff.1 hl) hc.1
  | succ n ih =>
    intro l hl hc
    obtain ⟨hne, hd, hh⟩ := hc
    obtain ⟨l', c, rfl⟩ : ∃ l' c, l = l' ++ [c] := ⟨l.dropLast, l.getLast hne, (List.dropLast_concat_getLast hne).symm⟩
    have hcD := hd c (by simp)
    rw [dval_snoc]
    by_cases e : l' = []
    · subst e
      rw [show dval 0 ([] : List UInt8) * 10 + (c.toNat - 48) = c.toNat - 48 by simp [dval], dec_small _ (by unfold isD at hcD; omega), byte_eq c hcD]; rfl
    · have hlen : l'.length = n := by simpa using hl
      have hh' : (l' ++ [c]).head? ≠ some 48 := by
        rcases hh with hh | hh
        · have : 1 ≤ l'.length := List.length_pos_iff.2 e
          have h2 : (l' ++ [c]).length = l'.length + 1 := by simp
          omega
        · exact hh
      have hhl : l'.head? ≠ some 48 := by
        intro e2; apply hh'; rw [List.head?_append, e2]; rfl
      have hdl : ∀ x ∈ l', isD x := fun x hx => hd x (by simp [hx])
      have hp := dval_pos l' hdl e hhl
      rw [dec_great _ (by omega), show (dval 0 l' * 10 + (c.toNat - 48)) / 10 = dval 0 l' by unfold isD at hcD; omega, show (dval 0 l' * 10 + (c.toNat - 48)) % 10 = c.toNat - 48 by unfold isD at hcD; omega,
        ih l' hlen ⟨e, hdl, .inr hhl⟩, byte_eq c hcD]
/-- What ParseUint and FormatUint together tell of a text. -/
theorem digV_of_parse (l : List UInt8) : digV l = (match Lib.parseUintB 64 l with | .ok u => if Lib.decDigits u = l then ((u : Int), true) else (0, false) | _ => (0, false)) := by
  unfold digV Lib.parseUintB
  have e64 : (2 ^ 64 - 1 : Nat) = 18446744073709551615 := by decide
  by_cases hn : l = []
  · rw [if_pos hn, if_neg (by intro h; exact h.1.1 hn)]
  · rw [if_neg hn, e64]
    rcases hp : Lib.parseUintM 18446744073709551615 0 l with u | _ | _
    · obtain ⟨h1, h2, h3⟩ := parse_inv l 0 u (by omega) hp
      subst h2
      by_cases hc : canon l
      · rw [if_pos ⟨hc, h3⟩]; simp only; rw [if_pos (dec_of_canon _ l rfl hc)]
      · rw [if_neg (by intro h; exact hc h.1)]; simp only; rw [if_neg (by intro h; apply hc; rw [← h]; exact canon_dec _)]
    · rw [if_neg]
      rintro ⟨hc, hv⟩
      rw [parse_ok l 0 hc.2.1 hv] at hp; cases hp
    · rw [if_neg]
      rintro ⟨hc, hv⟩
      rw [parse_ok l 0 hc.2.1 hv] at hp; cases hp
theorem dval_take (l : List UInt8) (k : Nat) : dval 0 l = dval (dval 0 (l.take k)) (l.drop k) := by
  conv => lhs; rw [← List.take_append_drop k l]
  exact List.foldl_append ..
theorem dval_step (l : List UInt8) (k : Nat) (h : k < l.length) : dval 0 (l.take (k + 1)) = dval 0 (l.take k) * 10 + (l[k].toNat - 48) := by
  rw [List.take_succ_eq_append_getElem h, dval_snoc]
theorem digV_bad {l : List UInt8} {k : Nat} (h : k < l.length) (hd : ¬ isD l[k]) : digV l = (0, false) := if_neg fun hc => hd (hc.1.2.1 _ (List.getElem_mem h))
theorem digV_over {l : List UInt8} {k : Nat} (h : 18446744073709551616 ≤ dval 0 (l.take k)) : digV l = (0, false) :=
  if_neg fun hc => by have := dval_take l k; have := dval_ge (l.drop k) (dval 0 (l.take k)); omega
theorem dval_pow (r : List UInt8) : ∀ a, a * 10 ^ r.length ≤ dval a r := by
  induction r with
  | nil => intro a; simp [dval]
  | cons c r ih =>
    intro a
    rw [dval_cons, List.length_cons, Nat.pow_succ]
    refine Nat.le_trans ?_ (ih _)
    rw [Nat.mul_comm (10 ^ r.length) 10, ← Nat.mul_assoc]
    exact Nat.mul_le_mul_right _ (by omega)
theorem digV_long {l : List UInt8} (h : 20 < l.length) : digV l = (0, false) := if_neg fun hc => by
  obtain ⟨hc, hv⟩ := hc
  cases l with
  | nil => simp at h
  | cons c r =>
    have hp := dval_pow r (0 * 10 + (c.toNat - 48))
    rw [← dval_cons] at hp
    have hd := hc.2.1 c (by simp)
    have : c.toNat ≠ 48 := fun e => by
      rcases hc.2.2 with h2 | h2
      · simp at h2; subst h2; simp at h
      · exact h2 (by simp; exact UInt8.toNat_inj.1 e)
    have hl : 20 ≤ r.length := by simp at h; omega
    have h10 : 10 ^ 20 ≤ 10 ^ r.length := Nat.pow_le_pow_right (by decide) hl
    have e20 : (10 : Nat) ^ 20 = 100000000000000000000 := by decide
    unfold isD at hd
    have h1 : 1 * 10 ^ r.length ≤ (0 * 10 + (c.toNat - 48)) * 10 ^ r.length := Nat.mul_le_mul_right _ (by omega)
    omega
theorem digV_nil : digV [] = (0, false) := if_neg fun hc => hc.1.1 rfl
theorem digV_zero {l : List UInt8} (h : 1 < l.length) (h0 : l.head? = some 48) : digV l = (0, false) := if_neg fun hc => by
  rcases hc.1.2.2 with h2 | h2
  · omega
  · exact h2 h0
theorem digV_ok {l : List UInt8} (h : l ≠ []) (hd : ∀ k (h : k < l.length), isD l[k]) (hh : l.length = 1 ∨ l.head? ≠ some 48) (hv : dval 0 l < 18446744073709551616) : digV l = (((dval 0 l : Nat) : Int), true) :=
  if_pos ⟨⟨h, fun c hc => by obtain ⟨k, hk, rfl⟩ := List.getElem_of_mem hc; exact hd k hk, hh⟩, hv⟩
end Go.Proofs.YtlmmkaddlflepaaGreatDoor.Plain
