/- Plain facts of arithmetic on values: a number of a sign and a size, what a kind holds, the answers of every operation. No program in sight; no condition. -/
import Derived.Test.YtlmmkaddlflepaaPOrdPlain
namespace Go.Proofs.Ytlmmkaddlflepaa.Plain
open Go.RowKit Go.Proofs.YtlmmkaddlflepaaW.PrintWords Go.Proofs.YtlmmkaddlflepaaW.PrintLast Go.Proofs.YtlmmkaddlflepaaW.PrintMore

/-- A number of a sign and a size. -/
def numW (m : Bool) (s : Int) : Int := if m = true then -s else s
/-- The value of a kind with a number, if the kind holds it. -/
def arV (k z : Int) : Int × Int × ByteArray × Int :=
  if signedB k = true then (if (-9223372036854775808 ≤ z ∧ z ≤ 9223372036854775807) ∧ fitsB k (z % 18446744073709551616) = true then (k, z % 18446744073709551616, ⟨#[]⟩, 0) else (0, 0, ⟨#[]⟩, 1))
  else (if (0 ≤ z ∧ z < 18446744073709551616) ∧ fitsB k z = true then (k, z, ⟨#[]⟩, 0) else (0, 0, ⟨#[]⟩, 1))
theorem of_ar (m : Bool) (s k : Int) (h0 : 0 ≤ s) (h1 : s < 18446744073709551616) : ofV m s k 1 = arV k (numW m s) := by
  unfold ofV arV numW
  cases m
  · have e : s % 18446744073709551616 = s := by omega
    have e2 : (0 ≤ s ∧ s < 18446744073709551616) = True := by simp; omega
    cases hk : signedB k
    · simp [e2]
    · by_cases c : s > 9223372036854775807
      · have d : ¬ s ≤ 9223372036854775807 := by omega
        simp [c, d]
      · have d : s ≤ 9223372036854775807 := by omega
        have d2 : -9223372036854775808 ≤ s := by omega
        simp [c, d, d2, e]
  · by_cases p : s > 0
    · cases hk : signedB k
      · have d : ¬ ((0 ≤ -s ∧ -s < 18446744073709551616) ∧ fitsB k (-s) = true) := by omega
        simp only [p, if_true, true_and, Bool.false_eq_true, if_false, false_and, d]
      · have d : (-9223372036854775808 ≤ -s ∧ -s ≤ 9223372036854775807) ↔ s ≤ 9223372036854775808 := by omega
        simp only [p, if_true, true_and, d]
    · have z : s = 0 := by omega
      subst z
      simp
theorem ar_out (k z : Int) (h : z ≤ -18446744073709551616 ∨ 18446744073709551616 ≤ z) : arV k z = (0, 0, ⟨#[]⟩, 1) := by
  unfold arV
  rw [if_neg (c := (-9223372036854775808 ≤ z ∧ z ≤ 9223372036854775807) ∧ _) (by omega), if_neg (c := (0 ≤ z ∧ z < 18446744073709551616) ∧ _) (by omega)]
  simp
theorem ar_time (k z : Int) (hk : k = 16 ∨ k = 17) (h : -9223372036854775808 ≤ z ∧ z ≤ 9223372036854775807) : (if fitsB k (z % 18446744073709551616) = true then (k, z % 18446744073709551616, (⟨#[]⟩ : ByteArray), (0 : Int)) else (0, 0, ⟨#[]⟩, 1)) = arV k z := by
  unfold arV
  have s : signedB k = false := by rcases hk with rfl | rfl <;> decide
  rw [s]
  simp only [Bool.false_eq_true, if_false]
  by_cases c : 0 ≤ z
  · have e : z % 18446744073709551616 = z := by omega
    have e2 : z < 18446744073709551616 := by omega
    simp [e, c, e2]
  · have f : fitsB k (z % 18446744073709551616) = false := by
      unfold fitsB
      rcases hk with rfl | rfl <;> simp <;> omega
    simp [f, c]
theorem ar_time_out (k z : Int) (hk : k = 16 ∨ k = 17) (h : ¬ (-9223372036854775808 ≤ z ∧ z ≤ 9223372036854775807)) : arV k z = (0, 0, ⟨#[]⟩, 1) := by
  unfold arV
  have s : signedB k = false := by rcases hk with rfl | rfl <;> decide
  rw [s]
  simp only [Bool.false_eq_true, if_false]
  rw [if_neg]
  rintro ⟨h1, h2⟩
  have := of_decide_eq_true h2
  omega
/-- What an operation on two numbers is. -/
def opZ (op x y : Int) : Int := if op = 1 then x + y else if op = 2 then x - y else if op = 3 then x * y else if op = 4 then Int.tdiv x y else Int.tmod x y
/-- The answer of an operation on two numbers in a kind. -/
def zV (op k x y : Int) : Int × Int × ByteArray × Int := if (op = 4 ∨ op = 5) ∧ y = 0 then (0, 0, ⟨#[]⟩, 2) else arV k (opZ op x y)
theorem num_zero (m : Bool) (s : Int) : numW m s = 0 ↔ s = 0 := by unfold numW; cases m <;> simp
theorem num_times (m n : Bool) (s t : Int) : numW (m != n) (s * t) = numW m s * numW n t := by
  unfold numW; cases m <;> cases n <;> simp [Int.neg_mul, Int.mul_neg]
theorem num_div (m n : Bool) (s t : Int) : numW (m != n) (Int.tdiv s t) = Int.tdiv (numW m s) (numW n t) := by
  unfold numW; cases m <;> cases n <;> simp [Int.neg_tdiv, Int.tdiv_neg]
theorem num_mod (m n : Bool) (s t : Int) : numW m (Int.tmod s t) = Int.tmod (numW m s) (numW n t) := by
  unfold numW; cases m <;> cases n <;> simp [Int.neg_tmod, Int.tmod_neg]
theorem num_neg (n : Bool) (t : Int) : numW (!n) t = - numW n t := by
  unfold numW; cases n <;> simp
/-- An integer's number. -/
def numK (a b : Int) : Int := if 6 ≤ a ∧ a ≤ 9 then b else wrap64 b
/-- The kind of an operation with times; 0: none. -/
def spanK (op a c : Int) : Int :=
  if (op = 1 ∨ op = 2) ∧ c = 14 ∧ (a = 14 ∨ a = 17 ∨ a = 16) then a else if op = 2 ∧ a = c ∧ 14 ≤ a ∧ a ≤ 17 then 14 else if (op = 3 ∨ op = 4) ∧ a = 14 ∧ c = 5 then 14 else 0
/-- Below, equal, above. -/
def ordV (a b : Int) (t : ByteArray) (d : Int) (u : ByteArray) : Bool × Bool × Bool :=
  if a = 19 then (Op.bytesLess t.toList u.toList, t.toList == u.toList, Op.bytesLess u.toList t.toList)
  else if a = 18 then (FloatKind.f64.format.order b.toNat d.toNat == some Ordering.lt, FloatKind.f64.format.order b.toNat d.toNat == some Ordering.eq, FloatKind.f64.format.order b.toNat d.toNat == some Ordering.gt)
  else if signedB a = true then (decide (wrap64 b < wrap64 d), wrap64 b == wrap64 d, decide (wrap64 b > wrap64 d))
  else (decide (b < d), b == d, decide (b > d))
/-- The answer of a comparison. -/
def cmpB (op : Int) (o : Bool × Bool × Bool) : Bool := if op = 9 then o.2.1 else if op = 10 then !o.2.1 else if op = 11 then o.1 else if op = 12 then (o.1 || o.2.1) else if op = 13 then o.2.2 else (o.2.2 || o.2.1)
/-- The answer of an operation on two floats' bits. -/
def fltB (op : BinOp) (x y : Nat) : Int := match floatBits op .f64 x y with | none => 9221120237041090561 | some r => if (FloatKind.f64.format.order r r != some Ordering.eq) = true then 9221120237041090561 else Int.ofNat r
/-- The answer of an operation on two values: kind, bits, text, fault. -/
def reckV (op a b : Int) (t : ByteArray) (c d : Int) (u : ByteArray) : Int × Int × ByteArray × Int :=
  if mayB a b t = true ∧ mayB c d u = true then
    (if 9 ≤ op ∧ op ≤ 14 ∧ a = c then (1, if cmpB op (ordV a b t d u) = true then 1 else 0, ⟨#[]⟩, 0)
    else if 6 ≤ op ∧ op ≤ 8 ∧ a = c ∧ (a = 1 ∨ (10 ≤ a ∧ a ≤ 13)) then (a, if op = 6 then Go.bits .and .u64 b d else if op = 7 then Go.bits .or .u64 b d else Go.bits .xor .u64 b d, ⟨#[]⟩, 0)
    else if 1 ≤ op ∧ op ≤ 5 ∧ a = c ∧ 2 ≤ a ∧ a ≤ 9 then zV op a (numK a b) (numK a d)
    else if 1 ≤ op ∧ op ≤ 4 ∧ a = c ∧ a = 18 then (18, if op = 1 then fltB .add b.toNat d.toNat else if op = 2 then fltB .sub b.toNat d.toNat else if op = 3 then fltB .mul b.toNat d.toNat else fltB .quo b.toNat d.toNat, ⟨#[]⟩, 0)
    else if spanK op a c = 0 then (0, 0, ⟨#[]⟩, 8) else zV op (spanK op a c) (wrap64 b) (wrap64 d))
  else (0, 0, ⟨#[]⟩, 8)
/-- The kind that the table has for an operation on two kinds; 0: it has no line. -/
def resK (op a c : Int) : Int :=
  if 9 ≤ op ∧ op ≤ 14 ∧ a = c ∧ 1 ≤ a ∧ a ≤ 19 then 1
  else if 1 ≤ op ∧ op ≤ 5 ∧ a = c ∧ 2 ≤ a ∧ a ≤ 9 then a
  else if 1 ≤ op ∧ op ≤ 4 ∧ a = c ∧ a = 18 then a
  else if 6 ≤ op ∧ op ≤ 8 ∧ a = c ∧ (a = 1 ∨ (10 ≤ a ∧ a ≤ 13)) then a
  else spanK op a c
theorem tdiv_gt (s t : Int) (hs : 0 < s) : t > Int.tdiv 18446744073709551615 s ↔ s * t ≥ 18446744073709551616 := by
  rw [Int.tdiv_eq_ediv_of_nonneg (by decide)]
  have := Int.ediv_lt_iff_lt_mul (a := 18446744073709551615) (b := t) hs
  rw [show t * s = s * t from Int.mul_comm _ _] at this
  omega
end Go.Proofs.Ytlmmkaddlflepaa.Plain
