/- strconv.FormatUint at base 16: the numeral, for every uint64. Condition: one cell of the table of trailing zeros is as laid. -/
import Derived.Test.YthkeapopockbkaaDoorShelf
import Derived.Lib.Walk
import Derived.Lib.ItoaMem
import Derived.Lib.ItoaWalk
import Derived.Lib.AppendIntMem
import Derived.WalkKit
import Derived.BigCall
import Derived.BigGuard
namespace Go.Proofs
open Go.Shelf Go.RowKit Go.Sort Go.Lib

set_option maxHeartbeats 6400000 in
set_option maxRecDepth 100000 in
/-- bits.TrailingZeros at 16; the table's cell stands in the variable's block (7 in this dump). -/
theorem Tryd.tz16 (w : World) (hc : w.cell? ⟨7, 15, none⟩ = some (.int .u8 4)) :
    Calls Tryd.prog 65 #[.int .u64 16] w fun e w' => e = .returned (.int .i64 4) ∧ w' = w := by
  have key : IntKind.u64.wrap (bits BinOp.and IntKind.u64 16 (IntKind.u64.wrap (-16)) * 285870213051353865) / 288230376151711744 = 15 := by decide
  go_enter Tryd.func65, Tryd.ntmps65
  go_wp2
  go_ret
  exact ⟨rfl, rfl⟩
/-- A hexadecimal digit. -/
def hexD (d : Nat) : UInt8 := UInt8.ofNat (if d < 10 then 48 + d else 87 + d)
/-- A number's hexadecimal numeral. -/
def hexL (u : Nat) : List UInt8 := if _h : u < 16 then [hexD u] else hexL (u / 16) ++ [hexD (u % 16)]
termination_by u
decreasing_by omega
theorem hexL_small (u : Nat) (h : u < 16) : hexL u = [hexD u] := by rw [hexL, dif_pos h]
theorem hexL_great (u : Nat) (h : ¬ u < 16) : hexL u = hexL (u / 16) ++ [hexD (u % 16)] := by rw [hexL, dif_neg h]
def HexInv (u i v : Nat) (dk : Array UInt8) : Prop := dk.size = 65 ∧ 49 ≤ i ∧ i ≤ 65 ∧ v = u / 16 ^ (65 - i) ∧ hexL u = hexL v ++ dk.toList.drop i
theorem hex_start (u : Nat) : HexInv u 65 u (Array.replicate 65 0) := ⟨by simp, by decide, by decide, by simp, by simp⟩
theorem drop_set (l : List UInt8) (j : Nat) (x : UInt8) (h : j < l.length) : (l.set j x).drop j = x :: l.drop (j + 1) := by
  have h2 : j < (l.set j x).length := by simpa using h
  rw [List.drop_eq_getElem_cons h2, List.getElem_set_self, List.drop_set_of_lt (by omega)]
theorem hex_i (u i v : Nat) (dk : Array UInt8) (hu : u < 18446744073709551616) (h : HexInv u i v dk) (hv : 16 ≤ v) : 50 ≤ i := by
  obtain ⟨_, h2, _, h4, _⟩ := h
  rcases Nat.lt_or_ge i 50 with c | c
  · have e : i = 49 := by omega
    subst e
    have : u / 16 ^ (65 - 49) = 0 := by
      apply Nat.div_eq_of_lt
      have : (16 : Nat) ^ (65 - 49) = 18446744073709551616 := by decide
      omega
    omega
  · exact c
theorem hex_step (u i v : Nat) (dk : Array UInt8) (hu : u < 18446744073709551616) (h : HexInv u i v dk) (hv : 16 ≤ v) : HexInv u (i - 1) (v / 16) (dk.setIfInBounds (i - 1) (hexD (v % 16))) := by
  have hi := hex_i u i v dk hu h hv
  obtain ⟨h1, h2, h3, h4, h5⟩ := h
  refine ⟨by simpa using h1, by omega, by omega, ?_, ?_⟩
  · rw [h4, Nat.div_div_eq_div_mul, ← Nat.pow_succ]
    congr 2; omega
  · rw [h5, hexL_great v (by omega), Array.toList_setIfInBounds, drop_set _ _ _ (by rw [Array.length_toList, h1]; omega), List.append_assoc, show i - 1 + 1 = i by omega]
    rfl
theorem hex_end (u i v : Nat) (dk : Array UInt8) (h : HexInv u i v dk) (hv : v < 16) : hexL u = (dk.setIfInBounds (i - 1) (hexD v)).toList.drop (i - 1) := by
  obtain ⟨h1, h2, h3, h4, h5⟩ := h
  rw [h5, hexL_small v hv, Array.toList_setIfInBounds, drop_set _ _ _ (by rw [Array.length_toList, h1]; omega), show i - 1 + 1 = i by omega]
  rfl
set_option maxHeartbeats 6400000 in
set_option maxRecDepth 100000 in
theorem digs (d : Nat) (h : d < 16) : ∀ (k : Nat) (hk : k < (⟨#[48, 49, 50, 51, 52, 53, 54, 55, 56, 57, 97, 98, 99, 100, 101, 102, 103, 104, 105, 106, 107, 108, 109, 110, 111, 112, 113, 114, 115, 116, 117, 118, 119, 120, 121, 122]⟩ : ByteArray).size), k = d → (⟨#[48, 49, 50, 51, 52, 53, 54, 55, 56, 57, 97, 98, 99, 100, 101, 102, 103, 104, 105, 106, 107, 108, 109, 110, 111, 112, 113, 114, 115, 116, 117, 118, 119, 120, 121, 122]⟩ : ByteArray)[k] = hexD d := by
  rintro k hk rfl
  have : k = 0 ∨ k = 1 ∨ k = 2 ∨ k = 3 ∨ k = 4 ∨ k = 5 ∨ k = 6 ∨ k = 7 ∨ k = 8 ∨ k = 9 ∨ k = 10 ∨ k = 11 ∨ k = 12 ∨ k = 13 ∨ k = 14 ∨ k = 15 := by omega
  rcases this with rfl | rfl | rfl | rfl | rfl | rfl | rfl | rfl | rfl | rfl | rfl | rfl | rfl | rfl | rfl | rfl <;> rfl
set_option maxHeartbeats 6400000 in
set_option maxRecDepth 100000 in
/-- formatBits at base 16: the hexadecimal numeral. -/
theorem Tryd.formatBits_16 (u : Nat) (hu64 : u < 18446744073709551616) (w : World) (hc : ∀ o : Obj, (w.alloc o).cell? ⟨7, 15, none⟩ = some (.int .u8 4)) :
    Calls Tryd.prog 47 #[.slice none 0 0, .int .u64 u, .int .i64 16, .bool false, .bool false] w fun e w' => e = .returned (.tuple #[.slice none 0 0, .string ⟨(hexL u).toArray⟩]) ∧ ∃ k os, w' = grow (w.drewN k) os := by
  have b1 : (bits BinOp.and IntKind.i64 16 15 == 0) = true := by decide
  have hH : Holds (fun (b : UInt8) => Value.int .u8 (b.toNat : Int)) (w.alloc (.cells Tryd.zeroCells85 85)) w.heap.size 0 (Array.replicate 65 0) := fun k hk => by
    have hk' : k < 65 := by simpa using hk
    refine ⟨?_, World.frozen?_alloc_new _ _ _ _⟩
    have e : Tryd.zeroCells85 = Array.replicate 65 (.int .u8 0) := rfl
    rw [Nat.zero_add, World.cell?_alloc_new, e, Array.getElem?_replicate, if_pos hk', getElem!_pos _ k hk]
    simp
  have HH := Lib.hid hH
  clear hH
  go_enter Tryd.func47, Tryd.ntmps47
  go_wp2_with (first | (go_at_call 65; refine (Tryd.tz16 _ (hc _)).mono ?_; rintro e w' ⟨rfl, rfl⟩) | go_in)
  go_loopw [1, 13] (fun vu vi wr => ∃ (i v n : Nat) (dk : Array UInt8), vu = .int .u64 v ∧ vi = .int .i64 i ∧ wr = (putRow (fun (b : UInt8) => Value.int .u8 (b.toNat : Int)) (w.alloc (.cells Tryd.zeroCells85 85)) w.heap.size 0 dk).drewN n ∧ Hid (HexInv u i v dk)) (fun vu _ _ => (RowKit.intOf vu).toNat)
  case atStart => exact ⟨65, u, 0, _, rfl, rfl, (putRow_self _ _ _ _ _ HH.out).symm, Lib.hid (hex_start u)⟩
  case round =>
    obtain ⟨i, v, n, dk0, rfl, rfl, hw0, HI0⟩ := hrel
    rename World => W0
    have hv64 : v < 18446744073709551616 := by have := HI0.out.2.2.2.1; have := Nat.div_le_self u (16 ^ (65 - i)); omega
    have hi1 := HI0.out.2.1
    have hi2 := HI0.out.2.2.1
    have hs0 := HI0.out.1
    have hH0 : Holds (fun (b : UInt8) => Value.int .u8 (b.toNat : Int)) W0 w.heap.size 0 dk0 := by rw [hw0]; exact holds_putRow _ (w.alloc (.cells Tryd.zeroCells85 85)) w.heap.size 0 (Array.replicate 65 0) dk0 HH.out (by rw [hs0]; simp)
    have hc0 : ∃ x, W0.cell? ⟨w.heap.size, (i - 1), none⟩ = some (.int .u8 x) := ⟨_, by have := (hH0 (i - 1) (by omega)).1; rw [Nat.zero_add] at this; exact this⟩
    obtain ⟨x0, hc0⟩ := hc0
    have hf0 : W0.frozen? ⟨w.heap.size, (i - 1), none⟩ = false := by have := (hH0 (i - 1) (by omega)).2; rw [Nat.zero_add] at this; exact this
    have AW0 := Lib.hid hw0
    clear hw0 hH0
    obtain ⟨j, rfl⟩ : ∃ j, i = j + 1 := ⟨i - 1, by omega⟩
    rw [show j + 1 - 1 = j from rfl] at hc0 hf0
    have hw1 : wrap64 (((j + 1 : Nat) : Int) - 1) = (j : Int) := by unfold wrap64; omega
    have hand : bits BinOp.and IntKind.u64 (v : Int) 15 = ((v % 16 : Nat) : Int) := by
      have := bits_and_u64_nat v 15 hv64 (by decide)
      rw [show ((15 : Nat) : Int) = 15 from rfl] at this
      rw [this, show (15 : Nat) = 2 ^ 4 - 1 from rfl, Nat.and_two_pow_sub_one_eq_mod]
    have hlt : (((v % 16 : Nat) : Int) < 36) := by omega
    have hge : (0 ≤ ((v % 16 : Nat) : Int)) := by omega
    have hal : Tryd.prog.arrayLen 85 = 65 := by simp [Program.arrayLen, Tryd.underlying85]
    have hsl : ∀ W, (Instr.sliceAt 85 (.pointer (some ⟨w.heap.size, 0, none⟩)) (some (.int .i64 (j : Int))) none none).run Tryd.prog W = .ok (.slice (some ⟨w.heap.size, j, none⟩) (65 - j) (65 - j)) W := fun W => by
      rw [run_sliceAt_array_l W 85 ⟨w.heap.size, 0, none⟩ (by simp [Program.arrayLen, Program.elem, Tryd.underlying85]) .i64 (j : Int) (by omega) (by rw [hal]; omega)]
      go_simp
      try omega
    by_cases hv : v < 16
    · have hv2 : ¬ (16 ≤ (v : Int)) := by omega
      have hd : ∀ hk, (⟨#[48, 49, 50, 51, 52, 53, 54, 55, 56, 57, 97, 98, 99, 100, 101, 102, 103, 104, 105, 106, 107, 108, 109, 110, 111, 112, 113, 114, 115, 116, 117, 118, 119, 120, 121, 122]⟩ : ByteArray)[v]'hk = hexD v := fun hk => digs v hv v hk rfl
      have hW : W0.setCell ⟨w.heap.size, j, none⟩ (.int .u8 ((hexD v).toNat : Int)) = (putRow (fun (b : UInt8) => Value.int .u8 (b.toNat : Int)) (w.alloc (.cells Tryd.zeroCells85 85)) w.heap.size 0 (dk0.setIfInBounds j (hexD v))).drewN n := by
        rw [AW0.out]
        have := store1_world (w.alloc (.cells Tryd.zeroCells85 85)) w.heap.size 0 dk0 n j (hexD v) (by omega)
        rw [Nat.zero_add] at this
        exact this
      have hE := hex_end u (j + 1) v dk0 HI0.out hv
      rw [Nat.add_sub_cancel] at hE
      have hlen : (hexL u).length = 65 - j := by rw [hE]; simp [hs0]
      have hcv : (convert 45 9 (.slice (some ⟨w.heap.size, j, none⟩) (65 - j) (65 - j))).run Tryd.prog (W0.setCell ⟨w.heap.size, j, none⟩ (.int .u8 ((hexD v).toNat : Int))) = .ok (.string ⟨(hexL u).toArray⟩) (W0.setCell ⟨w.heap.size, j, none⟩ (.int .u8 ((hexD v).toNat : Int))) := by
        have h := run_convert_bytes_back (P := Tryd.prog) (W0.setCell ⟨w.heap.size, j, none⟩ (.int .u8 ((hexD v).toNat : Int))) 45 9 5 ⟨w.heap.size, j, none⟩ (65 - j) (hexL u) Tryd.underlying45 Tryd.underlying5 Tryd.underlying9 (fun t ht => by
          have ht2 : t < 65 - j := by omega
          rw [hW, Lib.add_plain, World.cell?_drewN]
          have hx : (hexL u)[t] = (dk0.setIfInBounds j (hexD v))[j + t]! := by
            have : (hexL u)[t]? = (dk0.setIfInBounds j (hexD v))[j + t]? := by rw [hE, List.getElem?_drop, Array.getElem?_toList]
            rw [List.getElem?_eq_getElem ht, Array.getElem?_eq_getElem (by simp [hs0]; omega)] at this
            rw [Option.some.inj this, getElem!_pos _ _ (by simp [hs0]; omega)]
          rw [hx]
          have := cell?_putRow (fun (b : UInt8) => Value.int .u8 (b.toNat : Int)) (w.alloc (.cells Tryd.zeroCells85 85)) w.heap.size 0 (Array.replicate 65 0) (dk0.setIfInBounds j (hexD v)) HH.out (by simp [hs0]) (j + t) (by simp [hs0]; omega)
          rw [Nat.zero_add] at this
          exact this)
        rw [hlen] at h
        exact h
      rw [hW] at hcv
      clear hand hlt hge
      go_wp2
      go_ret2
      obtain ⟨os, eo⟩ := Lib.fin_at w (.cells Tryd.zeroCells85 85) (dk0.setIfInBounds j (hexD v)) n 0
      exact ⟨rfl, n, os, eo⟩
    · have hv2 : 16 ≤ (v : Int) := by omega
      have hd : ∀ hk, (⟨#[48, 49, 50, 51, 52, 53, 54, 55, 56, 57, 97, 98, 99, 100, 101, 102, 103, 104, 105, 106, 107, 108, 109, 110, 111, 112, 113, 114, 115, 116, 117, 118, 119, 120, 121, 122]⟩ : ByteArray)[v % 16]'hk = hexD (v % 16) := fun hk => digs (v % 16) (by omega) (v % 16) hk rfl
      go_wp2
      have hS := Lib.hid (hex_step u (j + 1) v dk0 hu64 HI0.out (by omega))
      refine ⟨⟨j, v / 16, n, dk0.setIfInBounds j (hexD (v % 16)), by rw [show ((v : Int) / 16) = ((v / 16 : Nat) : Int) by omega], rfl, ?_, hS⟩, ?_⟩
      · rw [AW0.out]
        have := store1_world (w.alloc (.cells Tryd.zeroCells85 85)) w.heap.size 0 dk0 n j (hexD (v % 16)) (by omega)
        rw [Nat.zero_add] at this
        exact this
      · show ((v : Int) / 16).toNat < (v : Int).toNat
        omega
set_option maxHeartbeats 6400000 in
set_option maxRecDepth 100000 in
theorem Tryd.internal_FormatUint_16 (u : Nat) (hu64 : u < 18446744073709551616) (w : World) (hc : ∀ o : Obj, (w.alloc o).cell? ⟨7, 15, none⟩ = some (.int .u8 4)) :
    Calls Tryd.prog 28 #[.int .u64 u, .int .i64 16] w fun e w' => e = .returned (.string ⟨(hexL u).toArray⟩) ∧ ∃ k os, w' = grow (w.drewN k) os := by
  go_enter Tryd.func28, Tryd.ntmps28
  go_wp2_with (go_at_call 47; refine (Tryd.formatBits_16 u hu64 _ hc).mono ?_; rintro e w' ⟨rfl, k, os, rfl⟩)
  go_ret
  exact ⟨rfl, k, os, rfl⟩
set_option maxHeartbeats 6400000 in
set_option maxRecDepth 100000 in
theorem Tryd.FormatUint_16 (u : Nat) (hu64 : u < 18446744073709551616) (w : World) (hc : ∀ o : Obj, (w.alloc o).cell? ⟨7, 15, none⟩ = some (.int .u8 4)) :
    Calls Tryd.prog 15 #[.int .u64 u, .int .i64 16] w fun e w' => e = .returned (.string ⟨(hexL u).toArray⟩) ∧ ∃ k os, w' = grow (w.drewN k) os := by
  go_enter Tryd.func15, Tryd.ntmps15
  go_wp2_with (go_at_call 28; refine (Tryd.internal_FormatUint_16 u hu64 _ hc).mono ?_; rintro e w' ⟨rfl, k, os, rfl⟩)
  go_ret
  exact ⟨rfl, k, os, rfl⟩
end Go.Proofs
