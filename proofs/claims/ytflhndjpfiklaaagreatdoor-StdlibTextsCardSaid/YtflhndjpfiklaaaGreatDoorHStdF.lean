/- The standard functions' table in memory. Condition: none. -/
import Derived.Test.YtflhndjpfiklaaaGreatDoorHStdE
namespace Go.Proofs.YtflhndjpfiklaaaGreatDoor.H
set_option linter.unusedVariables false
set_option linter.unusedSimpArgs false
open Go.RowKit Go.Proofs.YtflhndjpfiklaaaGreatDoor.Plain
set_option maxHeartbeats 60000000
set_option maxRecDepth 100000
attribute [local go_sem] ext_from ext_bits cell_isSome un_neg_float
/-- The table with one entry more. -/
def Added (w' : World) (B L k : Nat) (xs : List Value) (p g d : Value) : Prop := ∃ ys, Tab w' B L (k + 1) ys ∧ Named ys (k + 1) ∧ (∀ (i : Nat) (v : Value), xs[i]? = some v → ys[i]? = some v) ∧ ys[k * 4 + 1]? = some p ∧ ys[k * 4 + 2]? = some g ∧ ys[k * 4 + 3]? = some d
theorem c_add2 (B L k : Nat) (xs : List Value) (nm : ByteArray) (pf gf df : Fn) (pa pc ga gc da dc : Array Value) (w : World) (hT : Tab w B L k xs) (hN : Named xs k) (hn : fnames.getD k ⟨#[]⟩ = nm) (hk0 : 1 ≤ k) (hk : k ≤ 1000) (hB : B ≤ w.heap.size) :
    Calls Tryz.prog 28 #[.string nm, .func pf pa pc, .func gf ga gc, .func df da dc, .pointer (some ⟨L, 0, none⟩)] w fun e w' => e = .returned (.tuple #[]) ∧ Added w' B L k xs (.func pf pa pc) (.func gf ga gc) (.func df da dc) ∧ Kp L w w' ∧ Below B w w' :=
  (c_add B L k xs nm pf gf df pa pc ga gc da dc w hT hk hB).mono fun e w' ⟨he, h1, h2, h3⟩ => ⟨he, ⟨_, h1, named_step hN hk0 hn (fnv _ _ _) (fnv _ _ _) (fnv _ _ _), fun i v h => got_app h, got_new hN rfl, got_new hN rfl, got_new hN rfl⟩, h2, h3⟩
theorem c_functions (w : World) : Calls Tryz.prog 19 #[] w fun e w' => ∃ v xs, e = .returned v ∧ Table w' w.heap.size v xs ∧ Below w.heap.size w w' := by
  have hmf : ∀ (fn : Fn) (first cap : Array Value) (w : World), (Instr.makeFunc fn first cap).run Tryz.prog w = .ok (.func fn first cap) w := fun _ _ _ _ => rfl
  obtain ⟨i0, hi, hz0, hz1, hz2⟩ := info_parts (show (Tryz.prog.info? 52).map (fun i => (i.zero, i.size, i.bytes)) = some (some (.agg #[.string ⟨#[]⟩, .nilFunc, .nilFunc, .nilFunc]), 4, 40) by kernel_rfl)
  go_enter Tryz.func19, Tryz.ntmps19
  go_wp2_with (first | (go_at_call 29; go_in) | (go_at_call 31; go_in) | (go_at_call 32; go_in) | (go_at_call 34; go_in) | (go_at_call 39; go_in) | (go_at_call 45; go_in) | (go_at_call 55; go_in) | (go_at_call 56; go_in))
  have hb0 : Below w.heap.size w w := Below.refl _ _
  obtain ⟨x0, hxs⟩ : ∃ xs : List Value, [.string ⟨#[]⟩, .nilFunc, .nilFunc, .nilFunc] = xs := ⟨_, rfl⟩
  have hN0 : Named x0 1 := by
    subst hxs
    refine ⟨rfl, fun j hj => ?_⟩
    obtain rfl : j = 0 := by omega
    refine ⟨rfl, fun m m1 m2 => ?_⟩
    rcases (by omega : m = 1 ∨ m = 2 ∨ m = 3) with rfl | rfl | rfl <;> exact ⟨_, rfl, .inr ⟨rfl, rfl⟩⟩
  have hT0 : Tab ((w.alloc (.cells #[.string ⟨#[]⟩, .nilFunc, .nilFunc, .nilFunc] 52 (0, 0))).alloc (.cells #[.slice (some ⟨w.heap.size, 0, none⟩) 1 1] 46 (0, 0))) w.heap.size (w.heap.size + 1) 1 x0 := by
    subst hxs
    exact ⟨by omega, _, k_new (by simp), own_below (World.ownsRow_lit w #[.string ⟨#[]⟩, .nilFunc, .nilFunc, .nilFunc] 1 (Nat.le_refl _) (by decide) rfl) (b_al (Below.refl _ _) _)⟩
  clear hxs
  refine (c_add2 w.heap.size (w.heap.size + 1) 1 x0 _ _ _ _ _ _ _ _ _ _ _ (hT0.go (by repeat (first | exact Below.refl _ _ | with_reducible apply b_al))) hN0 rfl (by decide) (by decide) (by have h := hb0.size; simp; omega)).mono ?_
  rintro e w1 ⟨rfl, ⟨x1, hT1, hN1, hX1, hp1, hg1, hd1⟩, hK1, hB1⟩
  have hb1 : Below w.heap.size w w1 := Below.trans (by repeat (first | exact hb0 | with_reducible apply b_al)) hB1
  clear hT0 hN0 hb0 hB1 hX1 hp1 hg1 hd1 hK1
  go_wp2_with (first | (go_at_call 29; go_in) | (go_at_call 31; go_in) | (go_at_call 32; go_in) | (go_at_call 34; go_in) | (go_at_call 39; go_in) | (go_at_call 45; go_in) | (go_at_call 55; go_in) | (go_at_call 56; go_in))
  refine (c_add2 w.heap.size (w.heap.size + 1) 2 x1 _ _ _ _ _ _ _ _ _ _ _ (hT1.go (by repeat (first | exact Below.refl _ _ | with_reducible apply b_al))) hN1 rfl (by decide) (by decide) (by have h := hb1.size; simp; omega)).mono ?_
  rintro e w2 ⟨rfl, ⟨x2, hT2, hN2, hX2, hp2, hg2, hd2⟩, hK2, hB2⟩
  have hb2 : Below w.heap.size w w2 := Below.trans (by repeat (first | exact hb1 | with_reducible apply b_al)) hB2
  clear hT1 hN1 hb1 hB2 hX2 hp2 hg2 hd2 hK2
  go_wp2_with (first | (go_at_call 29; go_in) | (go_at_call 31; go_in) | (go_at_call 32; go_in) | (go_at_call 34; go_in) | (go_at_call 39; go_in) | (go_at_call 45; go_in) | (go_at_call 55; go_in) | (go_at_call 56; go_in))
  refine (c_add2 w.heap.size (w.heap.size + 1) 3 x2 _ _ _ _ _ _ _ _ _ _ _ (hT2.go (by repeat (first | exact Below.refl _ _ | with_reducible apply b_al))) hN2 rfl (by decide) (by decide) (by have h := hb2.size; simp; omega)).mono ?_
  rintro e w3 ⟨rfl, ⟨x3, hT3, hN3, hX3, hp3, hg3, hd3⟩, hK3, hB3⟩
  have hb3 : Below w.heap.size w w3 := Below.trans (by repeat (first | exact hb2 | with_reducible apply b_al)) hB3
  clear hT2 hN2 hb2 hB3 hX3 hp3 hg3 hd3 hK3
  go_wp2_with (first | (go_at_call 29; go_in) | (go_at_call 31; go_in) | (go_at_call 32; go_in) | (go_at_call 34; go_in) | (go_at_call 39; go_in) | (go_at_call 45; go_in) | (go_at_call 55; go_in) | (go_at_call 56; go_in))
  refine (c_add2 w.heap.size (w.heap.size + 1) 4 x3 _ _ _ _ _ _ _ _ _ _ _ (hT3.go (by repeat (first | exact Below.refl _ _ | with_reducible apply b_al))) hN3 rfl (by decide) (by decide) (by have h := hb3.size; simp; omega)).mono ?_
  rintro e w4 ⟨rfl, ⟨x4, hT4, hN4, hX4, hp4, hg4, hd4⟩, hK4, hB4⟩
  have hb4 : Below w.heap.size w w4 := Below.trans (by repeat (first | exact hb3 | with_reducible apply b_al)) hB4
  clear hT3 hN3 hb3 hB4 hX4 hp4 hg4 hd4 hK4
  go_wp2_with (first | (go_at_call 29; go_in) | (go_at_call 31; go_in) | (go_at_call 32; go_in) | (go_at_call 34; go_in) | (go_at_call 39; go_in) | (go_at_call 45; go_in) | (go_at_call 55; go_in) | (go_at_call 56; go_in))
  refine (c_add2 w.heap.size (w.heap.size + 1) 5 x4 _ _ _ _ _ _ _ _ _ _ _ (hT4.go (by repeat (first | exact Below.refl _ _ | with_reducible apply b_al))) hN4 rfl (by decide) (by decide) (by have h := hb4.size; simp; omega)).mono ?_
  rintro e w5 ⟨rfl, ⟨x5, hT5, hN5, hX5, hp5, hg5, hd5⟩, hK5, hB5⟩
  have hb5 : Below w.heap.size w w5 := Below.trans (by repeat (first | exact hb4 | with_reducible apply b_al)) hB5
  clear hT4 hN4 hb4 hB5 hX5 hp5 hg5 hd5 hK5
  go_wp2_with (first | (go_at_call 29; go_in) | (go_at_call 31; go_in) | (go_at_call 32; go_in) | (go_at_call 34; go_in) | (go_at_call 39; go_in) | (go_at_call 45; go_in) | (go_at_call 55; go_in) | (go_at_call 56; go_in))
  refine (c_add2 w.heap.size (w.heap.size + 1) 6 x5 _ _ _ _ _ _ _ _ _ _ _ (hT5.go (by repeat (first | exact Below.refl _ _ | with_reducible apply b_al))) hN5 rfl (by decide) (by decide) (by have h := hb5.size; simp; omega)).mono ?_
  rintro e w6 ⟨rfl, ⟨x6, hT6, hN6, hX6, hp6, hg6, hd6⟩, hK6, hB6⟩
  have hb6 : Below w.heap.size w w6 := Below.trans (by repeat (first | exact hb5 | with_reducible apply b_al)) hB6
  clear hT5 hN5 hb5 hB6 hX6 hp6 hg6 hd6 hK6
  go_wp2_with (first | (go_at_call 29; go_in) | (go_at_call 31; go_in) | (go_at_call 32; go_in) | (go_at_call 34; go_in) | (go_at_call 39; go_in) | (go_at_call 45; go_in) | (go_at_call 55; go_in) | (go_at_call 56; go_in))
  refine (c_add2 w.heap.size (w.heap.size + 1) 7 x6 _ _ _ _ _ _ _ _ _ _ _ (hT6.go (by repeat (first | exact Below.refl _ _ | with_reducible apply b_al))) hN6 rfl (by decide) (by decide) (by have h := hb6.size; simp; omega)).mono ?_
  rintro e w7 ⟨rfl, ⟨x7, hT7, hN7, hX7, hp7, hg7, hd7⟩, hK7, hB7⟩
  have hb7 : Below w.heap.size w w7 := Below.trans (by repeat (first | exact hb6 | with_reducible apply b_al)) hB7
  clear hT6 hN6 hb6 hB7 hX7 hp7 hg7 hd7 hK7
  go_wp2_with (first | (go_at_call 29; go_in) | (go_at_call 31; go_in) | (go_at_call 32; go_in) | (go_at_call 34; go_in) | (go_at_call 39; go_in) | (go_at_call 45; go_in) | (go_at_call 55; go_in) | (go_at_call 56; go_in))
  refine (c_add2 w.heap.size (w.heap.size + 1) 8 x7 _ _ _ _ _ _ _ _ _ _ _ (hT7.go (by repeat (first | exact Below.refl _ _ | with_reducible apply b_al))) hN7 rfl (by decide) (by decide) (by have h := hb7.size; simp; omega)).mono ?_
  rintro e w8 ⟨rfl, ⟨x8, hT8, hN8, hX8, hp8, hg8, hd8⟩, hK8, hB8⟩
  have hb8 : Below w.heap.size w w8 := Below.trans (by repeat (first | exact hb7 | with_reducible apply b_al)) hB8
  clear hT7 hN7 hb7 hB8 hX8 hp8 hg8 hd8 hK8
  go_wp2_with (first | (go_at_call 29; go_in) | (go_at_call 31; go_in) | (go_at_call 32; go_in) | (go_at_call 34; go_in) | (go_at_call 39; go_in) | (go_at_call 45; go_in) | (go_at_call 55; go_in) | (go_at_call 56; go_in))
  refine (c_add2 w.heap.size (w.heap.size + 1) 9 x8 _ _ _ _ _ _ _ _ _ _ _ (hT8.go (by repeat (first | exact Below.refl _ _ | with_reducible apply b_al))) hN8 rfl (by decide) (by decide) (by have h := hb8.size; simp; omega)).mono ?_
  rintro e w9 ⟨rfl, ⟨x9, hT9, hN9, hX9, hp9, hg9, hd9⟩, hK9, hB9⟩
  have hb9 : Below w.heap.size w w9 := Below.trans (by repeat (first | exact hb8 | with_reducible apply b_al)) hB9
  clear hT8 hN8 hb8 hB9 hX9 hp9 hg9 hd9 hK9
  go_wp2_with (first | (go_at_call 29; go_in) | (go_at_call 31; go_in) | (go_at_call 32; go_in) | (go_at_call 34; go_in) | (go_at_call 39; go_in) | (go_at_call 45; go_in) | (go_at_call 55; go_in) | (go_at_call 56; go_in))
  refine (c_add2 w.heap.size (w.heap.size + 1) 10 x9 _ _ _ _ _ _ _ _ _ _ _ (hT9.go (by repeat (first | exact Below.refl _ _ | with_reducible apply b_al))) hN9 rfl (by decide) (by decide) (by have h := hb9.size; simp; omega)).mono ?_
  rintro e w10 ⟨rfl, ⟨x10, hT10, hN10, hX10, hp10, hg10, hd10⟩, hK10, hB10⟩
  have hb10 : Below w.heap.size w w10 := Below.trans (by repeat (first | exact hb9 | with_reducible apply b_al)) hB10
  clear hT9 hN9 hb9 hB10 hX10 hp10 hg10 hd10 hK10
  go_wp2_with (first | (go_at_call 29; go_in) | (go_at_call 31; go_in) | (go_at_call 32; go_in) | (go_at_call 34; go_in) | (go_at_call 39; go_in) | (go_at_call 45; go_in) | (go_at_call 55; go_in) | (go_at_call 56; go_in))
  refine (c_add2 w.heap.size (w.heap.size + 1) 11 x10 _ _ _ _ _ _ _ _ _ _ _ (hT10.go (by repeat (first | exact Below.refl _ _ | with_reducible apply b_al))) hN10 rfl (by decide) (by decide) (by have h := hb10.size; simp; omega)).mono ?_
  rintro e w11 ⟨rfl, ⟨x11, hT11, hN11, hX11, hp11, hg11, hd11⟩, hK11, hB11⟩
  have hb11 : Below w.heap.size w w11 := Below.trans (by repeat (first | exact hb10 | with_reducible apply b_al)) hB11
  clear hT10 hN10 hb10 hB11 hX11 hp11 hg11 hd11 hK11
  go_wp2_with (first | (go_at_call 29; go_in) | (go_at_call 31; go_in) | (go_at_call 32; go_in) | (go_at_call 34; go_in) | (go_at_call 39; go_in) | (go_at_call 45; go_in) | (go_at_call 55; go_in) | (go_at_call 56; go_in))
  refine (c_add2 w.heap.size (w.heap.size + 1) 12 x11 _ _ _ _ _ _ _ _ _ _ _ (hT11.go (by repeat (first | exact Below.refl _ _ | with_reducible apply b_al))) hN11 rfl (by decide) (by decide) (by have h := hb11.size; simp; omega)).mono ?_
  rintro e w12 ⟨rfl, ⟨x12, hT12, hN12, hX12, hp12, hg12, hd12⟩, hK12, hB12⟩
  have hb12 : Below w.heap.size w w12 := Below.trans (by repeat (first | exact hb11 | with_reducible apply b_al)) hB12
  clear hT11 hN11 hb11 hB12 hX12 hp12 hg12 hd12 hK12
  go_wp2_with (first | (go_at_call 29; go_in) | (go_at_call 31; go_in) | (go_at_call 32; go_in) | (go_at_call 34; go_in) | (go_at_call 39; go_in) | (go_at_call 45; go_in) | (go_at_call 55; go_in) | (go_at_call 56; go_in))
  refine (c_add2 w.heap.size (w.heap.size + 1) 13 x12 _ _ _ _ _ _ _ _ _ _ _ (hT12.go (by repeat (first | exact Below.refl _ _ | with_reducible apply b_al))) hN12 rfl (by decide) (by decide) (by have h := hb12.size; simp; omega)).mono ?_
  rintro e w13 ⟨rfl, ⟨x13, hT13, hN13, hX13, hp13, hg13, hd13⟩, hK13, hB13⟩
  have hb13 : Below w.heap.size w w13 := Below.trans (by repeat (first | exact hb12 | with_reducible apply b_al)) hB13
  clear hT12 hN12 hb12 hB13 hX13 hp13 hg13 hd13 hK13
  go_wp2_with (first | (go_at_call 29; go_in) | (go_at_call 31; go_in) | (go_at_call 32; go_in) | (go_at_call 34; go_in) | (go_at_call 39; go_in) | (go_at_call 45; go_in) | (go_at_call 55; go_in) | (go_at_call 56; go_in))
  refine (c_add2 w.heap.size (w.heap.size + 1) 14 x13 _ _ _ _ _ _ _ _ _ _ _ (hT13.go (by repeat (first | exact Below.refl _ _ | with_reducible apply b_al))) hN13 rfl (by decide) (by decide) (by have h := hb13.size; simp; omega)).mono ?_
  rintro e w14 ⟨rfl, ⟨x14, hT14, hN14, hX14, hp14, hg14, hd14⟩, hK14, hB14⟩
  have hb14 : Below w.heap.size w w14 := Below.trans (by repeat (first | exact hb13 | with_reducible apply b_al)) hB14
  clear hT13 hN13 hb13 hB14 hX14 hp14 hg14 hd14 hK14
  go_wp2_with (first | (go_at_call 29; go_in) | (go_at_call 31; go_in) | (go_at_call 32; go_in) | (go_at_call 34; go_in) | (go_at_call 39; go_in) | (go_at_call 45; go_in) | (go_at_call 55; go_in) | (go_at_call 56; go_in))
  refine (c_add2 w.heap.size (w.heap.size + 1) 15 x14 _ _ _ _ _ _ _ _ _ _ _ (hT14.go (by repeat (first | exact Below.refl _ _ | with_reducible apply b_al))) hN14 rfl (by decide) (by decide) (by have h := hb14.size; simp; omega)).mono ?_
  rintro e w15 ⟨rfl, ⟨x15, hT15, hN15, hX15, hp15, hg15, hd15⟩, hK15, hB15⟩
  have hb15 : Below w.heap.size w w15 := Below.trans (by repeat (first | exact hb14 | with_reducible apply b_al)) hB15
  clear hT14 hN14 hb14 hB15 hX15 hp15 hg15 hd15 hK15
  go_wp2_with (first | (go_at_call 29; go_in) | (go_at_call 31; go_in) | (go_at_call 32; go_in) | (go_at_call 34; go_in) | (go_at_call 39; go_in) | (go_at_call 45; go_in) | (go_at_call 55; go_in) | (go_at_call 56; go_in))
  refine (c_add2 w.heap.size (w.heap.size + 1) 16 x15 _ _ _ _ _ _ _ _ _ _ _ (hT15.go (by repeat (first | exact Below.refl _ _ | with_reducible apply b_al))) hN15 rfl (by decide) (by decide) (by have h := hb15.size; simp; omega)).mono ?_
  rintro e w16 ⟨rfl, ⟨x16, hT16, hN16, hX16, hp16, hg16, hd16⟩, hK16, hB16⟩
  have hb16 : Below w.heap.size w w16 := Below.trans (by repeat (first | exact hb15 | with_reducible apply b_al)) hB16
  clear hT15 hN15 hb15 hB16 hX16 hp16 hg16 hd16 hK16
  go_wp2_with (first | (go_at_call 29; go_in) | (go_at_call 31; go_in) | (go_at_call 32; go_in) | (go_at_call 34; go_in) | (go_at_call 39; go_in) | (go_at_call 45; go_in) | (go_at_call 55; go_in) | (go_at_call 56; go_in))
  refine (c_add2 w.heap.size (w.heap.size + 1) 17 x16 _ _ _ _ _ _ _ _ _ _ _ (hT16.go (by repeat (first | exact Below.refl _ _ | with_reducible apply b_al))) hN16 rfl (by decide) (by decide) (by have h := hb16.size; simp; omega)).mono ?_
  rintro e w17 ⟨rfl, ⟨x17, hT17, hN17, hX17, hp17, hg17, hd17⟩, hK17, hB17⟩
  have hb17 : Below w.heap.size w w17 := Below.trans (by repeat (first | exact hb16 | with_reducible apply b_al)) hB17
  clear hT16 hN16 hb16 hB17 hX17 hp17 hg17 hd17 hK17
  go_wp2_with (first | (go_at_call 29; go_in) | (go_at_call 31; go_in) | (go_at_call 32; go_in) | (go_at_call 34; go_in) | (go_at_call 39; go_in) | (go_at_call 45; go_in) | (go_at_call 55; go_in) | (go_at_call 56; go_in))
  refine (c_add2 w.heap.size (w.heap.size + 1) 18 x17 _ _ _ _ _ _ _ _ _ _ _ (hT17.go (by repeat (first | exact Below.refl _ _ | with_reducible apply b_al))) hN17 rfl (by decide) (by decide) (by have h := hb17.size; simp; omega)).mono ?_
  rintro e w18 ⟨rfl, ⟨x18, hT18, hN18, hX18, hp18, hg18, hd18⟩, hK18, hB18⟩
  have hb18 : Below w.heap.size w w18 := Below.trans (by repeat (first | exact hb17 | with_reducible apply b_al)) hB18
  clear hT17 hN17 hb17 hB18 hX18 hp18 hg18 hd18 hK18
  go_wp2_with (first | (go_at_call 29; go_in) | (go_at_call 31; go_in) | (go_at_call 32; go_in) | (go_at_call 34; go_in) | (go_at_call 39; go_in) | (go_at_call 45; go_in) | (go_at_call 55; go_in) | (go_at_call 56; go_in))
  refine (c_add2 w.heap.size (w.heap.size + 1) 19 x18 _ _ _ _ _ _ _ _ _ _ _ (hT18.go (by repeat (first | exact Below.refl _ _ | with_reducible apply b_al))) hN18 rfl (by decide) (by decide) (by have h := hb18.size; simp; omega)).mono ?_
  rintro e w19 ⟨rfl, ⟨x19, hT19, hN19, hX19, hp19, hg19, hd19⟩, hK19, hB19⟩
  have hb19 : Below w.heap.size w w19 := Below.trans (by repeat (first | exact hb18 | with_reducible apply b_al)) hB19
  clear hT18 hN18 hb18 hB19 hX19 hp19 hg19 hd19 hK19
  go_wp2_with (first | (go_at_call 29; go_in) | (go_at_call 31; go_in) | (go_at_call 32; go_in) | (go_at_call 34; go_in) | (go_at_call 39; go_in) | (go_at_call 45; go_in) | (go_at_call 55; go_in) | (go_at_call 56; go_in))
  refine (c_add2 w.heap.size (w.heap.size + 1) 20 x19 _ _ _ _ _ _ _ _ _ _ _ (hT19.go (by repeat (first | exact Below.refl _ _ | with_reducible apply b_al))) hN19 rfl (by decide) (by decide) (by have h := hb19.size; simp; omega)).mono ?_
  rintro e w20 ⟨rfl, ⟨x20, hT20, hN20, hX20, hp20, hg20, hd20⟩, hK20, hB20⟩
  have hb20 : Below w.heap.size w w20 := Below.trans (by repeat (first | exact hb19 | with_reducible apply b_al)) hB20
  clear hT19 hN19 hb19 hB20 hX20 hp20 hg20 hd20 hK20
  go_wp2_with (first | (go_at_call 29; go_in) | (go_at_call 31; go_in) | (go_at_call 32; go_in) | (go_at_call 34; go_in) | (go_at_call 39; go_in) | (go_at_call 45; go_in) | (go_at_call 55; go_in) | (go_at_call 56; go_in))
  refine (c_add2 w.heap.size (w.heap.size + 1) 21 x20 _ _ _ _ _ _ _ _ _ _ _ (hT20.go (by repeat (first | exact Below.refl _ _ | with_reducible apply b_al))) hN20 rfl (by decide) (by decide) (by have h := hb20.size; simp; omega)).mono ?_
  rintro e w21 ⟨rfl, ⟨x21, hT21, hN21, hX21, hp21, hg21, hd21⟩, hK21, hB21⟩
  have hb21 : Below w.heap.size w w21 := Below.trans (by repeat (first | exact hb20 | with_reducible apply b_al)) hB21
  clear hT20 hN20 hb20 hB21 hX21 hp21 hg21 hd21 hK21
  go_wp2_with (first | (go_at_call 29; go_in) | (go_at_call 31; go_in) | (go_at_call 32; go_in) | (go_at_call 34; go_in) | (go_at_call 39; go_in) | (go_at_call 45; go_in) | (go_at_call 55; go_in) | (go_at_call 56; go_in))
  refine (c_add2 w.heap.size (w.heap.size + 1) 22 x21 _ _ _ _ _ _ _ _ _ _ _ (hT21.go (by repeat (first | exact Below.refl _ _ | with_reducible apply b_al))) hN21 rfl (by decide) (by decide) (by have h := hb21.size; simp; omega)).mono ?_
  rintro e w22 ⟨rfl, ⟨x22, hT22, hN22, hX22, hp22, hg22, hd22⟩, hK22, hB22⟩
  have hb22 : Below w.heap.size w w22 := Below.trans (by repeat (first | exact hb21 | with_reducible apply b_al)) hB22
  clear hT21 hN21 hb21 hB22 hX22 hp22 hg22 hd22 hK22
  go_wp2_with (first | (go_at_call 29; go_in) | (go_at_call 31; go_in) | (go_at_call 32; go_in) | (go_at_call 34; go_in) | (go_at_call 39; go_in) | (go_at_call 45; go_in) | (go_at_call 55; go_in) | (go_at_call 56; go_in))
  refine (c_add2 w.heap.size (w.heap.size + 1) 23 x22 _ _ _ _ _ _ _ _ _ _ _ (hT22.go (by repeat (first | exact Below.refl _ _ | with_reducible apply b_al))) hN22 rfl (by decide) (by decide) (by have h := hb22.size; simp; omega)).mono ?_
  rintro e w23 ⟨rfl, ⟨x23, hT23, hN23, hX23, hp23, hg23, hd23⟩, hK23, hB23⟩
  have hb23 : Below w.heap.size w w23 := Below.trans (by repeat (first | exact hb22 | with_reducible apply b_al)) hB23
  clear hT22 hN22 hb22 hB23 hX23 hp23 hg23 hd23 hK23
  go_wp2_with (first | (go_at_call 29; go_in) | (go_at_call 31; go_in) | (go_at_call 32; go_in) | (go_at_call 34; go_in) | (go_at_call 39; go_in) | (go_at_call 45; go_in) | (go_at_call 55; go_in) | (go_at_call 56; go_in))
  refine (c_add2 w.heap.size (w.heap.size + 1) 24 x23 _ _ _ _ _ _ _ _ _ _ _ (hT23.go (by repeat (first | exact Below.refl _ _ | with_reducible apply b_al))) hN23 rfl (by decide) (by decide) (by have h := hb23.size; simp; omega)).mono ?_
  rintro e w24 ⟨rfl, ⟨x24, hT24, hN24, hX24, hp24, hg24, hd24⟩, hK24, hB24⟩
  have hb24 : Below w.heap.size w w24 := Below.trans (by repeat (first | exact hb23 | with_reducible apply b_al)) hB24
  clear hT23 hN23 hb23 hB24 hX24 hp24 hg24 hd24 hK24
  go_wp2_with (first | (go_at_call 29; go_in) | (go_at_call 31; go_in) | (go_at_call 32; go_in) | (go_at_call 34; go_in) | (go_at_call 39; go_in) | (go_at_call 45; go_in) | (go_at_call 55; go_in) | (go_at_call 56; go_in))
  refine (c_add2 w.heap.size (w.heap.size + 1) 25 x24 _ _ _ _ _ _ _ _ _ _ _ (hT24.go (by repeat (first | exact Below.refl _ _ | with_reducible apply b_al))) hN24 rfl (by decide) (by decide) (by have h := hb24.size; simp; omega)).mono ?_
  rintro e w25 ⟨rfl, ⟨x25, hT25, hN25, hX25, hp25, hg25, hd25⟩, hK25, hB25⟩
  have hb25 : Below w.heap.size w w25 := Below.trans (by repeat (first | exact hb24 | with_reducible apply b_al)) hB25
  have hlt24 := hT24.lt
  have hR25 : RSpec w25 x25 25 true := ⟨_, _, _, hp25, hg25, hd25, ⟨_, _, _, rfl, hK25.keep (by repeat (first | (refine k_new ?_; simp; done) | with_reducible apply k_al)) (by (try simp at hlt24); simp; omega) (by decide)⟩, ⟨_, _, _, _, rfl, hK25.keep (by repeat (first | (refine k_new ?_; simp; done) | with_reducible apply k_al)) (by (try simp at hlt24); simp; omega) (by decide), hK25.keep (by repeat (first | (refine k_new ?_; simp; done) | with_reducible apply k_al)) (by (try simp at hlt24); simp; omega) (by decide), hK25.keep (by repeat (first | (refine k_new ?_; simp; done) | with_reducible apply k_al)) (by (try simp at hlt24); simp; omega) (by decide)⟩, ⟨_, rfl, hK25.keep (by repeat (first | (refine k_new ?_; simp; done) | with_reducible apply k_al)) (by (try simp at hlt24); simp; omega) (by decide)⟩⟩
  clear hT24 hN24 hb24 hB25 hX25 hp25 hg25 hd25 hK25 hlt24
  go_wp2_with (first | (go_at_call 29; go_in) | (go_at_call 31; go_in) | (go_at_call 32; go_in) | (go_at_call 34; go_in) | (go_at_call 39; go_in) | (go_at_call 45; go_in) | (go_at_call 55; go_in) | (go_at_call 56; go_in))
  refine (c_add2 w.heap.size (w.heap.size + 1) 26 x25 _ _ _ _ _ _ _ _ _ _ _ (hT25.go (by repeat (first | exact Below.refl _ _ | with_reducible apply b_al))) hN25 rfl (by decide) (by decide) (by have h := hb25.size; simp; omega)).mono ?_
  rintro e w26 ⟨rfl, ⟨x26, hT26, hN26, hX26, hp26, hg26, hd26⟩, hK26, hB26⟩
  have hb26 : Below w.heap.size w w26 := Below.trans (by repeat (first | exact hb25 | with_reducible apply b_al)) hB26
  have hlt25 := hT25.lt
  have hR26 : RSpec w26 x26 26 false := ⟨_, _, _, hp26, hg26, hd26, ⟨_, _, _, rfl, hK26.keep (by repeat (first | (refine k_new ?_; simp; done) | with_reducible apply k_al)) (by (try simp at hlt25); simp; omega) (by decide)⟩, ⟨_, _, _, _, rfl, hK26.keep (by repeat (first | (refine k_new ?_; simp; done) | with_reducible apply k_al)) (by (try simp at hlt25); simp; omega) (by decide), hK26.keep (by repeat (first | (refine k_new ?_; simp; done) | with_reducible apply k_al)) (by (try simp at hlt25); simp; omega) (by decide), hK26.keep (by repeat (first | (refine k_new ?_; simp; done) | with_reducible apply k_al)) (by (try simp at hlt25); simp; omega) (by decide)⟩, ⟨_, rfl, hK26.keep (by repeat (first | (refine k_new ?_; simp; done) | with_reducible apply k_al)) (by (try simp at hlt25); simp; omega) (by decide)⟩⟩
  have hQ26 := (hR25.go hT25 (w' := _) (by repeat (first | exact Below.refl _ _ | with_reducible apply b_al))).kp hX26 hK26 (hT25.go (by repeat (first | exact Below.refl _ _ | with_reducible apply b_al))).var
  clear hR25
  clear hT25 hN25 hb25 hB26 hX26 hp26 hg26 hd26 hK26 hlt25
  obtain ⟨hBL, v26, hL, hown⟩ := hT26
  obtain ⟨a26, c26, rfl⟩ := own_shape hown
  have lL := k_lt hL
  have HL := Lib.hid hL
  have HN := Lib.hid hN26
  have HR := Lib.hid hR26
  have HQ := Lib.hid hQ26
  have HB := Lib.hid hb26
  clear hL hN26 hR26 hQ26
  go_wp2_with fail
  refine wp_region_late (fun w' => w'.heap[w.heap.size + 1]? = some (.cells #[.slice a26 27 c26] 46 (0, 0))) 3 (by kernel_rfl) ?_
  have hSS : w26.drew.heap[w.heap.size + 1]? = some (.cells #[.slice a26 27 c26] 46 (0, 0)) := k_dr HL.out
  refine wpAnyL_take (i := 0) (v := .slice a26 27 c26) rfl (by kernel_rfl) (by kernel_rfl) (by kernel_rfl) (by kernel_rfl) (fun _ _ _ h => h) (Or.inl ⟨by rfl, ?_⟩) hSS ?_
  · intro wz hz
    have y0 := k_cv hz 0 rfl; clear hz; go_simp
    try with_reducible rfl
  (try simp only [Act.put, List.setIfInBounds_toArray, List.set_cons_zero, List.set_cons_succ])
  refine wpAnyL_one (i := 1) (by kernel_rfl) rfl (fun K hK => ?_)
  go_simp
  go_wp2_with (go_at_call 57; with_reducible refine (c_texts _).mono ?_; rintro e wt ⟨vt, ys, rfl, hot, hNt, hBt⟩)
  have hSt := k_go hSS hBt
  have hOt : wt.ownsRow w.heap.size 52 4 (.slice a26 27 c26) 27 x26 := own_below hown (Below.trans (by repeat (first | exact Below.refl _ _ | with_reducible apply b_al | with_reducible apply b_dr)) hBt)
  have hbt : Below w.heap.size w wt := b_go (b_dr HB.out) hBt
  have hbw : Below w26.heap.size w26 wt := b_go (b_dr (Below.refl _ _)) hBt
  obtain ⟨gt, capt, rfl, hgt, hltt⟩ := hot.form (by decide)
  refine hK.out _ _ hSt (fun hSn => ?_)
  clear hK K hSS
  have hSS := hSn
  clear hSn
  refine wpAnyL_one (i := 2) (by kernel_rfl) rfl (fun K hK => ?_)
  refine step_append_lies _ rfl (.tmp 122) (.tmp 123) 46 rfl w.heap.size 52 i0 (.agg #[.string ⟨#[]⟩, .nilFunc, .nilFunc, .nilFunc]) 4 40 Tryz.underlying46 hi hz0 hz1 hz2 rfl (by decide) (.slice a26 27 c26) 27 x26 (by first | rfl | simp [Act.eval, Act.put]) hOt ⟨gt, 0, none⟩ 10 capt ys (by first | rfl | simp [Act.eval, Act.put]) hNt.1 (news_own hot) hNt.one (by decide) (by decide) (by decide) hbt.size _ rfl ?_
  intro g cap w1' hown' hgrow hat hlt1
  have hL1 := (kp_grown (L := w.heap.size + 1 + 1) hOt hgrow).keep hSS (by omega) (by decide)
  have hKp : Kp (w.heap.size + 1) wt w1' := kp_grown hOt hgrow
  have hKq : Kp (w.heap.size + 1) w26 w1' := (Kp.of_below hbw).trans hKp
  have hTb := table_join hown' HN.out (namedT_kp hNt hKp ⟨_, hSS⟩) (HQ.out.kp (fun _ _ h => h) hKq ⟨_, HL.out⟩) (HR.out.kp (fun _ _ h => h) hKq ⟨_, HL.out⟩)
  have hBe : Below w.heap.size w w1' := hbt.grown hgrow hbt.size (fun q hq => (hOt.lt q hq).1)
  have HTb := Lib.hid hTb
  have HBe := Lib.hid hBe
  refine hK.out _ _ hL1 (fun hSn => ?_)
  clear hK K hSS hSn hTb hBe hKp hKq hgrow hown' hot hNt hOt hbt hbw hL1
  (try simp only [Act.put, List.setIfInBounds_toArray, List.set_cons_zero, List.set_cons_succ])
  refine wpAnyL_last (by kernel_rfl) (by kernel_rfl) rfl (fun K hK => ?_)
  go_simp
  refine hK.out _ _ ?_
  clear hK K
  go_wp2
  go_ret
  exact ⟨_, _, rfl, HTb.out, HBe.out⟩
end Go.Proofs.YtflhndjpfiklaaaGreatDoor.H
