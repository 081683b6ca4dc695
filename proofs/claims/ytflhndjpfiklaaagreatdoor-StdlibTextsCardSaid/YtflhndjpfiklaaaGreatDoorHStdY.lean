/- The table of the functions over texts. Condition: none. -/
import Derived.Test.YtflhndjpfiklaaaGreatDoorHStdD
namespace Go.Proofs.YtflhndjpfiklaaaGreatDoor.H
set_option linter.unusedVariables false
set_option linter.unusedSimpArgs false
open Go.RowKit Go.Proofs.YtflhndjpfiklaaaGreatDoor.Plain
set_option maxHeartbeats 12800000
set_option maxRecDepth 100000
attribute [local go_sem] ext_from ext_bits cell_isSome un_neg_float
theorem c_addT2 (B L k : Nat) (xs : List Value) (nm : ByteArray) (b n c : Nat) (gf df : Fn) (ga gc da dc : Array Value) (w : World) (hT : Tab w B L k xs) (hN : NamedT w xs k) (hn : fnames.getD (27 + k) ⟨#[]⟩ = nm) (hk : k ≤ 1000) (hB : B ≤ w.heap.size) :
    Calls Tryz.prog 102 #[.string nm, .slice (some ⟨b, 0, none⟩) n c, .func gf ga gc, .func df da dc, .pointer (some ⟨L, 0, none⟩)] w fun e w' => e = .returned (.tuple #[]) ∧ (∃ ys p, Tab w' B L (k + 1) ys ∧ FixedAt w' p n ∧ (TSpec w' k p (.func gf ga gc) (.func df da dc) → NamedT w' ys (k + 1))) ∧ Kp L w w' ∧ Below B w w' :=
  (c_addT B L k xs nm _ n c gf df ga gc da dc w hT hk hB).mono fun e w' ⟨he, ⟨a, h1, hA⟩, h2, h3⟩ => ⟨he, ⟨_, _, h1, ⟨_, _, _, rfl, hA⟩, fun hs => namedT_step (namedT_kp hN h2 hT.var) hn hs⟩, h2, h3⟩
theorem NamedT.go {w w' : World} {B L k : Nat} {xs : List Value} (h : NamedT w xs k) (ht : Tab w B L k xs) (hb : Below w.heap.size w w') : NamedT w' xs k := namedT_kp h (Kp.of_below hb) ht.var
theorem Tab.lt {w : World} {B L k : Nat} {xs : List Value} (h : Tab w B L k xs) : L < w.heap.size := let ⟨_, h⟩ := h.var; k_lt h
theorem c_texts (w : World) : Calls Tryz.prog 57 #[] w fun e w' => ∃ v ys, e = .returned v ∧ w'.ownsRow w.heap.size 52 4 v 10 ys ∧ NamedT w' ys 10 ∧ Below w.heap.size w w' := by
  have hmf : ∀ (fn : Fn) (first cap : Array Value) (w : World), (Instr.makeFunc fn first cap).run Tryz.prog w = .ok (.func fn first cap) w := fun _ _ _ _ => rfl
  obtain ⟨i0, hi, hz0, hz1, hz2⟩ := info_parts (show (Tryz.prog.info? 52).map (fun i => (i.zero, i.size, i.bytes)) = some (some (.agg #[.string ⟨#[]⟩, .nilFunc, .nilFunc, .nilFunc]), 4, 40) by kernel_rfl)
  go_enter Tryz.func57, Tryz.ntmps57
  go_wp2_with ((go_at_call 34; go_in))
  have hb0 : Below w.heap.size w w := Below.refl _ _
  have hT0 : Tab ((w.alloc (.cells #[] 52 (0, 0))).alloc (.cells #[.slice (some ⟨w.heap.size, 0, none⟩) 0 0] 46 (0, 0))) w.heap.size (w.heap.size + 1) 0 [] :=
    ⟨by omega, _, k_new (by simp), own_below (World.ownsRow_lit w #[] 0 (Nat.le_refl _) (by decide) rfl) (b_al (Below.refl _ _) _)⟩
  have hN0 := namedT_zero ((w.alloc (.cells #[] 52 (0, 0))).alloc (.cells #[.slice (some ⟨w.heap.size, 0, none⟩) 0 0] 46 (0, 0)))
  refine (c_addT2 w.heap.size (w.heap.size + 1) 0 [] _ _ _ _ _ _ _ _ _ _ _ (hT0.go (by repeat (first | exact Below.refl _ _ | with_reducible apply b_al))) (hN0.go hT0 (by repeat (first | exact Below.refl _ _ | with_reducible apply b_al))) rfl (by decide) (by have h := hb0.size; (try simp at h); simp; omega)).mono ?_
  have hlt0 := hT0.lt
  rintro e w1 ⟨rfl, ⟨x1, p1, hT1, hF1, hM1⟩, hK1, hB1⟩
  have hN1 := hM1 ⟨hF1, ⟨_, _, _, _, rfl, hK1.keep (by repeat (first | (refine k_new ?_; simp; done) | with_reducible apply k_al)) (by (try simp at hlt0); simp; omega) (by decide), hK1.keep (by repeat (first | (refine k_new ?_; simp; done) | with_reducible apply k_al)) (by (try simp at hlt0); simp; omega) (by decide), hK1.keep (by repeat (first | (refine k_new ?_; simp; done) | with_reducible apply k_al)) (by (try simp at hlt0); simp; omega) (by decide)⟩, rfl⟩
  have hb1 : Below w.heap.size w w1 := Below.trans (by repeat (first | exact hb0 | with_reducible apply b_al)) hB1
  clear hT0 hN0 hb0 hB1 hF1 hM1 hK1 hlt0
  go_wp2_with ((go_at_call 34; go_in))
  refine (c_addT2 w.heap.size (w.heap.size + 1) 1 x1 _ _ _ _ _ _ _ _ _ _ _ (hT1.go (by repeat (first | exact Below.refl _ _ | with_reducible apply b_al))) (hN1.go hT1 (by repeat (first | exact Below.refl _ _ | with_reducible apply b_al))) rfl (by decide) (by have h := hb1.size; (try simp at h); simp; omega)).mono ?_
  have hlt1 := hT1.lt
  rintro e w2 ⟨rfl, ⟨x2, p2, hT2, hF2, hM2⟩, hK2, hB2⟩
  have hN2 := hM2 ⟨hF2, ⟨_, _, _, _, rfl, hK2.keep (by repeat (first | (refine k_new ?_; simp; done) | with_reducible apply k_al)) (by (try simp at hlt1); simp; omega) (by decide), hK2.keep (by repeat (first | (refine k_new ?_; simp; done) | with_reducible apply k_al)) (by (try simp at hlt1); simp; omega) (by decide), hK2.keep (by repeat (first | (refine k_new ?_; simp; done) | with_reducible apply k_al)) (by (try simp at hlt1); simp; omega) (by decide)⟩, rfl⟩
  have hb2 : Below w.heap.size w w2 := Below.trans (by repeat (first | exact hb1 | with_reducible apply b_al)) hB2
  clear hT1 hN1 hb1 hB2 hF2 hM2 hK2 hlt1
  go_wp2_with ((go_at_call 34; go_in))
  refine (c_addT2 w.heap.size (w.heap.size + 1) 2 x2 _ _ _ _ _ _ _ _ _ _ _ (hT2.go (by repeat (first | exact Below.refl _ _ | with_reducible apply b_al))) (hN2.go hT2 (by repeat (first | exact Below.refl _ _ | with_reducible apply b_al))) rfl (by decide) (by have h := hb2.size; (try simp at h); simp; omega)).mono ?_
  have hlt2 := hT2.lt
  rintro e w3 ⟨rfl, ⟨x3, p3, hT3, hF3, hM3⟩, hK3, hB3⟩
  have hN3 := hM3 ⟨hF3, ⟨_, _, _, _, rfl, hK3.keep (by repeat (first | (refine k_new ?_; simp; done) | with_reducible apply k_al)) (by (try simp at hlt2); simp; omega) (by decide), hK3.keep (by repeat (first | (refine k_new ?_; simp; done) | with_reducible apply k_al)) (by (try simp at hlt2); simp; omega) (by decide), hK3.keep (by repeat (first | (refine k_new ?_; simp; done) | with_reducible apply k_al)) (by (try simp at hlt2); simp; omega) (by decide)⟩, rfl⟩
  have hb3 : Below w.heap.size w w3 := Below.trans (by repeat (first | exact hb2 | with_reducible apply b_al)) hB3
  clear hT2 hN2 hb2 hB3 hF3 hM3 hK3 hlt2
  go_wp2_with ((go_at_call 34; go_in))
  refine (c_addT2 w.heap.size (w.heap.size + 1) 3 x3 _ _ _ _ _ _ _ _ _ _ _ (hT3.go (by repeat (first | exact Below.refl _ _ | with_reducible apply b_al))) (hN3.go hT3 (by repeat (first | exact Below.refl _ _ | with_reducible apply b_al))) rfl (by decide) (by have h := hb3.size; (try simp at h); simp; omega)).mono ?_
  have hlt3 := hT3.lt
  rintro e w4 ⟨rfl, ⟨x4, p4, hT4, hF4, hM4⟩, hK4, hB4⟩
  have hN4 := hM4 ⟨hF4, ⟨_, _, _, _, rfl, hK4.keep (by repeat (first | (refine k_new ?_; simp; done) | with_reducible apply k_al)) (by (try simp at hlt3); simp; omega) (by decide), hK4.keep (by repeat (first | (refine k_new ?_; simp; done) | with_reducible apply k_al)) (by (try simp at hlt3); simp; omega) (by decide), hK4.keep (by repeat (first | (refine k_new ?_; simp; done) | with_reducible apply k_al)) (by (try simp at hlt3); simp; omega) (by decide)⟩, rfl⟩
  have hb4 : Below w.heap.size w w4 := Below.trans (by repeat (first | exact hb3 | with_reducible apply b_al)) hB4
  clear hT3 hN3 hb3 hB4 hF4 hM4 hK4 hlt3
  have hs4 := hb4.size
  have hlt4 := hT4.lt
  have HT4 := Lib.hid hT4
  have HN4 := Lib.hid hN4
  obtain ⟨hBL, v4, hL4, hown⟩ := hT4
  obtain ⟨a4, c4, rfl⟩ := own_shape hown
  have q0 := k_cv hL4 0 rfl
  have f0 := k_fr hL4 0
  simp only [List.getElem_toArray, List.getElem_cons_succ, List.getElem_cons_zero] at q0
  have HL := Lib.hid hL4
  clear hL4 hN4
  go_wp2_with (first | (go_at_call 34; go_in) | (at_builtin; go_loud (refine wpList_append_own _ rfl _ _ 46 rfl w.heap.size 52 i0 _ 4 40 Tryz.underlying46 hi hz0 hz1 hz2 rfl (by decide) _ _ _ rfl (hown.alloc _) ⟨w4.heap.size, 0, none⟩ 1 1 [.string ⟨#[67, 79, 78, 67, 65, 84]⟩, .func (.func 30) #[] #[], .func (.func 113) #[] #[], .func (.func 114) #[] #[]] rfl rfl ?c1 ?c2 ?c3 ?c4 ?c5 ?_)))
  case c1 =>
    intro j u hj
    rw [add_pl]
    exact (k_cell (k_new rfl) j).trans (by simpa using hj)
  case c2 => intro u hu; simp at hu; rcases hu with rfl | rfl | rfl | rfl <;> rfl
  case c3 => unfold maxLen; omega
  case c4 => omega
  case c5 => simp; omega
  intro v' w5 hown' hgrow hnil
  obtain ⟨a5, c5, rfl⟩ := own_shape hown'
  obtain ⟨hL1, hTab, hKp⟩ := tab_grown hBL (k_al HL.out _) (hown.alloc _) hgrow hown'
  have q1 := k_cv hL1 0 rfl
  have f1 := k_fr hL1 0
  have hb5 : Below w.heap.size w (w5.setCell ⟨w.heap.size + 1, 0, none⟩ (.slice a5 (3 + 1 + 1) c5)) := ((hb4.alloc hs4 _).grown hgrow (by simp; omega) (fun g hg => (hown.lt g hg).1)).setCell hBL _
  obtain ⟨x5, hT5, hN5⟩ : ∃ ys, Tab (w5.setCell ⟨w.heap.size + 1, 0, none⟩ (.slice a5 (3 + 1 + 1) c5)) w.heap.size (w.heap.size + 1) (3 + 1 + 1) ys ∧ NamedT (w5.setCell ⟨w.heap.size + 1, 0, none⟩ (.slice a5 (3 + 1 + 1) c5)) ys (3 + 1 + 1) :=
    ⟨_, hTab, namedT_step (namedT_kp (HN4.out.go HT4.out (b_al (Below.refl _ _) _)) hKp ⟨_, k_al HL.out _⟩) rfl ⟨rfl, rfl, rfl⟩⟩
  have HT5 := Lib.hid hT5
  have HN5 := Lib.hid hN5
  have HB5 := Lib.hid hb5
  clear hTab hKp hL1 hown' hgrow hnil hown HL HT4 HN4 hb4 hs4 hlt4 hT5 hN5 hb5
  go_wp2_with ((go_at_call 34; go_in))
  have hT5 := HT5.out
  have hN5 := HN5.out
  have hb5 := HB5.out
  clear HT5 HN5 HB5
  refine (c_addT2 w.heap.size (w.heap.size + 1) 5 x5 _ _ _ _ _ _ _ _ _ _ _ (hT5.go (by repeat (first | exact Below.refl _ _ | with_reducible apply b_al))) (hN5.go hT5 (by repeat (first | exact Below.refl _ _ | with_reducible apply b_al))) rfl (by decide) (by have h := hb5.size; (try simp at h); simp; omega)).mono ?_
  have hlt5 := hT5.lt
  rintro e w6 ⟨rfl, ⟨x6, p6, hT6, hF6, hM6⟩, hK6, hB6⟩
  have hN6 := hM6 ⟨hF6, ⟨_, _, _, _, rfl, hK6.keep (by repeat (first | (refine k_new ?_; simp; done) | with_reducible apply k_al)) (by (try simp at hlt5); simp; omega) (by decide), hK6.keep (by repeat (first | (refine k_new ?_; simp; done) | with_reducible apply k_al)) (by (try simp at hlt5); simp; omega) (by decide), hK6.keep (by repeat (first | (refine k_new ?_; simp; done) | with_reducible apply k_al)) (by (try simp at hlt5); simp; omega) (by decide)⟩, rfl⟩
  have hb6 : Below w.heap.size w w6 := Below.trans (by repeat (first | exact hb5 | with_reducible apply b_al)) hB6
  clear hT5 hN5 hb5 hB6 hF6 hM6 hK6 hlt5
  go_wp2_with ((go_at_call 34; go_in))
  refine (c_addT2 w.heap.size (w.heap.size + 1) 6 x6 _ _ _ _ _ _ _ _ _ _ _ (hT6.go (by repeat (first | exact Below.refl _ _ | with_reducible apply b_al))) (hN6.go hT6 (by repeat (first | exact Below.refl _ _ | with_reducible apply b_al))) rfl (by decide) (by have h := hb6.size; (try simp at h); simp; omega)).mono ?_
  have hlt6 := hT6.lt
  rintro e w7 ⟨rfl, ⟨x7, p7, hT7, hF7, hM7⟩, hK7, hB7⟩
  have hN7 := hM7 ⟨hF7, ⟨_, _, _, _, rfl, hK7.keep (by repeat (first | (refine k_new ?_; simp; done) | with_reducible apply k_al)) (by (try simp at hlt6); simp; omega) (by decide), hK7.keep (by repeat (first | (refine k_new ?_; simp; done) | with_reducible apply k_al)) (by (try simp at hlt6); simp; omega) (by decide), hK7.keep (by repeat (first | (refine k_new ?_; simp; done) | with_reducible apply k_al)) (by (try simp at hlt6); simp; omega) (by decide)⟩, rfl⟩
  have hb7 : Below w.heap.size w w7 := Below.trans (by repeat (first | exact hb6 | with_reducible apply b_al)) hB7
  clear hT6 hN6 hb6 hB7 hF7 hM7 hK7 hlt6
  go_wp2_with ((go_at_call 34; go_in))
  refine (c_addT2 w.heap.size (w.heap.size + 1) 7 x7 _ _ _ _ _ _ _ _ _ _ _ (hT7.go (by repeat (first | exact Below.refl _ _ | with_reducible apply b_al))) (hN7.go hT7 (by repeat (first | exact Below.refl _ _ | with_reducible apply b_al))) rfl (by decide) (by have h := hb7.size; (try simp at h); simp; omega)).mono ?_
  have hlt7 := hT7.lt
  rintro e w8 ⟨rfl, ⟨x8, p8, hT8, hF8, hM8⟩, hK8, hB8⟩
  have hN8 := hM8 ⟨hF8, ⟨_, _, _, _, rfl, hK8.keep (by repeat (first | (refine k_new ?_; simp; done) | with_reducible apply k_al)) (by (try simp at hlt7); simp; omega) (by decide), hK8.keep (by repeat (first | (refine k_new ?_; simp; done) | with_reducible apply k_al)) (by (try simp at hlt7); simp; omega) (by decide), hK8.keep (by repeat (first | (refine k_new ?_; simp; done) | with_reducible apply k_al)) (by (try simp at hlt7); simp; omega) (by decide)⟩, rfl⟩
  have hb8 : Below w.heap.size w w8 := Below.trans (by repeat (first | exact hb7 | with_reducible apply b_al)) hB8
  clear hT7 hN7 hb7 hB8 hF8 hM8 hK8 hlt7
  go_wp2_with ((go_at_call 34; go_in))
  refine (c_addT2 w.heap.size (w.heap.size + 1) 8 x8 _ _ _ _ _ _ _ _ _ _ _ (hT8.go (by repeat (first | exact Below.refl _ _ | with_reducible apply b_al))) (hN8.go hT8 (by repeat (first | exact Below.refl _ _ | with_reducible apply b_al))) rfl (by decide) (by have h := hb8.size; (try simp at h); simp; omega)).mono ?_
  have hlt8 := hT8.lt
  rintro e w9 ⟨rfl, ⟨x9, p9, hT9, hF9, hM9⟩, hK9, hB9⟩
  have hN9 := hM9 ⟨hF9, ⟨_, _, _, _, rfl, hK9.keep (by repeat (first | (refine k_new ?_; simp; done) | with_reducible apply k_al)) (by (try simp at hlt8); simp; omega) (by decide), hK9.keep (by repeat (first | (refine k_new ?_; simp; done) | with_reducible apply k_al)) (by (try simp at hlt8); simp; omega) (by decide), hK9.keep (by repeat (first | (refine k_new ?_; simp; done) | with_reducible apply k_al)) (by (try simp at hlt8); simp; omega) (by decide)⟩, rfl⟩
  have hb9 : Below w.heap.size w w9 := Below.trans (by repeat (first | exact hb8 | with_reducible apply b_al)) hB9
  clear hT8 hN8 hb8 hB9 hF9 hM9 hK9 hlt8
  go_wp2_with ((go_at_call 34; go_in))
  refine (c_addT2 w.heap.size (w.heap.size + 1) 9 x9 _ _ _ _ _ _ _ _ _ _ _ (hT9.go (by repeat (first | exact Below.refl _ _ | with_reducible apply b_al))) (hN9.go hT9 (by repeat (first | exact Below.refl _ _ | with_reducible apply b_al))) rfl (by decide) (by have h := hb9.size; (try simp at h); simp; omega)).mono ?_
  have hlt9 := hT9.lt
  rintro e w10 ⟨rfl, ⟨x10, p10, hT10, hF10, hM10⟩, hK10, hB10⟩
  have hN10 := hM10 ⟨hF10, ⟨_, _, _, _, rfl, hK10.keep (by repeat (first | (refine k_new ?_; simp; done) | with_reducible apply k_al)) (by (try simp at hlt9); simp; omega) (by decide), hK10.keep (by repeat (first | (refine k_new ?_; simp; done) | with_reducible apply k_al)) (by (try simp at hlt9); simp; omega) (by decide), hK10.keep (by repeat (first | (refine k_new ?_; simp; done) | with_reducible apply k_al)) (by (try simp at hlt9); simp; omega) (by decide)⟩, rfl⟩
  have hb10 : Below w.heap.size w w10 := Below.trans (by repeat (first | exact hb9 | with_reducible apply b_al)) hB10
  clear hT9 hN9 hb9 hB10 hF10 hM10 hK10 hlt9
  have HN := Lib.hid hN10
  have HB := Lib.hid hb10
  obtain ⟨hBL10, v10, hL10, hown10⟩ := hT10
  have HO := Lib.hid hown10
  have q10 := k_cv hL10 0 rfl
  simp only [List.getElem_toArray, List.getElem_cons_succ, List.getElem_cons_zero] at q10
  clear hN10 hb10 hown10 hL10
  go_wp2
  go_ret
  exact ⟨_, _, rfl, HO.out, HN.out, HB.out⟩
end Go.Proofs.YtflhndjpfiklaaaGreatDoor.H
