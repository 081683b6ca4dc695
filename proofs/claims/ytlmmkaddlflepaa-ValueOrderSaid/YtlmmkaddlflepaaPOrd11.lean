-- by mkprint.py, a program of this session's own
import Derived.Test.YtlmmkaddlflepaaPOrd0
import Derived.Test.YtlmmkaddlflepaaPOrd1
import Derived.Test.YtlmmkaddlflepaaPOrd10
namespace Go.Proofs.Ytlmmkaddlflepaa.POrd
open Go.RowKit Go.Proofs.YtlmmkaddlflepaaW.PrintWords Go.Proofs.YtlmmkaddlflepaaW.PrintLast Go.Proofs.YtlmmkaddlflepaaW.PrintMore
attribute [local go_sem] max2_int min2_int max_two min_two max_three min_three max_four min_four   -- for this text's walks alone
set_option linter.unusedVariables false
set_option linter.unusedSimpArgs false

attribute [local go_sem] cell_isSome un_neg_float str_gtr str_leq str_geq ext34 ext52
/-! ### relaylaw01_ValueOrder: function 8 -/
mutual
def relaylaw01_ValueOrder.j0 : Nat → Bool → Bool → Bool → Bool → Bool → Bool → Bool → Int → Int → ByteArray → Int → Int → ByteArray → Option (Bool)
 | 0, _, _, _, _, _, _, _, _, _, _, _, _, _ => none
 | k + 1, x5, x6, x7, x8, x9, x10, x48, x257000, x257001, x257002, x258000, x258001, x258002 => if x48 = true then (if x6 = true then (some false) else (if x8 = true then (some false) else (some (!x10)))) else (if x6 = true then (if x8 = true then (relaylaw01_ValueOrder.j1 k x5 x7 x9 (!x10) x257000 x257001 x257002 x258000 x258001 x258002) else (relaylaw01_ValueOrder.j1 k x5 x7 x9 true x257000 x257001 x257002 x258000 x258001 x258002)) else (relaylaw01_ValueOrder.j1 k x5 x7 x9 true x257000 x257001 x257002 x258000 x258001 x258002))
def relaylaw01_ValueOrder.j1 : Nat → Bool → Bool → Bool → Bool → Int → Int → ByteArray → Int → Int → ByteArray → Option (Bool)
 | 0, _, _, _, _, _, _, _, _, _, _ => none
 | k + 1, x5, x7, x9, x68, x257000, x257001, x257002, x258000, x258001, x258002 => if x68 = true then (some false) else ((some (([x5, x7, x9] : List Bool) : List Bool)).bind fun y266 => (relaylaw01_ValueOrder.l0 k x7 0 y266 (y266.length : Int) 0 x257000 x257001 x257002 x258000 x258001 x258002))
def relaylaw01_ValueOrder.l0 : Nat → Bool → Int → List Bool → Int → Int → Int → Int → ByteArray → Int → Int → ByteArray → Option (Bool)
 | 0, _, _, _, _, _, _, _, _, _, _, _ => none
 | k + 1, x7, x11, x72, x73, x74, x257000, x257001, x257002, x258000, x258001, x258002 => if x74 < x73 then (if 0 ≤ x74 then (if x74 < (x72.length : Int) then (if rdOf false x72 x74 = true then (relaylaw01_ValueOrder.l0 k x7 (wrap64 (x11 + 1)) x72 x73 (wrap64 (x74 + 1)) x257000 x257001 x257002 x258000 x258001 x258002) else (relaylaw01_ValueOrder.l0 k x7 x11 x72 x73 (wrap64 (x74 + 1)) x257000 x257001 x257002 x258000 x258001 x258002)) else (none)) else (none)) else (if x257000 = 18 then (if x257001 = 9221120237041090561 then ((relaylaw01_truth.f k 10 x257000 x257001 x257002 x258000 x258001 x258002).bind fun bt269 => (if bt269.2 = true then (if (bt269.1 == (!x7)) = true then (if x11 = 0 then (some true) else (some false)) else (some false)) else (some false))) else ((relaylaw01_truth.f k 10 x257000 x257001 x257002 x258000 x258001 x258002).bind fun bt271 => (if bt271.2 = true then (if (bt271.1 == (!x7)) = true then (if x258001 = 9221120237041090561 then (if x11 = 0 then (some true) else (some false)) else (some (x11 == 1))) else (some false)) else (some false)))) else ((relaylaw01_truth.f k 10 x257000 x257001 x257002 x258000 x258001 x258002).bind fun bt273 => (if bt273.2 = true then (if (bt273.1 == (!x7)) = true then (some (x11 == 1)) else (some false)) else (some false))))
end
def relaylaw01_ValueOrder.f (k : Nat) (a0_0 : Int) (a0_1 : Int) (a0_2 : ByteArray) (a1_0 : Int) (a1_1 : Int) (a1_2 : ByteArray) : Option (Bool) := (relaylaw01_truth.f k 11 a0_0 a0_1 a0_2 a1_0 a1_1 a1_2).bind fun bt258 => ((relaylaw01_truth.f k 9 a0_0 a0_1 a0_2 a1_0 a1_1 a1_2).bind fun bt260 => ((relaylaw01_truth.f k 13 a0_0 a0_1 a0_2 a1_0 a1_1 a1_2).bind fun bt262 => ((relayref01_May.f k a0_0 a0_1 a0_2).bind fun t264 => (if t264 = true then ((relayref01_May.f k a1_0 a1_1 a1_2).bind fun t265 => (if t265 = true then (relaylaw01_ValueOrder.j0 k bt258.1 bt258.2 bt260.1 bt260.2 bt262.1 bt262.2 (a0_0 != a1_0) a0_0 a0_1 a0_2 a1_0 a1_1 a1_2) else (relaylaw01_ValueOrder.j0 k bt258.1 bt258.2 bt260.1 bt260.2 bt262.1 bt262.2 true a0_0 a0_1 a0_2 a1_0 a1_1 a1_2))) else (relaylaw01_ValueOrder.j0 k bt258.1 bt258.2 bt260.1 bt260.2 bt262.1 bt262.2 true a0_0 a0_1 a0_2 a1_0 a1_1 a1_2)))))
theorem relaylaw01_ValueOrder.mono_l : ∀ k, (∀ y0 y1 y2 y3 y4 y5 y6 y7 y8 y9 y10 y11 y12, LeO (relaylaw01_ValueOrder.j0 k y0 y1 y2 y3 y4 y5 y6 y7 y8 y9 y10 y11 y12) (relaylaw01_ValueOrder.j0 (k + 1) y0 y1 y2 y3 y4 y5 y6 y7 y8 y9 y10 y11 y12)) ∧ (∀ y0 y1 y2 y3 y4 y5 y6 y7 y8 y9, LeO (relaylaw01_ValueOrder.j1 k y0 y1 y2 y3 y4 y5 y6 y7 y8 y9) (relaylaw01_ValueOrder.j1 (k + 1) y0 y1 y2 y3 y4 y5 y6 y7 y8 y9)) ∧ (∀ y0 y1 y2 y3 y4 y5 y6 y7 y8 y9 y10, LeO (relaylaw01_ValueOrder.l0 k y0 y1 y2 y3 y4 y5 y6 y7 y8 y9 y10) (relaylaw01_ValueOrder.l0 (k + 1) y0 y1 y2 y3 y4 y5 y6 y7 y8 y9 y10))
 | 0 => ⟨fun _ _ _ _ _ _ _ _ _ _ _ _ _ r h => by simp [relaylaw01_ValueOrder.j0] at h, fun _ _ _ _ _ _ _ _ _ _ r h => by simp [relaylaw01_ValueOrder.j1] at h, fun _ _ _ _ _ _ _ _ _ _ _ r h => by simp [relaylaw01_ValueOrder.l0] at h⟩
 | k + 1 => by
  obtain ⟨ih0, ih1, ih2⟩ := relaylaw01_ValueOrder.mono_l k
  refine ⟨?_, ?_, ?_⟩
  ·intro y0 y1 y2 y3 y4 y5 y6 y7 y8 y9 y10 y11 y12
   unfold relaylaw01_ValueOrder.j0
   repeat' first
   | (with_reducible exact ih0 _ _ _ _ _ _ _ _ _ _ _ _ _)
   | (with_reducible exact ih1 _ _ _ _ _ _ _ _ _ _)
   | (with_reducible exact ih2 _ _ _ _ _ _ _ _ _ _ _)
   | (with_reducible exact relaylaw01_truth.mono _ _ _ _ _ _ _ _)
   | (with_reducible exact relayref01_May.mono _ _ _ _)
   | (with_reducible exact LeO.refl _)
   | (with_reducible exact LeO.none _)
   | (with_reducible refine LeO.ite ?_ ?_)
   | (with_reducible refine LeO.bind ?_ (fun _ => ?_))
   | exact ih0 _ _ _ _ _ _ _ _ _ _ _ _ _
   | exact ih1 _ _ _ _ _ _ _ _ _ _
   | exact ih2 _ _ _ _ _ _ _ _ _ _ _
   | exact relaylaw01_truth.mono _ _ _ _ _ _ _ _
   | exact relayref01_May.mono _ _ _ _
   | exact LeO.none _
   | refine LeO.ite ?_ ?_
   | refine LeO.bind ?_ (fun _ => ?_)
  ·intro y0 y1 y2 y3 y4 y5 y6 y7 y8 y9
   unfold relaylaw01_ValueOrder.j1
   repeat' first
   | (with_reducible exact ih0 _ _ _ _ _ _ _ _ _ _ _ _ _)
   | (with_reducible exact ih1 _ _ _ _ _ _ _ _ _ _)
   | (with_reducible exact ih2 _ _ _ _ _ _ _ _ _ _ _)
   | (with_reducible exact relaylaw01_truth.mono _ _ _ _ _ _ _ _)
   | (with_reducible exact relayref01_May.mono _ _ _ _)
   | (with_reducible exact LeO.refl _)
   | (with_reducible exact LeO.none _)
   | (with_reducible refine LeO.ite ?_ ?_)
   | (with_reducible refine LeO.bind ?_ (fun _ => ?_))
   | exact ih0 _ _ _ _ _ _ _ _ _ _ _ _ _
   | exact ih1 _ _ _ _ _ _ _ _ _ _
   | exact ih2 _ _ _ _ _ _ _ _ _ _ _
   | exact relaylaw01_truth.mono _ _ _ _ _ _ _ _
   | exact relayref01_May.mono _ _ _ _
   | exact LeO.none _
   | refine LeO.ite ?_ ?_
   | refine LeO.bind ?_ (fun _ => ?_)
  ·intro y0 y1 y2 y3 y4 y5 y6 y7 y8 y9 y10
   unfold relaylaw01_ValueOrder.l0
   repeat' first
   | (with_reducible exact ih0 _ _ _ _ _ _ _ _ _ _ _ _ _)
   | (with_reducible exact ih1 _ _ _ _ _ _ _ _ _ _)
   | (with_reducible exact ih2 _ _ _ _ _ _ _ _ _ _ _)
   | (with_reducible exact relaylaw01_truth.mono _ _ _ _ _ _ _ _)
   | (with_reducible exact relayref01_May.mono _ _ _ _)
   | (with_reducible exact LeO.refl _)
   | (with_reducible exact LeO.none _)
   | (with_reducible refine LeO.ite ?_ ?_)
   | (with_reducible refine LeO.bind ?_ (fun _ => ?_))
   | exact ih0 _ _ _ _ _ _ _ _ _ _ _ _ _
   | exact ih1 _ _ _ _ _ _ _ _ _ _
   | exact ih2 _ _ _ _ _ _ _ _ _ _ _
   | exact relaylaw01_truth.mono _ _ _ _ _ _ _ _
   | exact relayref01_May.mono _ _ _ _
   | exact LeO.none _
   | refine LeO.ite ?_ ?_
   | refine LeO.bind ?_ (fun _ => ?_)
theorem relaylaw01_ValueOrder.mono : ∀ a0 a1 a2 a3 a4 a5 k, LeO (relaylaw01_ValueOrder.f k a0 a1 a2 a3 a4 a5) (relaylaw01_ValueOrder.f (k + 1) a0 a1 a2 a3 a4 a5) := by
 intro a0 a1 a2 a3 a4 a5 k
 obtain ⟨ih0, ih1, ih2⟩ := relaylaw01_ValueOrder.mono_l k
 unfold relaylaw01_ValueOrder.f
 repeat' first
   | (with_reducible exact ih0 _ _ _ _ _ _ _ _ _ _ _ _ _)
   | (with_reducible exact ih1 _ _ _ _ _ _ _ _ _ _)
   | (with_reducible exact ih2 _ _ _ _ _ _ _ _ _ _ _)
   | (with_reducible exact relaylaw01_truth.mono _ _ _ _ _ _ _ _)
   | (with_reducible exact relayref01_May.mono _ _ _ _)
   | (with_reducible exact LeO.refl _)
   | (with_reducible exact LeO.none _)
   | (with_reducible refine LeO.ite ?_ ?_)
   | (with_reducible refine LeO.bind ?_ (fun _ => ?_))
   | exact ih0 _ _ _ _ _ _ _ _ _ _ _ _ _
   | exact ih1 _ _ _ _ _ _ _ _ _ _
   | exact ih2 _ _ _ _ _ _ _ _ _ _ _
   | exact relaylaw01_truth.mono _ _ _ _ _ _ _ _
   | exact relayref01_May.mono _ _ _ _
   | exact LeO.none _
   | refine LeO.ite ?_ ?_
   | refine LeO.bind ?_ (fun _ => ?_)
set_option maxHeartbeats 8000000 in
set_option maxRecDepth 100000 in
theorem relaylaw01_ValueOrder.calls (k : Nat) (a0_0 : Int) (a0_1 : Int) (a0_2 : ByteArray) (a1_0 : Int) (a1_1 : Int) (a1_2 : ByteArray) (r : Bool) (w : World) (h : relaylaw01_ValueOrder.f k a0_0 a0_1 a0_2 a1_0 a1_1 a1_2 = some r) :
  Calls Try.prog 8 #[.agg #[.int .u8 a0_0, .int .u64 a0_1, .string a0_2], .agg #[.int .u8 a1_0, .int .u64 a1_1, .string a1_2]] w fun e w' => e = .returned (.bool r) ∧ Below w.heap.size w w' := by
 have hu27 := Try.underlying27
 have HB := Aside0.mk (Below.refl w.heap.size w)
 have H : ((relaylaw01_truth.f k 11 a0_0 a0_1 a0_2 a1_0 a1_1 a1_2).bind fun bt258 => ((relaylaw01_truth.f k 9 a0_0 a0_1 a0_2 a1_0 a1_1 a1_2).bind fun bt260 => ((relaylaw01_truth.f k 13 a0_0 a0_1 a0_2 a1_0 a1_1 a1_2).bind fun bt262 => ((relayref01_May.f k a0_0 a0_1 a0_2).bind fun t264 => (if t264 = true then ((relayref01_May.f k a1_0 a1_1 a1_2).bind fun t265 => (if t265 = true then (relaylaw01_ValueOrder.j0 k bt258.1 bt258.2 bt260.1 bt260.2 bt262.1 bt262.2 (a0_0 != a1_0) a0_0 a0_1 a0_2 a1_0 a1_1 a1_2) else (relaylaw01_ValueOrder.j0 k bt258.1 bt258.2 bt260.1 bt260.2 bt262.1 bt262.2 true a0_0 a0_1 a0_2 a1_0 a1_1 a1_2))) else (relaylaw01_ValueOrder.j0 k bt258.1 bt258.2 bt260.1 bt260.2 bt262.1 bt262.2 true a0_0 a0_1 a0_2 a1_0 a1_1 a1_2)))))) = some r := h
 clear h
 replace H := Option.bind_eq_some_iff.mp H
 obtain ⟨⟨t258, t259⟩, A30, H⟩ := H
 replace H : ((relaylaw01_truth.f k 9 a0_0 a0_1 a0_2 a1_0 a1_1 a1_2).bind fun bt260 => ((relaylaw01_truth.f k 13 a0_0 a0_1 a0_2 a1_0 a1_1 a1_2).bind fun bt262 => ((relayref01_May.f k a0_0 a0_1 a0_2).bind fun t264 => (if t264 = true then ((relayref01_May.f k a1_0 a1_1 a1_2).bind fun t265 => (if t265 = true then (relaylaw01_ValueOrder.j0 k t258 t259 bt260.1 bt260.2 bt262.1 bt262.2 (a0_0 != a1_0) a0_0 a0_1 a0_2 a1_0 a1_1 a1_2) else (relaylaw01_ValueOrder.j0 k t258 t259 bt260.1 bt260.2 bt262.1 bt262.2 true a0_0 a0_1 a0_2 a1_0 a1_1 a1_2))) else (relaylaw01_ValueOrder.j0 k t258 t259 bt260.1 bt260.2 bt262.1 bt262.2 true a0_0 a0_1 a0_2 a1_0 a1_1 a1_2))))) = some r := H
 have A3 := Aside0.mk A30
 clear A30
 replace H := Option.bind_eq_some_iff.mp H
 obtain ⟨⟨t260, t261⟩, A40, H⟩ := H
 replace H : ((relaylaw01_truth.f k 13 a0_0 a0_1 a0_2 a1_0 a1_1 a1_2).bind fun bt262 => ((relayref01_May.f k a0_0 a0_1 a0_2).bind fun t264 => (if t264 = true then ((relayref01_May.f k a1_0 a1_1 a1_2).bind fun t265 => (if t265 = true then (relaylaw01_ValueOrder.j0 k t258 t259 t260 t261 bt262.1 bt262.2 (a0_0 != a1_0) a0_0 a0_1 a0_2 a1_0 a1_1 a1_2) else (relaylaw01_ValueOrder.j0 k t258 t259 t260 t261 bt262.1 bt262.2 true a0_0 a0_1 a0_2 a1_0 a1_1 a1_2))) else (relaylaw01_ValueOrder.j0 k t258 t259 t260 t261 bt262.1 bt262.2 true a0_0 a0_1 a0_2 a1_0 a1_1 a1_2)))) = some r := H
 have A4 := Aside0.mk A40
 clear A40
 replace H := Option.bind_eq_some_iff.mp H
 obtain ⟨⟨t262, t263⟩, A50, H⟩ := H
 replace H : ((relayref01_May.f k a0_0 a0_1 a0_2).bind fun t264 => (if t264 = true then ((relayref01_May.f k a1_0 a1_1 a1_2).bind fun t265 => (if t265 = true then (relaylaw01_ValueOrder.j0 k t258 t259 t260 t261 t262 t263 (a0_0 != a1_0) a0_0 a0_1 a0_2 a1_0 a1_1 a1_2) else (relaylaw01_ValueOrder.j0 k t258 t259 t260 t261 t262 t263 true a0_0 a0_1 a0_2 a1_0 a1_1 a1_2))) else (relaylaw01_ValueOrder.j0 k t258 t259 t260 t261 t262 t263 true a0_0 a0_1 a0_2 a1_0 a1_1 a1_2))) = some r := H
 have A5 := Aside0.mk A50
 clear A50
 have HC6 := Aside0.mk H
 clear H
 go_enter Try.func8, Try.ntmps8
 go_upto_region 4 with (first | ((with_reducible refine gate_dst (N := 2) rfl ?_); refine box_event ?hg (N := 2) ?hd (cs := #[.int .u8 a0_0, .int .u64 a0_1, .string a0_2]) (t := 27) ?hr ?_; (case hd => rfl); (case hg => rfl); (case hr => first | (go_simp; done) | (go_simp; rfl)); intro gb256 hg w7 hbox hb; have n0_ := bt HB hb; have n1_ := Aside0.mk (hbox); have n2_ := gs hg HB; have n3_ := gs hg HB; clear HB; have HB := n0_; have BK256 := n1_; have GW256 := n2_; have GE256 := n3_; clear n0_ n1_ n2_ n3_; clear hb hbox hg) | ((with_reducible refine gate_dst (N := 3) rfl ?_); refine box_event ?hg (N := 3) ?hd (cs := #[.int .u8 a1_0, .int .u64 a1_1, .string a1_2]) (t := 27) ?hr ?_; (case hd => rfl); (case hg => rfl); (case hr => first | (go_simp; done) | (go_simp; rfl)); intro gb257 hg w8 hbox hb; have n0_ := kb BK256 hb; have n1_ := bt HB hb; have n2_ := Aside0.mk (hbox); have n3_ := gs hg HB; have n4_ := gs hg HB; have n5_ := nl hg BK256; have n6_ := ng hg BK256; clear BK256; clear HB; have BK256 := n0_; have HB := n1_; have BK257 := n2_; have GW257 := n3_; have GE257 := n4_; have NB256_257 := n5_; have NB257_256 := n6_; clear n0_ n1_ n2_ n3_ n4_ n5_ n6_; clear hb hbox hg; have hnb9 := NB256_257.out; have hnc9 := NB257_256.out; have hcz10_0 : w8.cell? ⟨gb256, 0, none⟩ = some (.int .u8 a0_0) := bc BK256 0; have hcz10_1 : w8.cell? ⟨gb256, 1, none⟩ = some (.int .u64 a0_1) := bc BK256 1; have hcz10_2 : w8.cell? ⟨gb256, 2, none⟩ = some (.string a0_2) := bc BK256 2; have hfz10_0 := blk_frozen BK256.out 0; have hfz10_1 := blk_frozen BK256.out 1; have hfz10_2 := blk_frozen BK256.out 2; have hcz11_0 : w8.cell? ⟨gb257, 0, none⟩ = some (.int .u8 a1_0) := bc BK257 0; have hcz11_1 : w8.cell? ⟨gb257, 1, none⟩ = some (.int .u64 a1_1) := bc BK257 1; have hcz11_2 : w8.cell? ⟨gb257, 2, none⟩ = some (.string a1_2) := bc BK257 2; have hfz11_0 := blk_frozen BK257.out 0; have hfz11_1 := blk_frozen BK257.out 1; have hfz11_2 := blk_frozen BK257.out 2) | ((with_reducible refine gate_callee (f := 32) rfl ?_); refine goesL_ (some 19) rfl rfl Try.func32 (by kernel_rfl) rfl #[.int .i64 11, .agg #[.int .u8 a0_0, .int .u64 a0_1, .string a0_2], .agg #[.int .u8 a1_0, .int .u64 a1_1, .string a1_2]] rfl (by (try simp only [List.map_toArray, List.map_cons, List.map_nil]); first | done | rfl | (simp only [List.length_drop, List.length_take]; rfl)) ?_; (with_reducible refine (relaylaw01_truth.calls k 11 a0_0 a0_1 a0_2 a1_0 a1_1 a1_2 t258 t259 _ A3.out).mono ?_); rintro e w12 ⟨rfl, hb⟩; refine ⟨_, rfl, ?_⟩; have n0_ := kb BK256 hb; have n1_ := kb BK257 hb; have n2_ := bt HB hb; clear BK256; clear BK257; clear HB; have BK256 := n0_; have BK257 := n1_; have HB := n2_; clear n0_ n1_ n2_; (try clear hb); (try clear hb2); (try clear hk); (try clear hi); have hcz13_0 : w12.cell? ⟨gb256, 0, none⟩ = some (.int .u8 a0_0) := bc BK256 0; have hcz13_1 : w12.cell? ⟨gb256, 1, none⟩ = some (.int .u64 a0_1) := bc BK256 1; have hcz13_2 : w12.cell? ⟨gb256, 2, none⟩ = some (.string a0_2) := bc BK256 2; have hfz13_0 := blk_frozen BK256.out 0; have hfz13_1 := blk_frozen BK256.out 1; have hfz13_2 := blk_frozen BK256.out 2; have hcz14_0 : w12.cell? ⟨gb257, 0, none⟩ = some (.int .u8 a1_0) := bc BK257 0; have hcz14_1 : w12.cell? ⟨gb257, 1, none⟩ = some (.int .u64 a1_1) := bc BK257 1; have hcz14_2 : w12.cell? ⟨gb257, 2, none⟩ = some (.string a1_2) := bc BK257 2; have hfz14_0 := blk_frozen BK257.out 0; have hfz14_1 := blk_frozen BK257.out 1; have hfz14_2 := blk_frozen BK257.out 2) | ((with_reducible refine gate_callee (f := 32) rfl ?_); refine goesL_ (some 25) rfl rfl Try.func32 (by kernel_rfl) rfl #[.int .i64 9, .agg #[.int .u8 a0_0, .int .u64 a0_1, .string a0_2], .agg #[.int .u8 a1_0, .int .u64 a1_1, .string a1_2]] rfl (by (try simp only [List.map_toArray, List.map_cons, List.map_nil]); first | done | rfl | (simp only [List.length_drop, List.length_take]; rfl)) ?_; (with_reducible refine (relaylaw01_truth.calls k 9 a0_0 a0_1 a0_2 a1_0 a1_1 a1_2 t260 t261 _ A4.out).mono ?_); rintro e w15 ⟨rfl, hb⟩; refine ⟨_, rfl, ?_⟩; have n0_ := kb BK256 hb; have n1_ := kb BK257 hb; have n2_ := bt HB hb; clear BK256; clear BK257; clear HB; have BK256 := n0_; have BK257 := n1_; have HB := n2_; clear n0_ n1_ n2_; (try clear hb); (try clear hb2); (try clear hk); (try clear hi); have hcz16_0 : w15.cell? ⟨gb256, 0, none⟩ = some (.int .u8 a0_0) := bc BK256 0; have hcz16_1 : w15.cell? ⟨gb256, 1, none⟩ = some (.int .u64 a0_1) := bc BK256 1; have hcz16_2 : w15.cell? ⟨gb256, 2, none⟩ = some (.string a0_2) := bc BK256 2; have hfz16_0 := blk_frozen BK256.out 0; have hfz16_1 := blk_frozen BK256.out 1; have hfz16_2 := blk_frozen BK256.out 2; have hcz17_0 : w15.cell? ⟨gb257, 0, none⟩ = some (.int .u8 a1_0) := bc BK257 0; have hcz17_1 : w15.cell? ⟨gb257, 1, none⟩ = some (.int .u64 a1_1) := bc BK257 1; have hcz17_2 : w15.cell? ⟨gb257, 2, none⟩ = some (.string a1_2) := bc BK257 2; have hfz17_0 := blk_frozen BK257.out 0; have hfz17_1 := blk_frozen BK257.out 1; have hfz17_2 := blk_frozen BK257.out 2) | ((with_reducible refine gate_callee (f := 32) rfl ?_); refine goesL_ (some 31) rfl rfl Try.func32 (by kernel_rfl) rfl #[.int .i64 13, .agg #[.int .u8 a0_0, .int .u64 a0_1, .string a0_2], .agg #[.int .u8 a1_0, .int .u64 a1_1, .string a1_2]] rfl (by (try simp only [List.map_toArray, List.map_cons, List.map_nil]); first | done | rfl | (simp only [List.length_drop, List.length_take]; rfl)) ?_; (with_reducible refine (relaylaw01_truth.calls k 13 a0_0 a0_1 a0_2 a1_0 a1_1 a1_2 t262 t263 _ A5.out).mono ?_); rintro e w18 ⟨rfl, hb⟩; refine ⟨_, rfl, ?_⟩; have n0_ := kb BK256 hb; have n1_ := kb BK257 hb; have n2_ := bt HB hb; clear BK256; clear BK257; clear HB; have BK256 := n0_; have BK257 := n1_; have HB := n2_; clear n0_ n1_ n2_; (try clear hb); (try clear hb2); (try clear hk); (try clear hi)))
 (try simp only [Act.put, List.setIfInBounds_toArray, List.set_cons_zero, List.set_cons_succ])
 go_cut [48] (fun v48 wc => ∃ (kq : Nat) (x48_5 : Bool), v48 = .bool x48_5 ∧ Aside0 (relaylaw01_ValueOrder.j0 kq t258 t259 t260 t261 t262 t263 x48_5 a0_0 a0_1 a0_2 a1_0 a1_1 a1_2 = some r) ∧ Aside0 (kq ≤ k) ∧ Aside0 (wc.heap[gb256]? = some (.cells #[.int .u8 a0_0, .int .u64 a0_1, .string a0_2] 27 (0, 0))) ∧ Aside0 (wc.heap[gb257]? = some (.cells #[.int .u8 a1_0, .int .u64 a1_1, .string a1_2] 27 (0, 0))) ∧ Aside0 (Below w.heap.size w wc))
 case first =>
  have H := HC6.out
  clear HC6
  replace H := Option.bind_eq_some_iff.mp H
  obtain ⟨t264, A190, H⟩ := H
  replace H : (if t264 = true then ((relayref01_May.f k a1_0 a1_1 a1_2).bind fun t265 => (if t265 = true then (relaylaw01_ValueOrder.j0 k t258 t259 t260 t261 t262 t263 (a0_0 != a1_0) a0_0 a0_1 a0_2 a1_0 a1_1 a1_2) else (relaylaw01_ValueOrder.j0 k t258 t259 t260 t261 t262 t263 true a0_0 a0_1 a0_2 a1_0 a1_1 a1_2))) else (relaylaw01_ValueOrder.j0 k t258 t259 t260 t261 t262 t263 true a0_0 a0_1 a0_2 a1_0 a1_1 a1_2)) = some r := H
  have A19 := Aside0.mk A190
  clear A190
  by_cases c20 : t264 = true
  ·subst c20
   have H1 : ((relayref01_May.f k a1_0 a1_1 a1_2).bind fun t265 => (if t265 = true then (relaylaw01_ValueOrder.j0 k t258 t259 t260 t261 t262 t263 (a0_0 != a1_0) a0_0 a0_1 a0_2 a1_0 a1_1 a1_2) else (relaylaw01_ValueOrder.j0 k t258 t259 t260 t261 t262 t263 true a0_0 a0_1 a0_2 a1_0 a1_1 a1_2))) = some r := by rw [if_pos rfl] at H; exact H
   clear H
   have H := H1
   clear H1
   replace H := Option.bind_eq_some_iff.mp H
   obtain ⟨t265, A210, H⟩ := H
   replace H : (if t265 = true then (relaylaw01_ValueOrder.j0 k t258 t259 t260 t261 t262 t263 (a0_0 != a1_0) a0_0 a0_1 a0_2 a1_0 a1_1 a1_2) else (relaylaw01_ValueOrder.j0 k t258 t259 t260 t261 t262 t263 true a0_0 a0_1 a0_2 a1_0 a1_1 a1_2)) = some r := H
   have A21 := Aside0.mk A210
   clear A210
   by_cases c22 : t265 = true
   ·subst c22
    have H1 : (relaylaw01_ValueOrder.j0 k t258 t259 t260 t261 t262 t263 (a0_0 != a1_0) a0_0 a0_1 a0_2 a1_0 a1_1 a1_2) = some r := by rw [if_pos rfl] at H; exact H
    clear H
    have H := H1
    clear H1
    have H' := Aside0.mk H
    clear H
    have hnb23 := NB256_257.out
    have hnc23 := NB257_256.out
    have hcz24_0 : w18.cell? ⟨gb256, 0, none⟩ = some (.int .u8 a0_0) := bc BK256 0
    have hcz24_1 : w18.cell? ⟨gb256, 1, none⟩ = some (.int .u64 a0_1) := bc BK256 1
    have hcz24_2 : w18.cell? ⟨gb256, 2, none⟩ = some (.string a0_2) := bc BK256 2
    have hfz24_0 := blk_frozen BK256.out 0
    have hfz24_1 := blk_frozen BK256.out 1
    have hfz24_2 := blk_frozen BK256.out 2
    go_wp2_with (first | ((with_reducible refine gate_callee (f := 10) rfl ?_); refine goesL_ (some 35) rfl rfl Try.func10 (by kernel_rfl) rfl #[.agg #[.int .u8 a0_0, .int .u64 a0_1, .string a0_2]] rfl (by (try simp only [List.map_toArray, List.map_cons, List.map_nil]); first | done | rfl | (simp only [List.length_drop, List.length_take]; rfl)) ?_; (with_reducible refine (relayref01_May.calls k a0_0 a0_1 a0_2 true _ A19.out).mono ?_); rintro e w25 ⟨rfl, hb⟩; refine ⟨_, rfl, ?_⟩; have n0_ := kb BK256 hb; have n1_ := kb BK257 hb; have n2_ := bt HB hb; clear BK256; clear BK257; clear HB; have BK256 := n0_; have BK257 := n1_; have HB := n2_; clear n0_ n1_ n2_; (try clear hb); (try clear hb2); (try clear hk); (try clear hi); have hcz26_0 : w25.cell? ⟨gb257, 0, none⟩ = some (.int .u8 a1_0) := bc BK257 0; have hcz26_1 : w25.cell? ⟨gb257, 1, none⟩ = some (.int .u64 a1_1) := bc BK257 1; have hcz26_2 : w25.cell? ⟨gb257, 2, none⟩ = some (.string a1_2) := bc BK257 2; have hfz26_0 := blk_frozen BK257.out 0; have hfz26_1 := blk_frozen BK257.out 1; have hfz26_2 := blk_frozen BK257.out 2) | (go_at_call 10; (with_reducible refine (relayref01_May.calls k a1_0 a1_1 a1_2 true _ A21.out).mono ?_); rintro e w27 ⟨rfl, hb⟩; have n0_ := kb BK256 hb; have n1_ := kb BK257 hb; have n2_ := bt HB hb; clear BK256; clear BK257; clear HB; have BK256 := n0_; have BK257 := n1_; have HB := n2_; clear n0_ n1_ n2_; (try clear hb); (try clear hb2); (try clear hk); (try clear hi); have hcz28_0 : w27.cell? ⟨gb256, 0, none⟩ = some (.int .u8 a0_0) := bc BK256 0; have hcz28_1 : w27.cell? ⟨gb256, 1, none⟩ = some (.int .u64 a0_1) := bc BK256 1; have hcz28_2 : w27.cell? ⟨gb256, 2, none⟩ = some (.string a0_2) := bc BK256 2; have hfz28_0 := blk_frozen BK256.out 0; have hfz28_1 := blk_frozen BK256.out 1; have hfz28_2 := blk_frozen BK256.out 2; have hcz29_0 : w27.cell? ⟨gb257, 0, none⟩ = some (.int .u8 a1_0) := bc BK257 0; have hcz29_1 : w27.cell? ⟨gb257, 1, none⟩ = some (.int .u64 a1_1) := bc BK257 1; have hcz29_2 : w27.cell? ⟨gb257, 2, none⟩ = some (.string a1_2) := bc BK257 2; have hfz29_0 := blk_frozen BK257.out 0; have hfz29_1 := blk_frozen BK257.out 1; have hfz29_2 := blk_frozen BK257.out 2))
    go_meet
    case rel => exact ⟨_, ((a0_0 != a1_0)), (by first | rfl | (simp; done) | (simp [*]; done)), H', ⟨by first | omega | exact Nat.le_refl _⟩, ⟨by (with_reducible repeat (first | refine blk_drewN ?_ _ | refine blk_drew ?_ | refine blk_alloc ?_ _)); exact BK256.out⟩, ⟨by (with_reducible repeat (first | refine blk_drewN ?_ _ | refine blk_drew ?_ | refine blk_alloc ?_ _)); exact BK257.out⟩, ⟨bs HB⟩⟩
   ·replace c22 := Bool.eq_false_iff.mpr c22
    subst c22
    have H1 : (relaylaw01_ValueOrder.j0 k t258 t259 t260 t261 t262 t263 true a0_0 a0_1 a0_2 a1_0 a1_1 a1_2) = some r := by rw [if_neg (show ¬ (false = true) by decide)] at H; exact H
    clear H
    have H := H1
    clear H1
    have H' := Aside0.mk H
    clear H
    have hnb30 := NB256_257.out
    have hnc30 := NB257_256.out
    have hcz31_0 : w18.cell? ⟨gb256, 0, none⟩ = some (.int .u8 a0_0) := bc BK256 0
    have hcz31_1 : w18.cell? ⟨gb256, 1, none⟩ = some (.int .u64 a0_1) := bc BK256 1
    have hcz31_2 : w18.cell? ⟨gb256, 2, none⟩ = some (.string a0_2) := bc BK256 2
    have hfz31_0 := blk_frozen BK256.out 0
    have hfz31_1 := blk_frozen BK256.out 1
    have hfz31_2 := blk_frozen BK256.out 2
    go_wp2_with (first | ((with_reducible refine gate_callee (f := 10) rfl ?_); refine goesL_ (some 35) rfl rfl Try.func10 (by kernel_rfl) rfl #[.agg #[.int .u8 a0_0, .int .u64 a0_1, .string a0_2]] rfl (by (try simp only [List.map_toArray, List.map_cons, List.map_nil]); first | done | rfl | (simp only [List.length_drop, List.length_take]; rfl)) ?_; (with_reducible refine (relayref01_May.calls k a0_0 a0_1 a0_2 true _ A19.out).mono ?_); rintro e w32 ⟨rfl, hb⟩; refine ⟨_, rfl, ?_⟩; have n0_ := kb BK256 hb; have n1_ := kb BK257 hb; have n2_ := bt HB hb; clear BK256; clear BK257; clear HB; have BK256 := n0_; have BK257 := n1_; have HB := n2_; clear n0_ n1_ n2_; (try clear hb); (try clear hb2); (try clear hk); (try clear hi); have hcz33_0 : w32.cell? ⟨gb257, 0, none⟩ = some (.int .u8 a1_0) := bc BK257 0; have hcz33_1 : w32.cell? ⟨gb257, 1, none⟩ = some (.int .u64 a1_1) := bc BK257 1; have hcz33_2 : w32.cell? ⟨gb257, 2, none⟩ = some (.string a1_2) := bc BK257 2; have hfz33_0 := blk_frozen BK257.out 0; have hfz33_1 := blk_frozen BK257.out 1; have hfz33_2 := blk_frozen BK257.out 2) | (go_at_call 10; (with_reducible refine (relayref01_May.calls k a1_0 a1_1 a1_2 false _ A21.out).mono ?_); rintro e w34 ⟨rfl, hb⟩; have n0_ := kb BK256 hb; have n1_ := kb BK257 hb; have n2_ := bt HB hb; clear BK256; clear BK257; clear HB; have BK256 := n0_; have BK257 := n1_; have HB := n2_; clear n0_ n1_ n2_; (try clear hb); (try clear hb2); (try clear hk); (try clear hi)))
    go_meet
    case rel => exact ⟨_, (true), (by first | rfl | (simp; done) | (simp [*]; done)), H', ⟨by first | omega | exact Nat.le_refl _⟩, ⟨by (with_reducible repeat (first | refine blk_drewN ?_ _ | refine blk_drew ?_ | refine blk_alloc ?_ _)); exact BK256.out⟩, ⟨by (with_reducible repeat (first | refine blk_drewN ?_ _ | refine blk_drew ?_ | refine blk_alloc ?_ _)); exact BK257.out⟩, ⟨bs HB⟩⟩
  ·replace c20 := Bool.eq_false_iff.mpr c20
   subst c20
   have H1 : (relaylaw01_ValueOrder.j0 k t258 t259 t260 t261 t262 t263 true a0_0 a0_1 a0_2 a1_0 a1_1 a1_2) = some r := by rw [if_neg (show ¬ (false = true) by decide)] at H; exact H
   clear H
   have H := H1
   clear H1
   have H' := Aside0.mk H
   clear H
   have hnb35 := NB256_257.out
   have hnc35 := NB257_256.out
   have hcz36_0 : w18.cell? ⟨gb256, 0, none⟩ = some (.int .u8 a0_0) := bc BK256 0
   have hcz36_1 : w18.cell? ⟨gb256, 1, none⟩ = some (.int .u64 a0_1) := bc BK256 1
   have hcz36_2 : w18.cell? ⟨gb256, 2, none⟩ = some (.string a0_2) := bc BK256 2
   have hfz36_0 := blk_frozen BK256.out 0
   have hfz36_1 := blk_frozen BK256.out 1
   have hfz36_2 := blk_frozen BK256.out 2
   go_wp2_with (first | ((with_reducible refine gate_callee (f := 10) rfl ?_); refine goesL_ (some 35) rfl rfl Try.func10 (by kernel_rfl) rfl #[.agg #[.int .u8 a0_0, .int .u64 a0_1, .string a0_2]] rfl (by (try simp only [List.map_toArray, List.map_cons, List.map_nil]); first | done | rfl | (simp only [List.length_drop, List.length_take]; rfl)) ?_; (with_reducible refine (relayref01_May.calls k a0_0 a0_1 a0_2 false _ A19.out).mono ?_); rintro e w37 ⟨rfl, hb⟩; refine ⟨_, rfl, ?_⟩; have n0_ := kb BK256 hb; have n1_ := kb BK257 hb; have n2_ := bt HB hb; clear BK256; clear BK257; clear HB; have BK256 := n0_; have BK257 := n1_; have HB := n2_; clear n0_ n1_ n2_; (try clear hb); (try clear hb2); (try clear hk); (try clear hi)))
   go_meet
   case rel => exact ⟨_, (true), (by first | rfl | (simp; done) | (simp [*]; done)), H', ⟨by first | omega | exact Nat.le_refl _⟩, ⟨by (with_reducible repeat (first | refine blk_drewN ?_ _ | refine blk_drew ?_ | refine blk_alloc ?_ _)); exact BK256.out⟩, ⟨by (with_reducible repeat (first | refine blk_drewN ?_ _ | refine blk_drew ?_ | refine blk_alloc ?_ _)); exact BK257.out⟩, ⟨bs HB⟩⟩
 case rest =>
  clear HC6
  (try clear c1);(try clear c2);(try clear p2);(try clear c3);(try clear c8);(try clear c9);(try clear c10);(try clear c20);(try clear c22);(try clear c23);(try clear c30);(try clear c32);(try clear c35);(try clear hcz10_0);(try clear hcz10_1);(try clear hcz10_2);(try clear hcz11_0);(try clear hcz11_1);(try clear hcz11_2);(try clear hcz13_0);(try clear hcz13_1);(try clear hcz13_2);(try clear hcz14_0);(try clear hcz14_1);(try clear hcz14_2);(try clear hcz16_0);(try clear hcz16_1);(try clear hcz16_2);(try clear hcz17_0);(try clear hcz17_1);(try clear hcz17_2);(try clear hcz24_0);(try clear hcz24_1);(try clear hcz24_2);(try clear hcz26_0);(try clear hcz26_1);(try clear hcz26_2);(try clear hcz28_0);(try clear hcz28_1);(try clear hcz28_2);(try clear hcz29_0);(try clear hcz29_1);(try clear hcz29_2);(try clear hcz31_0);(try clear hcz31_1);(try clear hcz31_2);(try clear hcz33_0);(try clear hcz33_1);(try clear hcz33_2);(try clear hcz36_0);(try clear hcz36_1);(try clear hcz36_2);(try clear hfz10_0);(try clear hfz10_1);(try clear hfz10_2);(try clear hfz11_0);(try clear hfz11_1);(try clear hfz11_2);(try clear hfz13_0);(try clear hfz13_1);(try clear hfz13_2);(try clear hfz14_0);(try clear hfz14_1);(try clear hfz14_2);(try clear hfz16_0);(try clear hfz16_1);(try clear hfz16_2);(try clear hfz17_0);(try clear hfz17_1);(try clear hfz17_2);(try clear hfz24_0);(try clear hfz24_1);(try clear hfz24_2);(try clear hfz26_0);(try clear hfz26_1);(try clear hfz26_2);(try clear hfz28_0);(try clear hfz28_1);(try clear hfz28_2);(try clear hfz29_0);(try clear hfz29_1);(try clear hfz29_2);(try clear hfz31_0);(try clear hfz31_1);(try clear hfz31_2);(try clear hfz33_0);(try clear hfz33_1);(try clear hfz33_2);(try clear hfz36_0);(try clear hfz36_1);(try clear hfz36_2)
  obtain ⟨kq, x48_5, rfl, HA, HJ5, BK256, BK257, HB⟩ := hcut
  cases kq with
  | zero => exact absurd HA.out (by simp [relaylaw01_ValueOrder.j0])
  | succ kj5 =>
   have H := HA.out
   clear HA
   simp only [relaylaw01_ValueOrder.j0] at H
   by_cases c38 : x48_5 = true
   ·subst c38
    have H1 : (if t259 = true then (some false) else (if t261 = true then (some false) else (some (!t263)))) = some r := by rw [if_pos rfl] at H; exact H
    clear H
    have H := H1
    clear H1
    by_cases c39 : t259 = true
    ·subst c39
     have H1 : (some false) = some r := by rw [if_pos rfl] at H; exact H
     clear H
     have H := H1
     clear H1
     obtain rfl := Option.some.inj H
     go_wp2
     go_ret
     exact ⟨by first | rfl | (simp [errW_none, errW_some] <;> rfl) | (simp [*, errW_none, errW_some] <;> rfl), bs HB⟩
    ·replace c39 := Bool.eq_false_iff.mpr c39
     subst c39
     have H1 : (if t261 = true then (some false) else (some (!t263))) = some r := by rw [if_neg (show ¬ (false = true) by decide)] at H; exact H
     clear H
     have H := H1
     clear H1
     by_cases c40 : t261 = true
     ·subst c40
      have H1 : (some false) = some r := by rw [if_pos rfl] at H; exact H
      clear H
      have H := H1
      clear H1
      obtain rfl := Option.some.inj H
      go_wp2
      go_ret
      exact ⟨by first | rfl | (simp [errW_none, errW_some] <;> rfl) | (simp [*, errW_none, errW_some] <;> rfl), bs HB⟩
     ·replace c40 := Bool.eq_false_iff.mpr c40
      subst c40
      have H1 : (some (!t263)) = some r := by rw [if_neg (show ¬ (false = true) by decide)] at H; exact H
      clear H
      have H := H1
      clear H1
      obtain rfl := Option.some.inj H
      go_wp2
      go_ret
      exact ⟨by first | rfl | (simp [errW_none, errW_some] <;> rfl) | (simp [*, errW_none, errW_some] <;> rfl), bs HB⟩
   ·replace c38 := Bool.eq_false_iff.mpr c38
    subst c38
    have H1 : (if t259 = true then (if t261 = true then (relaylaw01_ValueOrder.j1 kj5 t258 t260 t262 (!t263) a0_0 a0_1 a0_2 a1_0 a1_1 a1_2) else (relaylaw01_ValueOrder.j1 kj5 t258 t260 t262 true a0_0 a0_1 a0_2 a1_0 a1_1 a1_2)) else (relaylaw01_ValueOrder.j1 kj5 t258 t260 t262 true a0_0 a0_1 a0_2 a1_0 a1_1 a1_2)) = some r := by rw [if_neg (show ¬ (false = true) by decide)] at H; exact H
    clear H
    have H := H1
    clear H1
    have HC41 := Aside0.mk H
    clear H
    go_upto_region 6 with (fail)
    go_cut [68] (fun v68 wc => ∃ (kq : Nat) (x68_40 : Bool), v68 = .bool x68_40 ∧ Aside0 (relaylaw01_ValueOrder.j1 kq t258 t260 t262 x68_40 a0_0 a0_1 a0_2 a1_0 a1_1 a1_2 = some r) ∧ Aside0 (kq ≤ kj5) ∧ Aside0 (wc.heap[gb256]? = some (.cells #[.int .u8 a0_0, .int .u64 a0_1, .string a0_2] 27 (0, 0))) ∧ Aside0 (wc.heap[gb257]? = some (.cells #[.int .u8 a1_0, .int .u64 a1_1, .string a1_2] 27 (0, 0))) ∧ Aside0 (Below w.heap.size w wc))
    case first =>
     have H := HC41.out
     clear HC41
     by_cases c42 : t259 = true
     ·subst c42
      have H1 : (if t261 = true then (relaylaw01_ValueOrder.j1 kj5 t258 t260 t262 (!t263) a0_0 a0_1 a0_2 a1_0 a1_1 a1_2) else (relaylaw01_ValueOrder.j1 kj5 t258 t260 t262 true a0_0 a0_1 a0_2 a1_0 a1_1 a1_2)) = some r := by rw [if_pos rfl] at H; exact H
      clear H
      have H := H1
      clear H1
      by_cases c43 : t261 = true
      ·subst c43
       have H1 : (relaylaw01_ValueOrder.j1 kj5 t258 t260 t262 (!t263) a0_0 a0_1 a0_2 a1_0 a1_1 a1_2) = some r := by rw [if_pos rfl] at H; exact H
       clear H
       have H := H1
       clear H1
       have H' := Aside0.mk H
       clear H
       go_wp2
       go_meet
       case rel => exact ⟨_, (!t263), (by first | rfl | (simp; done) | (simp [*]; done)), H', ⟨by have := HJ5.out; first | omega | exact Nat.le_refl _⟩, ⟨by (with_reducible repeat (first | refine blk_drewN ?_ _ | refine blk_drew ?_ | refine blk_alloc ?_ _)); exact BK256.out⟩, ⟨by (with_reducible repeat (first | refine blk_drewN ?_ _ | refine blk_drew ?_ | refine blk_alloc ?_ _)); exact BK257.out⟩, ⟨bs HB⟩⟩
      ·replace c43 := Bool.eq_false_iff.mpr c43
       subst c43
       have H1 : (relaylaw01_ValueOrder.j1 kj5 t258 t260 t262 true a0_0 a0_1 a0_2 a1_0 a1_1 a1_2) = some r := by rw [if_neg (show ¬ (false = true) by decide)] at H; exact H
       clear H
       have H := H1
       clear H1
       have H' := Aside0.mk H
       clear H
       go_wp2
       go_meet
       case rel => exact ⟨_, (true), (by first | rfl | (simp; done) | (simp [*]; done)), H', ⟨by have := HJ5.out; first | omega | exact Nat.le_refl _⟩, ⟨by (with_reducible repeat (first | refine blk_drewN ?_ _ | refine blk_drew ?_ | refine blk_alloc ?_ _)); exact BK256.out⟩, ⟨by (with_reducible repeat (first | refine blk_drewN ?_ _ | refine blk_drew ?_ | refine blk_alloc ?_ _)); exact BK257.out⟩, ⟨bs HB⟩⟩
     ·replace c42 := Bool.eq_false_iff.mpr c42
      subst c42
      have H1 : (relaylaw01_ValueOrder.j1 kj5 t258 t260 t262 true a0_0 a0_1 a0_2 a1_0 a1_1 a1_2) = some r := by rw [if_neg (show ¬ (false = true) by decide)] at H; exact H
      clear H
      have H := H1
      clear H1
      have H' := Aside0.mk H
      clear H
      go_wp2
      go_meet
      case rel => exact ⟨_, (true), (by first | rfl | (simp; done) | (simp [*]; done)), H', ⟨by have := HJ5.out; first | omega | exact Nat.le_refl _⟩, ⟨by (with_reducible repeat (first | refine blk_drewN ?_ _ | refine blk_drew ?_ | refine blk_alloc ?_ _)); exact BK256.out⟩, ⟨by (with_reducible repeat (first | refine blk_drewN ?_ _ | refine blk_drew ?_ | refine blk_alloc ?_ _)); exact BK257.out⟩, ⟨bs HB⟩⟩
    case rest =>
     clear HC41
     (try clear c1);(try clear c2);(try clear p2);(try clear c3);(try clear c4);(try clear c8);(try clear c9);(try clear c10);(try clear c20);(try clear c22);(try clear c23);(try clear c30);(try clear c32);(try clear c35);(try clear c38);(try clear c39);(try clear c40);(try clear c42);(try clear c43);(try clear hcz10_0);(try clear hcz10_1);(try clear hcz10_2);(try clear hcz11_0);(try clear hcz11_1);(try clear hcz11_2);(try clear hcz13_0);(try clear hcz13_1);(try clear hcz13_2);(try clear hcz14_0);(try clear hcz14_1);(try clear hcz14_2);(try clear hcz16_0);(try clear hcz16_1);(try clear hcz16_2);(try clear hcz17_0);(try clear hcz17_1);(try clear hcz17_2);(try clear hcz24_0);(try clear hcz24_1);(try clear hcz24_2);(try clear hcz26_0);(try clear hcz26_1);(try clear hcz26_2);(try clear hcz28_0);(try clear hcz28_1);(try clear hcz28_2);(try clear hcz29_0);(try clear hcz29_1);(try clear hcz29_2);(try clear hcz31_0);(try clear hcz31_1);(try clear hcz31_2);(try clear hcz33_0);(try clear hcz33_1);(try clear hcz33_2);(try clear hcz36_0);(try clear hcz36_1);(try clear hcz36_2);(try clear hfz10_0);(try clear hfz10_1);(try clear hfz10_2);(try clear hfz11_0);(try clear hfz11_1);(try clear hfz11_2);(try clear hfz13_0);(try clear hfz13_1);(try clear hfz13_2);(try clear hfz14_0);(try clear hfz14_1);(try clear hfz14_2);(try clear hfz16_0);(try clear hfz16_1);(try clear hfz16_2);(try clear hfz17_0);(try clear hfz17_1);(try clear hfz17_2);(try clear hfz24_0);(try clear hfz24_1);(try clear hfz24_2);(try clear hfz26_0);(try clear hfz26_1);(try clear hfz26_2);(try clear hfz28_0);(try clear hfz28_1);(try clear hfz28_2);(try clear hfz29_0);(try clear hfz29_1);(try clear hfz29_2);(try clear hfz31_0);(try clear hfz31_1);(try clear hfz31_2);(try clear hfz33_0);(try clear hfz33_1);(try clear hfz33_2);(try clear hfz36_0);(try clear hfz36_1);(try clear hfz36_2);(try clear p2)
     obtain ⟨kq, x68_40, rfl, HA, HJ40, BK256, BK257, HB⟩ := hcut
     cases kq with
     | zero => exact absurd HA.out (by simp [relaylaw01_ValueOrder.j1])
     | succ kj40 =>
      have H := HA.out
      clear HA
      simp only [relaylaw01_ValueOrder.j1] at H
      by_cases c44 : x68_40 = true
      ·subst c44
       have H1 : (some false) = some r := by rw [if_pos rfl] at H; exact H
       clear H
       have H := H1
       clear H1
       obtain rfl := Option.some.inj H
       go_wp2
       go_ret
       exact ⟨by first | rfl | (simp [errW_none, errW_some] <;> rfl) | (simp [*, errW_none, errW_some] <;> rfl), bs HB⟩
      ·replace c44 := Bool.eq_false_iff.mpr c44
       subst c44
       have H1 : ((some (([t258, t260, t262] : List Bool) : List Bool)).bind fun y266 => (relaylaw01_ValueOrder.l0 kj40 t260 0 y266 (y266.length : Int) 0 a0_0 a0_1 a0_2 a1_0 a1_1 a1_2)) = some r := by rw [if_neg (show ¬ (false = true) by decide)] at H; exact H
       clear H
       have H := H1
       clear H1
       obtain ⟨y266, hy266⟩ : ∃ y_ : List Bool, y_ = (([t258, t260, t262] : List Bool)) := ⟨_, rfl⟩
       replace H : (relaylaw01_ValueOrder.l0 kj40 t260 0 y266 (y266.length : Int) 0 a0_0 a0_1 a0_2 a1_0 a1_1 a1_2) = some r := by first | (rw [hy266]; with_reducible exact H) | (have H2_ := (Option.bind_some _ _).symm.trans H; rw [hy266]; with_reducible exact H2_) | (have H2_ := (Option.bind_some _ _).symm.trans H; with_reducible exact H2_) | with_reducible exact H | (rw [hy266]; exact H) | exact H
       have Ny266 := Aside0.mk hy266
       clear hy266
       have H' := Aside0.mk H
       clear H
       go_wp2_with (first | ((with_reducible refine gate_dst (N := 72) rfl ?_); refine Kd.R_lit Kd.bool _ 4 ?hg (N := 72) ?hd (xs := ([t258, t260, t262] : List Bool)) (inner := [.bool t258, .bool t260, .bool t262]) (ok := fun _ => True) (okp := fun _ => True) ?hr ?hp (fun _ hk => hk) trivial (Below.refl _ _) (Nat.le_refl _) (by simp) ?_; (case hd => rfl); (case hg => rfl); (case hr => first | (go_simp; done) | (go_simp; rfl)); (case hp => exact (Reps.one (show Kd.M Kd.bool _ _ _ t258 [.bool t258] from rfl) (Reps.one (show Kd.M Kd.bool _ _ _ t260 [.bool t260] from rfl) (Reps.one (show Kd.M Kd.bool _ _ _ t262 [.bool t262] from rfl) (Reps.none _ _))))); intro v267 w45 ho46 hb hg_ hnew_; clear hg_ hnew_; (first | rw [← Ny266.out] at ho46 | (simp only [Int.reduceToNat] at ho46; rw [← Ny266.out] at ho46)); have n0_ := Aside0.mk (Kd.R_lower ho46 (below_size (bs HB))); have n1_ := kb BK256 hb; have n2_ := kb BK257 hb; have n3_ := bt HB hb; clear BK256; clear BK257; clear HB; have HO268 := n0_; have BK256 := n1_; have BK257 := n2_; have HB := n3_; clear n0_ n1_ n2_ n3_; clear hb ho46; obtain ⟨Ao47, co47, eo47⟩ := Kd.R_slice HO268.out; subst eo47))
       go_loopg [11, 74] kj40 (fun kq v11 v74 w' => ∃ (x11_3 : Int) (x74_3 : Int), v11 = .int .i64 x11_3 ∧ v74 = .int .i64 x74_3 ∧ Aside0 (relaylaw01_ValueOrder.l0 kq t260 x11_3 y266 (y266.length : Int) x74_3 a0_0 a0_1 a0_2 a1_0 a1_1 a1_2 = some r) ∧ Aside0 (kq ≤ kj40) ∧ Aside0 (Kd.R Kd.bool 4 w' w.heap.size (fun _ => True) (.slice Ao47 y266.length co47) y266) ∧ Aside0 (w'.heap[gb256]? = some (.cells #[.int .u8 a0_0, .int .u64 a0_1, .string a0_2] 27 (0, 0))) ∧ Aside0 (w'.heap[gb257]? = some (.cells #[.int .u8 a1_0, .int .u64 a1_1, .string a1_2] 27 (0, 0))) ∧ Aside0 (Below w.heap.size w w'))
       case atStart => exact ⟨(0), (0), (by first | rfl | (simp; done) | (simp [*]; done)), (by first | rfl | (simp; done) | (simp [*]; done)), H', ⟨Nat.le_refl _⟩, ⟨by (with_reducible repeat (first | apply Kd.R_alloc | apply Kd.R_drewN | apply Kd.R_drew)); exact HO268.out⟩, ⟨by (with_reducible repeat (first | refine blk_drewN ?_ _ | refine blk_drew ?_ | refine blk_alloc ?_ _)); exact BK256.out⟩, ⟨by (with_reducible repeat (first | refine blk_drewN ?_ _ | refine blk_drew ?_ | refine blk_alloc ?_ _)); exact BK257.out⟩, ⟨bs HB⟩⟩
       case round =>
        clear H'
        (try clear c1);(try clear c2);(try clear p2);(try clear c3);(try clear c4);(try clear c8);(try clear c9);(try clear c10);(try clear c20);(try clear c22);(try clear c23);(try clear c30);(try clear c32);(try clear c35);(try clear c38);(try clear c39);(try clear c40);(try clear c42);(try clear c43);(try clear c44);(try clear hcz10_0);(try clear hcz10_1);(try clear hcz10_2);(try clear hcz11_0);(try clear hcz11_1);(try clear hcz11_2);(try clear hcz13_0);(try clear hcz13_1);(try clear hcz13_2);(try clear hcz14_0);(try clear hcz14_1);(try clear hcz14_2);(try clear hcz16_0);(try clear hcz16_1);(try clear hcz16_2);(try clear hcz17_0);(try clear hcz17_1);(try clear hcz17_2);(try clear hcz24_0);(try clear hcz24_1);(try clear hcz24_2);(try clear hcz26_0);(try clear hcz26_1);(try clear hcz26_2);(try clear hcz28_0);(try clear hcz28_1);(try clear hcz28_2);(try clear hcz29_0);(try clear hcz29_1);(try clear hcz29_2);(try clear hcz31_0);(try clear hcz31_1);(try clear hcz31_2);(try clear hcz33_0);(try clear hcz33_1);(try clear hcz33_2);(try clear hcz36_0);(try clear hcz36_1);(try clear hcz36_2);(try clear hfz10_0);(try clear hfz10_1);(try clear hfz10_2);(try clear hfz11_0);(try clear hfz11_1);(try clear hfz11_2);(try clear hfz13_0);(try clear hfz13_1);(try clear hfz13_2);(try clear hfz14_0);(try clear hfz14_1);(try clear hfz14_2);(try clear hfz16_0);(try clear hfz16_1);(try clear hfz16_2);(try clear hfz17_0);(try clear hfz17_1);(try clear hfz17_2);(try clear hfz24_0);(try clear hfz24_1);(try clear hfz24_2);(try clear hfz26_0);(try clear hfz26_1);(try clear hfz26_2);(try clear hfz28_0);(try clear hfz28_1);(try clear hfz28_2);(try clear hfz29_0);(try clear hfz29_1);(try clear hfz29_2);(try clear hfz31_0);(try clear hfz31_1);(try clear hfz31_2);(try clear hfz33_0);(try clear hfz33_1);(try clear hfz33_2);(try clear hfz36_0);(try clear hfz36_1);(try clear hfz36_2);(try clear p2)
        obtain ⟨x11_3, x74_3, rfl, rfl, HA, HK3, HO_72, BK256, BK257, HB⟩ := hrel
        cases gk with
        | zero => exact absurd HA.out (by simp [relaylaw01_ValueOrder.l0])
        | succ k3 =>
         have H := HA.out
         clear HA
         simp only [relaylaw01_ValueOrder.l0] at H
         by_cases c48 : x74_3 < (y266.length : Int)
         ·rw [if_pos c48] at H
          have c48b0 : decide (x74_3 < (y266.length : Int)) = true := decide_eq_true c48
          clear c48
          by_cases c49 : 0 ≤ x74_3
          ·rw [if_pos c49] at H
           have c49b0 : decide (0 ≤ x74_3) = true := decide_eq_true c49
           clear c49
           by_cases c50 : x74_3 < (y266.length : Int)
           ·rw [if_pos c50] at H
            have c50b0 : decide (x74_3 < (y266.length : Int)) = true := decide_eq_true c50
            clear c50
            obtain ⟨bq51, hbq51⟩ : ∃ b_ : Bool, b_ = (rdOf false y266 x74_3) := ⟨_, rfl⟩
            replace H : (if bq51 = true then (relaylaw01_ValueOrder.l0 k3 t260 (wrap64 (x11_3 + 1)) y266 (y266.length : Int) (wrap64 (x74_3 + 1)) a0_0 a0_1 a0_2 a1_0 a1_1 a1_2) else (relaylaw01_ValueOrder.l0 k3 t260 x11_3 y266 (y266.length : Int) (wrap64 (x74_3 + 1)) a0_0 a0_1 a0_2 a1_0 a1_1 a1_2)) = some r := by rw [← hbq51] at H; exact H
            have Nbq51 := Aside0.mk hbq51
            clear hbq51
            by_cases c52 : bq51 = true
            ·subst c52
             have H1 : (relaylaw01_ValueOrder.l0 k3 t260 (wrap64 (x11_3 + 1)) y266 (y266.length : Int) (wrap64 (x74_3 + 1)) a0_0 a0_1 a0_2 a1_0 a1_1 a1_2) = some r := by rw [if_pos rfl] at H; exact H
             clear H
             have H := H1
             clear H1
             have H' := Aside0.mk H
             clear H
             have p275 : 0 ≤ (x74_3 : Int) := of_decide_eq_true (by first | (with_reducible assumption) | assumption)
             have q275 : x74_3 < (y266.length : Int) := of_decide_eq_true (by first | (with_reducible assumption) | assumption)
             obtain ⟨ad275, e275, hx275_0⟩ := Kd.at_bool (Kd.R_reads' HO_72.out).2.2 x74_3 p275 q275
             (try rw [← Nbq51.out] at hx275_0)
             cases e275
             replace p275 := eq_true p275
             replace q275 := eq_true q275
             go_wp2
             go_roundg k3
             case measure => have := HJ5.out; have := HJ40.out; have := HK3.out; omega
             case rel => (try rw [show decide (x74_3 < (y266.length : Int)) = true from by first | assumption | exact decide_eq_true (by assumption)]); (try rw [show decide (0 ≤ x74_3) = true from by first | assumption | exact decide_eq_true (by assumption)]); (try rw [show decide (x74_3 < (y266.length : Int)) = true from by first | assumption | exact decide_eq_true (by assumption)]); exact ⟨(wrap64 (x11_3 + 1)), (wrap64 (x74_3 + 1)), (by first | rfl | (simp; done) | (simp [*]; done)), (by first | rfl | (simp; done) | (simp [*]; done)), H', ⟨by have := HJ5.out; have := HJ40.out; have := HK3.out; omega⟩, ⟨by (with_reducible repeat (first | apply Kd.R_alloc | apply Kd.R_drewN | apply Kd.R_drew)); exact HO_72.out⟩, ⟨by (with_reducible repeat (first | refine blk_drewN ?_ _ | refine blk_drew ?_ | refine blk_alloc ?_ _)); exact BK256.out⟩, ⟨by (with_reducible repeat (first | refine blk_drewN ?_ _ | refine blk_drew ?_ | refine blk_alloc ?_ _)); exact BK257.out⟩, ⟨bs HB⟩⟩
            ·replace c52 := Bool.eq_false_iff.mpr c52
             subst c52
             have H1 : (relaylaw01_ValueOrder.l0 k3 t260 x11_3 y266 (y266.length : Int) (wrap64 (x74_3 + 1)) a0_0 a0_1 a0_2 a1_0 a1_1 a1_2) = some r := by rw [if_neg (show ¬ (false = true) by decide)] at H; exact H
             clear H
             have H := H1
             clear H1
             have H' := Aside0.mk H
             clear H
             have p275 : 0 ≤ (x74_3 : Int) := of_decide_eq_true (by first | (with_reducible assumption) | assumption)
             have q275 : x74_3 < (y266.length : Int) := of_decide_eq_true (by first | (with_reducible assumption) | assumption)
             obtain ⟨ad275, e275, hx275_0⟩ := Kd.at_bool (Kd.R_reads' HO_72.out).2.2 x74_3 p275 q275
             (try rw [← Nbq51.out] at hx275_0)
             cases e275
             replace p275 := eq_true p275
             replace q275 := eq_true q275
             go_wp2
             go_roundg k3
             case measure => have := HJ5.out; have := HJ40.out; have := HK3.out; omega
             case rel => (try rw [show decide (x74_3 < (y266.length : Int)) = true from by first | assumption | exact decide_eq_true (by assumption)]); (try rw [show decide (0 ≤ x74_3) = true from by first | assumption | exact decide_eq_true (by assumption)]); (try rw [show decide (x74_3 < (y266.length : Int)) = true from by first | assumption | exact decide_eq_true (by assumption)]); exact ⟨(x11_3), (wrap64 (x74_3 + 1)), (by first | rfl | (simp; done) | (simp [*]; done)), (by first | rfl | (simp; done) | (simp [*]; done)), H', ⟨by have := HJ5.out; have := HJ40.out; have := HK3.out; omega⟩, ⟨by (with_reducible repeat (first | apply Kd.R_alloc | apply Kd.R_drewN | apply Kd.R_drew)); exact HO_72.out⟩, ⟨by (with_reducible repeat (first | refine blk_drewN ?_ _ | refine blk_drew ?_ | refine blk_alloc ?_ _)); exact BK256.out⟩, ⟨by (with_reducible repeat (first | refine blk_drewN ?_ _ | refine blk_drew ?_ | refine blk_alloc ?_ _)); exact BK257.out⟩, ⟨bs HB⟩⟩
           ·rw [if_neg c50] at H
            exact absurd H (by simp)
          ·rw [if_neg c49] at H
           exact absurd H (by simp)
         ·rw [if_neg c48] at H
          have c48b0 : decide (x74_3 < (y266.length : Int)) = false := decide_eq_false c48
          clear c48
          by_cases c53 : a0_0 = 18
          ·rw [if_pos c53] at H
           have c53b0 : (a0_0 == 18) = true := beq_iff_eq.mpr c53
           have c53b1 : (a0_0 != 18) = false := bne_eq_false_iff_eq.mpr c53
           clear c53
           by_cases c54 : a0_1 = 9221120237041090561
           ·rw [if_pos c54] at H
            have c54b0 : (a0_1 == 9221120237041090561) = true := beq_iff_eq.mpr c54
            have c54b1 : (a0_1 != 9221120237041090561) = false := bne_eq_false_iff_eq.mpr c54
            clear c54
            replace H := Option.bind_eq_some_iff.mp H
            obtain ⟨⟨t269, t270⟩, A550, H⟩ := H
            replace H : (if t270 = true then (if (t269 == (!t260)) = true then (if x11_3 = 0 then (some true) else (some false)) else (some false)) else (some false)) = some r := H
            have A55 := Aside0.mk A550
            clear A550
            by_cases c56 : t270 = true
            ·subst c56
             have H1 : (if (t269 == (!t260)) = true then (if x11_3 = 0 then (some true) else (some false)) else (some false)) = some r := by rw [if_pos rfl] at H; exact H
             clear H
             have H := H1
             clear H1
             by_cases c57 : (t269 == (!t260)) = true
             ·rw [if_pos c57] at H
              have c57b0 : (t269 == (!t260)) = true := c57
              (try (have c57b1 : decide (t269 = (!t260)) = true := by simpa using c57))
              (try (have c57b2 : (t269 == (!t260)) = true := by simpa using c57))
              clear c57
              by_cases c58 : x11_3 = 0
              ·rw [if_pos c58] at H
               have c58b0 : (x11_3 == 0) = true := beq_iff_eq.mpr c58
               have c58b1 : (x11_3 != 0) = false := bne_eq_false_iff_eq.mpr c58
               clear c58
               obtain rfl := Option.some.inj H
               have hnb59 := NB256_257.out
               have hnc59 := NB257_256.out
               have hcz60_0 : wr.cell? ⟨gb256, 0, none⟩ = some (.int .u8 a0_0) := bc BK256 0
               have hcz60_1 : wr.cell? ⟨gb256, 1, none⟩ = some (.int .u64 a0_1) := bc BK256 1
               have hcz60_2 : wr.cell? ⟨gb256, 2, none⟩ = some (.string a0_2) := bc BK256 2
               have hfz60_0 := blk_frozen BK256.out 0
               have hfz60_1 := blk_frozen BK256.out 1
               have hfz60_2 := blk_frozen BK256.out 2
               have hcz61_0 : wr.cell? ⟨gb257, 0, none⟩ = some (.int .u8 a1_0) := bc BK257 0
               have hcz61_1 : wr.cell? ⟨gb257, 1, none⟩ = some (.int .u64 a1_1) := bc BK257 1
               have hcz61_2 : wr.cell? ⟨gb257, 2, none⟩ = some (.string a1_2) := bc BK257 2
               have hfz61_0 := blk_frozen BK257.out 0
               have hfz61_1 := blk_frozen BK257.out 1
               have hfz61_2 := blk_frozen BK257.out 2
               go_wp2_with (first | ((with_reducible refine gate_callee (f := 32) rfl ?_); refine goesL_ (some 98) rfl rfl Try.func32 (by kernel_rfl) rfl #[.int .i64 10, .agg #[.int .u8 a0_0, .int .u64 a0_1, .string a0_2], .agg #[.int .u8 a1_0, .int .u64 a1_1, .string a1_2]] rfl (by (try simp only [List.map_toArray, List.map_cons, List.map_nil]); first | done | rfl | (simp only [List.length_drop, List.length_take]; rfl)) ?_; (with_reducible refine (relaylaw01_truth.calls k3 10 a0_0 a0_1 a0_2 a1_0 a1_1 a1_2 t269 true _ A55.out).mono ?_); rintro e w62 ⟨rfl, hb⟩; refine ⟨_, rfl, ?_⟩; have n0_ := Aside0.mk (Kd.R_below (by (with_reducible repeat (first | apply Kd.R_alloc | apply Kd.R_drewN | apply Kd.R_drew)); exact HO_72.out) hb); have n1_ := kb BK256 hb; have n2_ := kb BK257 hb; have n3_ := bt HB hb; clear HO_72; clear BK256; clear BK257; clear HB; have HO_72 := n0_; have BK256 := n1_; have BK257 := n2_; have HB := n3_; clear n0_ n1_ n2_ n3_; (try clear hb); (try clear hb2); (try clear hk); (try clear hi)))
               go_ret
               exact ⟨by first | rfl | (simp [errW_none, errW_some] <;> rfl) | (simp [*, errW_none, errW_some] <;> rfl), bs HB⟩
              ·rw [if_neg c58] at H
               have c58b0 : (x11_3 == 0) = false := beq_eq_false_iff_ne.mpr c58
               have c58b1 : (x11_3 != 0) = true := bne_iff_ne.mpr c58
               obtain rfl := Option.some.inj H
               have hnb63 := NB256_257.out
               have hnc63 := NB257_256.out
               have hcz64_0 : wr.cell? ⟨gb256, 0, none⟩ = some (.int .u8 a0_0) := bc BK256 0
               have hcz64_1 : wr.cell? ⟨gb256, 1, none⟩ = some (.int .u64 a0_1) := bc BK256 1
               have hcz64_2 : wr.cell? ⟨gb256, 2, none⟩ = some (.string a0_2) := bc BK256 2
               have hfz64_0 := blk_frozen BK256.out 0
               have hfz64_1 := blk_frozen BK256.out 1
               have hfz64_2 := blk_frozen BK256.out 2
               have hcz65_0 : wr.cell? ⟨gb257, 0, none⟩ = some (.int .u8 a1_0) := bc BK257 0
               have hcz65_1 : wr.cell? ⟨gb257, 1, none⟩ = some (.int .u64 a1_1) := bc BK257 1
               have hcz65_2 : wr.cell? ⟨gb257, 2, none⟩ = some (.string a1_2) := bc BK257 2
               have hfz65_0 := blk_frozen BK257.out 0
               have hfz65_1 := blk_frozen BK257.out 1
               have hfz65_2 := blk_frozen BK257.out 2
               go_wp2_with (first | ((with_reducible refine gate_callee (f := 32) rfl ?_); refine goesL_ (some 98) rfl rfl Try.func32 (by kernel_rfl) rfl #[.int .i64 10, .agg #[.int .u8 a0_0, .int .u64 a0_1, .string a0_2], .agg #[.int .u8 a1_0, .int .u64 a1_1, .string a1_2]] rfl (by (try simp only [List.map_toArray, List.map_cons, List.map_nil]); first | done | rfl | (simp only [List.length_drop, List.length_take]; rfl)) ?_; (with_reducible refine (relaylaw01_truth.calls k3 10 a0_0 a0_1 a0_2 a1_0 a1_1 a1_2 t269 true _ A55.out).mono ?_); rintro e w66 ⟨rfl, hb⟩; refine ⟨_, rfl, ?_⟩; have n0_ := Aside0.mk (Kd.R_below (by (with_reducible repeat (first | apply Kd.R_alloc | apply Kd.R_drewN | apply Kd.R_drew)); exact HO_72.out) hb); have n1_ := kb BK256 hb; have n2_ := kb BK257 hb; have n3_ := bt HB hb; clear HO_72; clear BK256; clear BK257; clear HB; have HO_72 := n0_; have BK256 := n1_; have BK257 := n2_; have HB := n3_; clear n0_ n1_ n2_ n3_; (try clear hb); (try clear hb2); (try clear hk); (try clear hi)))
               go_ret
               exact ⟨by first | rfl | (simp [errW_none, errW_some] <;> rfl) | (simp [*, errW_none, errW_some] <;> rfl), bs HB⟩
             ·rw [if_neg c57] at H
              have c57b0 : (t269 == (!t260)) = false := by simpa using c57
              (try (have c57b1 : decide (t269 = (!t260)) = false := by simpa using c57))
              (try (have c57b2 : (t269 == (!t260)) = false := by simpa using c57))
              (try (have c57b3 : ¬ (t269 = (!t260)) := by simpa using c57))
              clear c57
              obtain rfl := Option.some.inj H
              have hnb67 := NB256_257.out
              have hnc67 := NB257_256.out
              have hcz68_0 : wr.cell? ⟨gb256, 0, none⟩ = some (.int .u8 a0_0) := bc BK256 0
              have hcz68_1 : wr.cell? ⟨gb256, 1, none⟩ = some (.int .u64 a0_1) := bc BK256 1
              have hcz68_2 : wr.cell? ⟨gb256, 2, none⟩ = some (.string a0_2) := bc BK256 2
              have hfz68_0 := blk_frozen BK256.out 0
              have hfz68_1 := blk_frozen BK256.out 1
              have hfz68_2 := blk_frozen BK256.out 2
              have hcz69_0 : wr.cell? ⟨gb257, 0, none⟩ = some (.int .u8 a1_0) := bc BK257 0
              have hcz69_1 : wr.cell? ⟨gb257, 1, none⟩ = some (.int .u64 a1_1) := bc BK257 1
              have hcz69_2 : wr.cell? ⟨gb257, 2, none⟩ = some (.string a1_2) := bc BK257 2
              have hfz69_0 := blk_frozen BK257.out 0
              have hfz69_1 := blk_frozen BK257.out 1
              have hfz69_2 := blk_frozen BK257.out 2
              go_wp2_with (first | ((with_reducible refine gate_callee (f := 32) rfl ?_); refine goesL_ (some 98) rfl rfl Try.func32 (by kernel_rfl) rfl #[.int .i64 10, .agg #[.int .u8 a0_0, .int .u64 a0_1, .string a0_2], .agg #[.int .u8 a1_0, .int .u64 a1_1, .string a1_2]] rfl (by (try simp only [List.map_toArray, List.map_cons, List.map_nil]); first | done | rfl | (simp only [List.length_drop, List.length_take]; rfl)) ?_; (with_reducible refine (relaylaw01_truth.calls k3 10 a0_0 a0_1 a0_2 a1_0 a1_1 a1_2 t269 true _ A55.out).mono ?_); rintro e w70 ⟨rfl, hb⟩; refine ⟨_, rfl, ?_⟩; have n0_ := Aside0.mk (Kd.R_below (by (with_reducible repeat (first | apply Kd.R_alloc | apply Kd.R_drewN | apply Kd.R_drew)); exact HO_72.out) hb); have n1_ := kb BK256 hb; have n2_ := kb BK257 hb; have n3_ := bt HB hb; clear HO_72; clear BK256; clear BK257; clear HB; have HO_72 := n0_; have BK256 := n1_; have BK257 := n2_; have HB := n3_; clear n0_ n1_ n2_ n3_; (try clear hb); (try clear hb2); (try clear hk); (try clear hi)))
              go_ret
              exact ⟨by first | rfl | (simp [errW_none, errW_some] <;> rfl) | (simp [*, errW_none, errW_some] <;> rfl), bs HB⟩
            ·replace c56 := Bool.eq_false_iff.mpr c56
             subst c56
             have H1 : (some false) = some r := by rw [if_neg (show ¬ (false = true) by decide)] at H; exact H
             clear H
             have H := H1
             clear H1
             obtain rfl := Option.some.inj H
             have hnb71 := NB256_257.out
             have hnc71 := NB257_256.out
             have hcz72_0 : wr.cell? ⟨gb256, 0, none⟩ = some (.int .u8 a0_0) := bc BK256 0
             have hcz72_1 : wr.cell? ⟨gb256, 1, none⟩ = some (.int .u64 a0_1) := bc BK256 1
             have hcz72_2 : wr.cell? ⟨gb256, 2, none⟩ = some (.string a0_2) := bc BK256 2
             have hfz72_0 := blk_frozen BK256.out 0
             have hfz72_1 := blk_frozen BK256.out 1
             have hfz72_2 := blk_frozen BK256.out 2
             have hcz73_0 : wr.cell? ⟨gb257, 0, none⟩ = some (.int .u8 a1_0) := bc BK257 0
             have hcz73_1 : wr.cell? ⟨gb257, 1, none⟩ = some (.int .u64 a1_1) := bc BK257 1
             have hcz73_2 : wr.cell? ⟨gb257, 2, none⟩ = some (.string a1_2) := bc BK257 2
             have hfz73_0 := blk_frozen BK257.out 0
             have hfz73_1 := blk_frozen BK257.out 1
             have hfz73_2 := blk_frozen BK257.out 2
             go_wp2_with (first | ((with_reducible refine gate_callee (f := 32) rfl ?_); refine goesL_ (some 98) rfl rfl Try.func32 (by kernel_rfl) rfl #[.int .i64 10, .agg #[.int .u8 a0_0, .int .u64 a0_1, .string a0_2], .agg #[.int .u8 a1_0, .int .u64 a1_1, .string a1_2]] rfl (by (try simp only [List.map_toArray, List.map_cons, List.map_nil]); first | done | rfl | (simp only [List.length_drop, List.length_take]; rfl)) ?_; (with_reducible refine (relaylaw01_truth.calls k3 10 a0_0 a0_1 a0_2 a1_0 a1_1 a1_2 t269 false _ A55.out).mono ?_); rintro e w74 ⟨rfl, hb⟩; refine ⟨_, rfl, ?_⟩; have n0_ := Aside0.mk (Kd.R_below (by (with_reducible repeat (first | apply Kd.R_alloc | apply Kd.R_drewN | apply Kd.R_drew)); exact HO_72.out) hb); have n1_ := kb BK256 hb; have n2_ := kb BK257 hb; have n3_ := bt HB hb; clear HO_72; clear BK256; clear BK257; clear HB; have HO_72 := n0_; have BK256 := n1_; have BK257 := n2_; have HB := n3_; clear n0_ n1_ n2_ n3_; (try clear hb); (try clear hb2); (try clear hk); (try clear hi)))
             go_ret
             exact ⟨by first | rfl | (simp [errW_none, errW_some] <;> rfl) | (simp [*, errW_none, errW_some] <;> rfl), bs HB⟩
           ·rw [if_neg c54] at H
            have c54b0 : (a0_1 == 9221120237041090561) = false := beq_eq_false_iff_ne.mpr c54
            have c54b1 : (a0_1 != 9221120237041090561) = true := bne_iff_ne.mpr c54
            replace H := Option.bind_eq_some_iff.mp H
            obtain ⟨⟨t271, t272⟩, A750, H⟩ := H
            replace H : (if t272 = true then (if (t271 == (!t260)) = true then (if a1_1 = 9221120237041090561 then (if x11_3 = 0 then (some true) else (some false)) else (some (x11_3 == 1))) else (some false)) else (some false)) = some r := H
            have A75 := Aside0.mk A750
            clear A750
            by_cases c76 : t272 = true
            ·subst c76
             have H1 : (if (t271 == (!t260)) = true then (if a1_1 = 9221120237041090561 then (if x11_3 = 0 then (some true) else (some false)) else (some (x11_3 == 1))) else (some false)) = some r := by rw [if_pos rfl] at H; exact H
             clear H
             have H := H1
             clear H1
             by_cases c77 : (t271 == (!t260)) = true
             ·rw [if_pos c77] at H
              have c77b0 : (t271 == (!t260)) = true := c77
              (try (have c77b1 : decide (t271 = (!t260)) = true := by simpa using c77))
              (try (have c77b2 : (t271 == (!t260)) = true := by simpa using c77))
              clear c77
              by_cases c78 : a1_1 = 9221120237041090561
              ·rw [if_pos c78] at H
               have c78b0 : (a1_1 == 9221120237041090561) = true := beq_iff_eq.mpr c78
               have c78b1 : (a1_1 != 9221120237041090561) = false := bne_eq_false_iff_eq.mpr c78
               clear c78
               by_cases c79 : x11_3 = 0
               ·rw [if_pos c79] at H
                have c79b0 : (x11_3 == 0) = true := beq_iff_eq.mpr c79
                have c79b1 : (x11_3 != 0) = false := bne_eq_false_iff_eq.mpr c79
                clear c79
                obtain rfl := Option.some.inj H
                have hnb80 := NB256_257.out
                have hnc80 := NB257_256.out
                have hcz81_0 : wr.cell? ⟨gb256, 0, none⟩ = some (.int .u8 a0_0) := bc BK256 0
                have hcz81_1 : wr.cell? ⟨gb256, 1, none⟩ = some (.int .u64 a0_1) := bc BK256 1
                have hcz81_2 : wr.cell? ⟨gb256, 2, none⟩ = some (.string a0_2) := bc BK256 2
                have hfz81_0 := blk_frozen BK256.out 0
                have hfz81_1 := blk_frozen BK256.out 1
                have hfz81_2 := blk_frozen BK256.out 2
                have hcz82_0 : wr.cell? ⟨gb257, 0, none⟩ = some (.int .u8 a1_0) := bc BK257 0
                have hcz82_1 : wr.cell? ⟨gb257, 1, none⟩ = some (.int .u64 a1_1) := bc BK257 1
                have hcz82_2 : wr.cell? ⟨gb257, 2, none⟩ = some (.string a1_2) := bc BK257 2
                have hfz82_0 := blk_frozen BK257.out 0
                have hfz82_1 := blk_frozen BK257.out 1
                have hfz82_2 := blk_frozen BK257.out 2
                go_wp2_with (first | ((with_reducible refine gate_callee (f := 32) rfl ?_); refine goesL_ (some 98) rfl rfl Try.func32 (by kernel_rfl) rfl #[.int .i64 10, .agg #[.int .u8 a0_0, .int .u64 a0_1, .string a0_2], .agg #[.int .u8 a1_0, .int .u64 a1_1, .string a1_2]] rfl (by (try simp only [List.map_toArray, List.map_cons, List.map_nil]); first | done | rfl | (simp only [List.length_drop, List.length_take]; rfl)) ?_; (with_reducible refine (relaylaw01_truth.calls k3 10 a0_0 a0_1 a0_2 a1_0 a1_1 a1_2 t271 true _ A75.out).mono ?_); rintro e w83 ⟨rfl, hb⟩; refine ⟨_, rfl, ?_⟩; have n0_ := Aside0.mk (Kd.R_below (by (with_reducible repeat (first | apply Kd.R_alloc | apply Kd.R_drewN | apply Kd.R_drew)); exact HO_72.out) hb); have n1_ := kb BK256 hb; have n2_ := kb BK257 hb; have n3_ := bt HB hb; clear HO_72; clear BK256; clear BK257; clear HB; have HO_72 := n0_; have BK256 := n1_; have BK257 := n2_; have HB := n3_; clear n0_ n1_ n2_ n3_; (try clear hb); (try clear hb2); (try clear hk); (try clear hi)))
                go_ret
                exact ⟨by first | rfl | (simp [errW_none, errW_some] <;> rfl) | (simp [*, errW_none, errW_some] <;> rfl), bs HB⟩
               ·rw [if_neg c79] at H
                have c79b0 : (x11_3 == 0) = false := beq_eq_false_iff_ne.mpr c79
                have c79b1 : (x11_3 != 0) = true := bne_iff_ne.mpr c79
                obtain rfl := Option.some.inj H
                have hnb84 := NB256_257.out
                have hnc84 := NB257_256.out
                have hcz85_0 : wr.cell? ⟨gb256, 0, none⟩ = some (.int .u8 a0_0) := bc BK256 0
                have hcz85_1 : wr.cell? ⟨gb256, 1, none⟩ = some (.int .u64 a0_1) := bc BK256 1
                have hcz85_2 : wr.cell? ⟨gb256, 2, none⟩ = some (.string a0_2) := bc BK256 2
                have hfz85_0 := blk_frozen BK256.out 0
                have hfz85_1 := blk_frozen BK256.out 1
                have hfz85_2 := blk_frozen BK256.out 2
                have hcz86_0 : wr.cell? ⟨gb257, 0, none⟩ = some (.int .u8 a1_0) := bc BK257 0
                have hcz86_1 : wr.cell? ⟨gb257, 1, none⟩ = some (.int .u64 a1_1) := bc BK257 1
                have hcz86_2 : wr.cell? ⟨gb257, 2, none⟩ = some (.string a1_2) := bc BK257 2
                have hfz86_0 := blk_frozen BK257.out 0
                have hfz86_1 := blk_frozen BK257.out 1
                have hfz86_2 := blk_frozen BK257.out 2
                go_wp2_with (first | ((with_reducible refine gate_callee (f := 32) rfl ?_); refine goesL_ (some 98) rfl rfl Try.func32 (by kernel_rfl) rfl #[.int .i64 10, .agg #[.int .u8 a0_0, .int .u64 a0_1, .string a0_2], .agg #[.int .u8 a1_0, .int .u64 a1_1, .string a1_2]] rfl (by (try simp only [List.map_toArray, List.map_cons, List.map_nil]); first | done | rfl | (simp only [List.length_drop, List.length_take]; rfl)) ?_; (with_reducible refine (relaylaw01_truth.calls k3 10 a0_0 a0_1 a0_2 a1_0 a1_1 a1_2 t271 true _ A75.out).mono ?_); rintro e w87 ⟨rfl, hb⟩; refine ⟨_, rfl, ?_⟩; have n0_ := Aside0.mk (Kd.R_below (by (with_reducible repeat (first | apply Kd.R_alloc | apply Kd.R_drewN | apply Kd.R_drew)); exact HO_72.out) hb); have n1_ := kb BK256 hb; have n2_ := kb BK257 hb; have n3_ := bt HB hb; clear HO_72; clear BK256; clear BK257; clear HB; have HO_72 := n0_; have BK256 := n1_; have BK257 := n2_; have HB := n3_; clear n0_ n1_ n2_ n3_; (try clear hb); (try clear hb2); (try clear hk); (try clear hi)))
                go_ret
                exact ⟨by first | rfl | (simp [errW_none, errW_some] <;> rfl) | (simp [*, errW_none, errW_some] <;> rfl), bs HB⟩
              ·rw [if_neg c78] at H
               have c78b0 : (a1_1 == 9221120237041090561) = false := beq_eq_false_iff_ne.mpr c78
               have c78b1 : (a1_1 != 9221120237041090561) = true := bne_iff_ne.mpr c78
               obtain rfl := Option.some.inj H
               have hnb88 := NB256_257.out
               have hnc88 := NB257_256.out
               have hcz89_0 : wr.cell? ⟨gb256, 0, none⟩ = some (.int .u8 a0_0) := bc BK256 0
               have hcz89_1 : wr.cell? ⟨gb256, 1, none⟩ = some (.int .u64 a0_1) := bc BK256 1
               have hcz89_2 : wr.cell? ⟨gb256, 2, none⟩ = some (.string a0_2) := bc BK256 2
               have hfz89_0 := blk_frozen BK256.out 0
               have hfz89_1 := blk_frozen BK256.out 1
               have hfz89_2 := blk_frozen BK256.out 2
               have hcz90_0 : wr.cell? ⟨gb257, 0, none⟩ = some (.int .u8 a1_0) := bc BK257 0
               have hcz90_1 : wr.cell? ⟨gb257, 1, none⟩ = some (.int .u64 a1_1) := bc BK257 1
               have hcz90_2 : wr.cell? ⟨gb257, 2, none⟩ = some (.string a1_2) := bc BK257 2
               have hfz90_0 := blk_frozen BK257.out 0
               have hfz90_1 := blk_frozen BK257.out 1
               have hfz90_2 := blk_frozen BK257.out 2
               go_wp2_with (first | ((with_reducible refine gate_callee (f := 32) rfl ?_); refine goesL_ (some 98) rfl rfl Try.func32 (by kernel_rfl) rfl #[.int .i64 10, .agg #[.int .u8 a0_0, .int .u64 a0_1, .string a0_2], .agg #[.int .u8 a1_0, .int .u64 a1_1, .string a1_2]] rfl (by (try simp only [List.map_toArray, List.map_cons, List.map_nil]); first | done | rfl | (simp only [List.length_drop, List.length_take]; rfl)) ?_; (with_reducible refine (relaylaw01_truth.calls k3 10 a0_0 a0_1 a0_2 a1_0 a1_1 a1_2 t271 true _ A75.out).mono ?_); rintro e w91 ⟨rfl, hb⟩; refine ⟨_, rfl, ?_⟩; have n0_ := Aside0.mk (Kd.R_below (by (with_reducible repeat (first | apply Kd.R_alloc | apply Kd.R_drewN | apply Kd.R_drew)); exact HO_72.out) hb); have n1_ := kb BK256 hb; have n2_ := kb BK257 hb; have n3_ := bt HB hb; clear HO_72; clear BK256; clear BK257; clear HB; have HO_72 := n0_; have BK256 := n1_; have BK257 := n2_; have HB := n3_; clear n0_ n1_ n2_ n3_; (try clear hb); (try clear hb2); (try clear hk); (try clear hi)))
               go_ret
               exact ⟨by first | rfl | (simp [errW_none, errW_some] <;> rfl) | (simp [*, errW_none, errW_some] <;> rfl), bs HB⟩
             ·rw [if_neg c77] at H
              have c77b0 : (t271 == (!t260)) = false := by simpa using c77
              (try (have c77b1 : decide (t271 = (!t260)) = false := by simpa using c77))
              (try (have c77b2 : (t271 == (!t260)) = false := by simpa using c77))
              (try (have c77b3 : ¬ (t271 = (!t260)) := by simpa using c77))
              clear c77
              obtain rfl := Option.some.inj H
              have hnb92 := NB256_257.out
              have hnc92 := NB257_256.out
              have hcz93_0 : wr.cell? ⟨gb256, 0, none⟩ = some (.int .u8 a0_0) := bc BK256 0
              have hcz93_1 : wr.cell? ⟨gb256, 1, none⟩ = some (.int .u64 a0_1) := bc BK256 1
              have hcz93_2 : wr.cell? ⟨gb256, 2, none⟩ = some (.string a0_2) := bc BK256 2
              have hfz93_0 := blk_frozen BK256.out 0
              have hfz93_1 := blk_frozen BK256.out 1
              have hfz93_2 := blk_frozen BK256.out 2
              have hcz94_0 : wr.cell? ⟨gb257, 0, none⟩ = some (.int .u8 a1_0) := bc BK257 0
              have hcz94_1 : wr.cell? ⟨gb257, 1, none⟩ = some (.int .u64 a1_1) := bc BK257 1
              have hcz94_2 : wr.cell? ⟨gb257, 2, none⟩ = some (.string a1_2) := bc BK257 2
              have hfz94_0 := blk_frozen BK257.out 0
              have hfz94_1 := blk_frozen BK257.out 1
              have hfz94_2 := blk_frozen BK257.out 2
              go_wp2_with (first | ((with_reducible refine gate_callee (f := 32) rfl ?_); refine goesL_ (some 98) rfl rfl Try.func32 (by kernel_rfl) rfl #[.int .i64 10, .agg #[.int .u8 a0_0, .int .u64 a0_1, .string a0_2], .agg #[.int .u8 a1_0, .int .u64 a1_1, .string a1_2]] rfl (by (try simp only [List.map_toArray, List.map_cons, List.map_nil]); first | done | rfl | (simp only [List.length_drop, List.length_take]; rfl)) ?_; (with_reducible refine (relaylaw01_truth.calls k3 10 a0_0 a0_1 a0_2 a1_0 a1_1 a1_2 t271 true _ A75.out).mono ?_); rintro e w95 ⟨rfl, hb⟩; refine ⟨_, rfl, ?_⟩; have n0_ := Aside0.mk (Kd.R_below (by (with_reducible repeat (first | apply Kd.R_alloc | apply Kd.R_drewN | apply Kd.R_drew)); exact HO_72.out) hb); have n1_ := kb BK256 hb; have n2_ := kb BK257 hb; have n3_ := bt HB hb; clear HO_72; clear BK256; clear BK257; clear HB; have HO_72 := n0_; have BK256 := n1_; have BK257 := n2_; have HB := n3_; clear n0_ n1_ n2_ n3_; (try clear hb); (try clear hb2); (try clear hk); (try clear hi)))
              go_ret
              exact ⟨by first | rfl | (simp [errW_none, errW_some] <;> rfl) | (simp [*, errW_none, errW_some] <;> rfl), bs HB⟩
            ·replace c76 := Bool.eq_false_iff.mpr c76
             subst c76
             have H1 : (some false) = some r := by rw [if_neg (show ¬ (false = true) by decide)] at H; exact H
             clear H
             have H := H1
             clear H1
             obtain rfl := Option.some.inj H
             have hnb96 := NB256_257.out
             have hnc96 := NB257_256.out
             have hcz97_0 : wr.cell? ⟨gb256, 0, none⟩ = some (.int .u8 a0_0) := bc BK256 0
             have hcz97_1 : wr.cell? ⟨gb256, 1, none⟩ = some (.int .u64 a0_1) := bc BK256 1
             have hcz97_2 : wr.cell? ⟨gb256, 2, none⟩ = some (.string a0_2) := bc BK256 2
             have hfz97_0 := blk_frozen BK256.out 0
             have hfz97_1 := blk_frozen BK256.out 1
             have hfz97_2 := blk_frozen BK256.out 2
             have hcz98_0 : wr.cell? ⟨gb257, 0, none⟩ = some (.int .u8 a1_0) := bc BK257 0
             have hcz98_1 : wr.cell? ⟨gb257, 1, none⟩ = some (.int .u64 a1_1) := bc BK257 1
             have hcz98_2 : wr.cell? ⟨gb257, 2, none⟩ = some (.string a1_2) := bc BK257 2
             have hfz98_0 := blk_frozen BK257.out 0
             have hfz98_1 := blk_frozen BK257.out 1
             have hfz98_2 := blk_frozen BK257.out 2
             go_wp2_with (first | ((with_reducible refine gate_callee (f := 32) rfl ?_); refine goesL_ (some 98) rfl rfl Try.func32 (by kernel_rfl) rfl #[.int .i64 10, .agg #[.int .u8 a0_0, .int .u64 a0_1, .string a0_2], .agg #[.int .u8 a1_0, .int .u64 a1_1, .string a1_2]] rfl (by (try simp only [List.map_toArray, List.map_cons, List.map_nil]); first | done | rfl | (simp only [List.length_drop, List.length_take]; rfl)) ?_; (with_reducible refine (relaylaw01_truth.calls k3 10 a0_0 a0_1 a0_2 a1_0 a1_1 a1_2 t271 false _ A75.out).mono ?_); rintro e w99 ⟨rfl, hb⟩; refine ⟨_, rfl, ?_⟩; have n0_ := Aside0.mk (Kd.R_below (by (with_reducible repeat (first | apply Kd.R_alloc | apply Kd.R_drewN | apply Kd.R_drew)); exact HO_72.out) hb); have n1_ := kb BK256 hb; have n2_ := kb BK257 hb; have n3_ := bt HB hb; clear HO_72; clear BK256; clear BK257; clear HB; have HO_72 := n0_; have BK256 := n1_; have BK257 := n2_; have HB := n3_; clear n0_ n1_ n2_ n3_; (try clear hb); (try clear hb2); (try clear hk); (try clear hi)))
             go_ret
             exact ⟨by first | rfl | (simp [errW_none, errW_some] <;> rfl) | (simp [*, errW_none, errW_some] <;> rfl), bs HB⟩
          ·rw [if_neg c53] at H
           have c53b0 : (a0_0 == 18) = false := beq_eq_false_iff_ne.mpr c53
           have c53b1 : (a0_0 != 18) = true := bne_iff_ne.mpr c53
           replace H := Option.bind_eq_some_iff.mp H
           obtain ⟨⟨t273, t274⟩, A1000, H⟩ := H
           replace H : (if t274 = true then (if (t273 == (!t260)) = true then (some (x11_3 == 1)) else (some false)) else (some false)) = some r := H
           have A100 := Aside0.mk A1000
           clear A1000
           by_cases c101 : t274 = true
           ·subst c101
            have H1 : (if (t273 == (!t260)) = true then (some (x11_3 == 1)) else (some false)) = some r := by rw [if_pos rfl] at H; exact H
            clear H
            have H := H1
            clear H1
            by_cases c102 : (t273 == (!t260)) = true
            ·rw [if_pos c102] at H
             have c102b0 : (t273 == (!t260)) = true := c102
             (try (have c102b1 : decide (t273 = (!t260)) = true := by simpa using c102))
             (try (have c102b2 : (t273 == (!t260)) = true := by simpa using c102))
             clear c102
             obtain rfl := Option.some.inj H
             have hnb103 := NB256_257.out
             have hnc103 := NB257_256.out
             have hcz104_0 : wr.cell? ⟨gb256, 0, none⟩ = some (.int .u8 a0_0) := bc BK256 0
             have hcz104_1 : wr.cell? ⟨gb256, 1, none⟩ = some (.int .u64 a0_1) := bc BK256 1
             have hcz104_2 : wr.cell? ⟨gb256, 2, none⟩ = some (.string a0_2) := bc BK256 2
             have hfz104_0 := blk_frozen BK256.out 0
             have hfz104_1 := blk_frozen BK256.out 1
             have hfz104_2 := blk_frozen BK256.out 2
             have hcz105_0 : wr.cell? ⟨gb257, 0, none⟩ = some (.int .u8 a1_0) := bc BK257 0
             have hcz105_1 : wr.cell? ⟨gb257, 1, none⟩ = some (.int .u64 a1_1) := bc BK257 1
             have hcz105_2 : wr.cell? ⟨gb257, 2, none⟩ = some (.string a1_2) := bc BK257 2
             have hfz105_0 := blk_frozen BK257.out 0
             have hfz105_1 := blk_frozen BK257.out 1
             have hfz105_2 := blk_frozen BK257.out 2
             go_wp2_with (first | ((with_reducible refine gate_callee (f := 32) rfl ?_); refine goesL_ (some 98) rfl rfl Try.func32 (by kernel_rfl) rfl #[.int .i64 10, .agg #[.int .u8 a0_0, .int .u64 a0_1, .string a0_2], .agg #[.int .u8 a1_0, .int .u64 a1_1, .string a1_2]] rfl (by (try simp only [List.map_toArray, List.map_cons, List.map_nil]); first | done | rfl | (simp only [List.length_drop, List.length_take]; rfl)) ?_; (with_reducible refine (relaylaw01_truth.calls k3 10 a0_0 a0_1 a0_2 a1_0 a1_1 a1_2 t273 true _ A100.out).mono ?_); rintro e w106 ⟨rfl, hb⟩; refine ⟨_, rfl, ?_⟩; have n0_ := Aside0.mk (Kd.R_below (by (with_reducible repeat (first | apply Kd.R_alloc | apply Kd.R_drewN | apply Kd.R_drew)); exact HO_72.out) hb); have n1_ := kb BK256 hb; have n2_ := kb BK257 hb; have n3_ := bt HB hb; clear HO_72; clear BK256; clear BK257; clear HB; have HO_72 := n0_; have BK256 := n1_; have BK257 := n2_; have HB := n3_; clear n0_ n1_ n2_ n3_; (try clear hb); (try clear hb2); (try clear hk); (try clear hi)))
             go_ret
             exact ⟨by first | rfl | (simp [errW_none, errW_some] <;> rfl) | (simp [*, errW_none, errW_some] <;> rfl), bs HB⟩
            ·rw [if_neg c102] at H
             have c102b0 : (t273 == (!t260)) = false := by simpa using c102
             (try (have c102b1 : decide (t273 = (!t260)) = false := by simpa using c102))
             (try (have c102b2 : (t273 == (!t260)) = false := by simpa using c102))
             (try (have c102b3 : ¬ (t273 = (!t260)) := by simpa using c102))
             clear c102
             obtain rfl := Option.some.inj H
             have hnb107 := NB256_257.out
             have hnc107 := NB257_256.out
             have hcz108_0 : wr.cell? ⟨gb256, 0, none⟩ = some (.int .u8 a0_0) := bc BK256 0
             have hcz108_1 : wr.cell? ⟨gb256, 1, none⟩ = some (.int .u64 a0_1) := bc BK256 1
             have hcz108_2 : wr.cell? ⟨gb256, 2, none⟩ = some (.string a0_2) := bc BK256 2
             have hfz108_0 := blk_frozen BK256.out 0
             have hfz108_1 := blk_frozen BK256.out 1
             have hfz108_2 := blk_frozen BK256.out 2
             have hcz109_0 : wr.cell? ⟨gb257, 0, none⟩ = some (.int .u8 a1_0) := bc BK257 0
             have hcz109_1 : wr.cell? ⟨gb257, 1, none⟩ = some (.int .u64 a1_1) := bc BK257 1
             have hcz109_2 : wr.cell? ⟨gb257, 2, none⟩ = some (.string a1_2) := bc BK257 2
             have hfz109_0 := blk_frozen BK257.out 0
             have hfz109_1 := blk_frozen BK257.out 1
             have hfz109_2 := blk_frozen BK257.out 2
             go_wp2_with (first | ((with_reducible refine gate_callee (f := 32) rfl ?_); refine goesL_ (some 98) rfl rfl Try.func32 (by kernel_rfl) rfl #[.int .i64 10, .agg #[.int .u8 a0_0, .int .u64 a0_1, .string a0_2], .agg #[.int .u8 a1_0, .int .u64 a1_1, .string a1_2]] rfl (by (try simp only [List.map_toArray, List.map_cons, List.map_nil]); first | done | rfl | (simp only [List.length_drop, List.length_take]; rfl)) ?_; (with_reducible refine (relaylaw01_truth.calls k3 10 a0_0 a0_1 a0_2 a1_0 a1_1 a1_2 t273 true _ A100.out).mono ?_); rintro e w110 ⟨rfl, hb⟩; refine ⟨_, rfl, ?_⟩; have n0_ := Aside0.mk (Kd.R_below (by (with_reducible repeat (first | apply Kd.R_alloc | apply Kd.R_drewN | apply Kd.R_drew)); exact HO_72.out) hb); have n1_ := kb BK256 hb; have n2_ := kb BK257 hb; have n3_ := bt HB hb; clear HO_72; clear BK256; clear BK257; clear HB; have HO_72 := n0_; have BK256 := n1_; have BK257 := n2_; have HB := n3_; clear n0_ n1_ n2_ n3_; (try clear hb); (try clear hb2); (try clear hk); (try clear hi)))
             go_ret
             exact ⟨by first | rfl | (simp [errW_none, errW_some] <;> rfl) | (simp [*, errW_none, errW_some] <;> rfl), bs HB⟩
           ·replace c101 := Bool.eq_false_iff.mpr c101
            subst c101
            have H1 : (some false) = some r := by rw [if_neg (show ¬ (false = true) by decide)] at H; exact H
            clear H
            have H := H1
            clear H1
            obtain rfl := Option.some.inj H
            have hnb111 := NB256_257.out
            have hnc111 := NB257_256.out
            have hcz112_0 : wr.cell? ⟨gb256, 0, none⟩ = some (.int .u8 a0_0) := bc BK256 0
            have hcz112_1 : wr.cell? ⟨gb256, 1, none⟩ = some (.int .u64 a0_1) := bc BK256 1
            have hcz112_2 : wr.cell? ⟨gb256, 2, none⟩ = some (.string a0_2) := bc BK256 2
            have hfz112_0 := blk_frozen BK256.out 0
            have hfz112_1 := blk_frozen BK256.out 1
            have hfz112_2 := blk_frozen BK256.out 2
            have hcz113_0 : wr.cell? ⟨gb257, 0, none⟩ = some (.int .u8 a1_0) := bc BK257 0
            have hcz113_1 : wr.cell? ⟨gb257, 1, none⟩ = some (.int .u64 a1_1) := bc BK257 1
            have hcz113_2 : wr.cell? ⟨gb257, 2, none⟩ = some (.string a1_2) := bc BK257 2
            have hfz113_0 := blk_frozen BK257.out 0
            have hfz113_1 := blk_frozen BK257.out 1
            have hfz113_2 := blk_frozen BK257.out 2
            go_wp2_with (first | ((with_reducible refine gate_callee (f := 32) rfl ?_); refine goesL_ (some 98) rfl rfl Try.func32 (by kernel_rfl) rfl #[.int .i64 10, .agg #[.int .u8 a0_0, .int .u64 a0_1, .string a0_2], .agg #[.int .u8 a1_0, .int .u64 a1_1, .string a1_2]] rfl (by (try simp only [List.map_toArray, List.map_cons, List.map_nil]); first | done | rfl | (simp only [List.length_drop, List.length_take]; rfl)) ?_; (with_reducible refine (relaylaw01_truth.calls k3 10 a0_0 a0_1 a0_2 a1_0 a1_1 a1_2 t273 false _ A100.out).mono ?_); rintro e w114 ⟨rfl, hb⟩; refine ⟨_, rfl, ?_⟩; have n0_ := Aside0.mk (Kd.R_below (by (with_reducible repeat (first | apply Kd.R_alloc | apply Kd.R_drewN | apply Kd.R_drew)); exact HO_72.out) hb); have n1_ := kb BK256 hb; have n2_ := kb BK257 hb; have n3_ := bt HB hb; clear HO_72; clear BK256; clear BK257; clear HB; have HO_72 := n0_; have BK256 := n1_; have BK257 := n2_; have HB := n3_; clear n0_ n1_ n2_ n3_; (try clear hb); (try clear hb2); (try clear hk); (try clear hi)))
            go_ret
            exact ⟨by first | rfl | (simp [errW_none, errW_some] <;> rfl) | (simp [*, errW_none, errW_some] <;> rfl), bs HB⟩

end Go.Proofs.Ytlmmkaddlflepaa.POrd
