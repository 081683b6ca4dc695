/- The law's call at LEFT, RIGHT, CONCAT, INSERT, DELETE; plain facts of texts cut and joined. Conditions: the values lie in memory; the places lie in the texts. -/
import Derived.Test.YtflhndjpfiklaaaGreatDoorHStdR
import Derived.Test.YtflhndjpfiklaaaGreatDoorHInt
namespace Go.Proofs.YtflhndjpfiklaaaGreatDoor.H
set_option linter.unusedVariables false
set_option linter.unusedSimpArgs false
open Go.RowKit Go.Proofs.YtflhndjpfiklaaaGreatDoor.Plain
set_option maxHeartbeats 3200000
set_option maxRecDepth 100000
attribute [local go_sem] ext_from ext_bits cell_isSome un_neg_float
theorem may_text {s : ByteArray} (h : s.size ≤ 254) : mayD (19, 0, s) = true ∧ OkV (19, 0, s) := by
  refine ⟨?_, Int.le_refl _, by show (0 : Int) < _; decide⟩
  unfold mayD mayB
  simp
  omega
theorem may_num {b : Int} (h0 : 0 ≤ b) (h1 : b ≤ 32767) : mayD (3, b, ⟨#[]⟩) = true ∧ OkV (3, b, ⟨#[]⟩) := by
  have hw : wrap64 b = b := by unfold wrap64; omega
  refine ⟨?_, h0, by show b < _; omega⟩
  unfold mayD
  rw [mayB_empty 3 b (by decide) (by decide)]
  simp [fitsB, hw]
  omega
theorem int_small {b : Int} (h0 : 0 ≤ b) (h1 : b ≤ 32767) : intV 3 b = (3, b, ⟨#[]⟩, 0) := by
  have hm : b % 18446744073709551616 = b := by omega
  have hw : wrap64 b = b := by unfold wrap64; omega
  unfold intV
  rw [hm]
  simp [fitsB, hw]
  omega
theorem text_fits {s : ByteArray} (h : s.size ≤ 254) : textV s = (19, 0, s, 0) := by
  unfold textV
  rw [if_pos (by omega)]
theorem args_three {W : World} {l : Nat} {v k u : Val} {T : TypeId} (h : W.heap[l]? = some (.cells #[.int .u8 v.1, .int .u64 v.2.1, .string v.2.2, .int .u8 k.1, .int .u64 k.2.1, .string k.2.2, .int .u8 u.1, .int .u64 u.2.1, .string u.2.2] T (0, 0))) : Args W l [v, k, u] := by
  refine ⟨k_lt h, fun i d hd => ?_⟩
  match i with
  | 0 => simp at hd; subst hd; exact ⟨k_cv h 0 rfl, k_cv h 1 rfl, k_cv h 2 rfl⟩
  | 1 => simp at hd; subst hd; exact ⟨k_cv h 3 rfl, k_cv h 4 rfl, k_cv h 5 rfl⟩
  | 2 => simp at hd; subst hd; exact ⟨k_cv h 6 rfl, k_cv h 7 rfl, k_cv h 8 rfl⟩
  | n + 3 => simp at hd
theorem args_pair {W : World} {l : Nat} {v k : Val} {T : TypeId} (h : W.heap[l]? = some (.cells #[.int .u8 v.1, .int .u64 v.2.1, .string v.2.2, .int .u8 k.1, .int .u64 k.2.1, .string k.2.2] T (0, 0))) : Args W l [v, k] := by
  refine ⟨k_lt h, fun i d hd => ?_⟩
  match i with
  | 0 => simp at hd; subst hd; exact ⟨k_cv h 0 rfl, k_cv h 1 rfl, k_cv h 2 rfl⟩
  | 1 => simp at hd; subst hd; exact ⟨k_cv h 3 rfl, k_cv h 4 rfl, k_cv h 5 rfl⟩
  | n + 2 => simp at hd
theorem l_left (l cl : Nat) (s : ByteArray) (b : Int) (w : World) (hA : Args w l [(19, 0, s), (3, b, ⟨#[]⟩)]) (h0 : 0 ≤ b) (h1 : b ≤ s.size) (hs : s.size ≤ 254) (hm : ∀ d ∈ ([(19, 0, s), (3, b, ⟨#[]⟩)] : List Val), mayD d = true ∧ OkV d) :
    Calls Tryz.prog 8 #[.string (fnames.getD 28 ⟨#[]⟩), .slice (some ⟨l, 0, none⟩) 2 cl] w fun e w' => e = .returned (.tuple #[.agg #[.int .u8 (textV (s.extract 0 b.toNat)).1, .int .u64 (textV (s.extract 0 b.toNat)).2.1, .string (textV (s.extract 0 b.toNat)).2.2.1], .bool ((textV (s.extract 0 b.toNat)).2.2.2 == 0)]) ∧ Below w.heap.size w w' :=
  c_lawCall (fnames.getD 28 ⟨#[]⟩) 28 19 0 l 2 cl [(19, 0, s), (3, b, ⟨#[]⟩)] (textV (s.extract 0 b.toNat)) w hA rfl (by decide) (by decide) (fun W A c hK => by
    obtain ⟨g, rfl, hg, hc⟩ := hK
    exact f_left 28 rfl g c W hg (hc 0 _ rfl) (hc 1 _ rfl)) (fun _ W hW => call_left l cl s b W hW h0 h1 hs hm)
theorem l_right (l cl : Nat) (s : ByteArray) (b : Int) (w : World) (hA : Args w l [(19, 0, s), (3, b, ⟨#[]⟩)]) (h0 : 0 ≤ b) (h1 : b ≤ s.size) (hs : s.size ≤ 254) (hm : ∀ d ∈ ([(19, 0, s), (3, b, ⟨#[]⟩)] : List Val), mayD d = true ∧ OkV d) :
    Calls Tryz.prog 8 #[.string (fnames.getD 29 ⟨#[]⟩), .slice (some ⟨l, 0, none⟩) 2 cl] w fun e w' => e = .returned (.tuple #[.agg #[.int .u8 (textV (s.extract ((s.size : Int) - b).toNat s.size)).1, .int .u64 (textV (s.extract ((s.size : Int) - b).toNat s.size)).2.1, .string (textV (s.extract ((s.size : Int) - b).toNat s.size)).2.2.1], .bool ((textV (s.extract ((s.size : Int) - b).toNat s.size)).2.2.2 == 0)]) ∧ Below w.heap.size w w' :=
  c_lawCall (fnames.getD 29 ⟨#[]⟩) 29 19 0 l 2 cl [(19, 0, s), (3, b, ⟨#[]⟩)] (textV (s.extract ((s.size : Int) - b).toNat s.size)) w hA rfl (by decide) (by decide) (fun W A c hK => by
    obtain ⟨g, rfl, hg, hc⟩ := hK
    exact f_right 29 rfl g c W hg (hc 0 _ rfl) (hc 1 _ rfl)) (fun _ W hW => call_right l cl s b W hW h0 h1 hs hm)
theorem l_concat (l cl : Nat) (x y : ByteArray) (w : World) (hA : Args w l [(19, 0, x), (19, 0, y)]) (hx : x.size ≤ 254) (hy : y.size ≤ 254) (hm : ∀ d ∈ ([(19, 0, x), (19, 0, y)] : List Val), mayD d = true ∧ OkV d) :
    Calls Tryz.prog 8 #[.string (fnames.getD 31 ⟨#[]⟩), .slice (some ⟨l, 0, none⟩) 2 cl] w fun e w' => e = .returned (.tuple #[.agg #[.int .u8 (textV ((⟨#[]⟩ : ByteArray) ++ x ++ y)).1, .int .u64 (textV ((⟨#[]⟩ : ByteArray) ++ x ++ y)).2.1, .string (textV ((⟨#[]⟩ : ByteArray) ++ x ++ y)).2.2.1], .bool ((textV ((⟨#[]⟩ : ByteArray) ++ x ++ y)).2.2.2 == 0)]) ∧ Below w.heap.size w w' :=
  c_lawCall (fnames.getD 31 ⟨#[]⟩) 31 19 0 l 2 cl [(19, 0, x), (19, 0, y)] (textV ((⟨#[]⟩ : ByteArray) ++ x ++ y)) w hA rfl (by decide) (by decide) (fun W A c hK => by
    obtain ⟨g, rfl, hg, hc⟩ := hK
    exact f_concat 31 rfl g c W hg (hc 0 _ rfl) (hc 1 _ rfl)) (fun _ W hW => call_concat l cl x y W hW hx hy hm)
theorem l_insert (l cl : Nat) (s t : ByteArray) (b : Int) (w : World) (hA : Args w l [(19, 0, s), (19, 0, t), (3, b, ⟨#[]⟩)]) (h0 : 0 ≤ b) (h1 : b ≤ s.size) (hs : s.size ≤ 254) (ht : t.size ≤ 254) (hm : ∀ d ∈ ([(19, 0, s), (19, 0, t), (3, b, ⟨#[]⟩)] : List Val), mayD d = true ∧ OkV d) :
    Calls Tryz.prog 8 #[.string (fnames.getD 32 ⟨#[]⟩), .slice (some ⟨l, 0, none⟩) 3 cl] w fun e w' => e = .returned (.tuple #[.agg #[.int .u8 (textV (s.extract 0 b.toNat ++ t ++ s.extract b.toNat s.size)).1, .int .u64 (textV (s.extract 0 b.toNat ++ t ++ s.extract b.toNat s.size)).2.1, .string (textV (s.extract 0 b.toNat ++ t ++ s.extract b.toNat s.size)).2.2.1], .bool ((textV (s.extract 0 b.toNat ++ t ++ s.extract b.toNat s.size)).2.2.2 == 0)]) ∧ Below w.heap.size w w' :=
  c_lawCall (fnames.getD 32 ⟨#[]⟩) 32 19 0 l 3 cl [(19, 0, s), (19, 0, t), (3, b, ⟨#[]⟩)] (textV (s.extract 0 b.toNat ++ t ++ s.extract b.toNat s.size)) w hA rfl (by decide) (by decide) (fun W A c hK => by
    obtain ⟨g, rfl, hg, hc⟩ := hK
    exact f_insert 32 rfl g c W hg (hc 0 _ rfl) (hc 1 _ rfl) (hc 2 _ rfl)) (fun _ W hW => call_insert l cl s t b W hW h0 h1 hs ht hm)
theorem l_delete (l cl : Nat) (s : ByteArray) (p n : Int) (w : World) (hA : Args w l [(19, 0, s), (3, n, ⟨#[]⟩), (3, p + 1, ⟨#[]⟩)]) (h0 : 0 ≤ p) (h1 : 0 ≤ n) (h2 : p + n ≤ s.size) (hs : s.size ≤ 254) (hm : ∀ d ∈ ([(19, 0, s), (3, n, ⟨#[]⟩), (3, p + 1, ⟨#[]⟩)] : List Val), mayD d = true ∧ OkV d) :
    Calls Tryz.prog 8 #[.string (fnames.getD 33 ⟨#[]⟩), .slice (some ⟨l, 0, none⟩) 3 cl] w fun e w' => e = .returned (.tuple #[.agg #[.int .u8 (textV (s.extract 0 p.toNat ++ s.extract (p + n).toNat s.size)).1, .int .u64 (textV (s.extract 0 p.toNat ++ s.extract (p + n).toNat s.size)).2.1, .string (textV (s.extract 0 p.toNat ++ s.extract (p + n).toNat s.size)).2.2.1], .bool ((textV (s.extract 0 p.toNat ++ s.extract (p + n).toNat s.size)).2.2.2 == 0)]) ∧ Below w.heap.size w w' :=
  c_lawCall (fnames.getD 33 ⟨#[]⟩) 33 19 0 l 3 cl [(19, 0, s), (3, n, ⟨#[]⟩), (3, p + 1, ⟨#[]⟩)] (textV (s.extract 0 p.toNat ++ s.extract (p + n).toNat s.size)) w hA rfl (by decide) (by decide) (fun W A c hK => by
    obtain ⟨g, rfl, hg, hc⟩ := hK
    exact f_delete 33 rfl g c W hg (hc 0 _ rfl) (hc 1 _ rfl) (hc 2 _ rfl)) (fun _ W hW => call_delete l cl s p n W hW h0 h1 h2 hs hm)
theorem cut_join (s : ByteArray) (k : Nat) (h : k ≤ s.size) : s.extract 0 k ++ s.extract k s.size = s := by
  apply ByteArray.ext
  apply Array.ext'
  simp [ByteArray.data_append, ByteArray.data_extract, List.extract_eq_take_drop]
theorem put_left (s t : ByteArray) (k : Nat) (h : k ≤ s.size) : (s.extract 0 k ++ t ++ s.extract k s.size).extract 0 k = s.extract 0 k := by
  have hz : (s.extract 0 k).size = k := by rw [ByteArray.size_extract]; omega
  rw [ByteArray.append_assoc]
  exact ByteArray.extract_append_eq_left hz.symm
theorem put_right (s t : ByteArray) (k : Nat) (h : k ≤ s.size) : (s.extract 0 k ++ t ++ s.extract k s.size).extract (k + t.size) (s.extract 0 k ++ t ++ s.extract k s.size).size = s.extract k s.size := by
  have hz : (s.extract 0 k).size = k := by rw [ByteArray.size_extract]; omega
  refine ByteArray.extract_append_eq_right ?_ ?_
  · rw [ByteArray.size_append, hz]
  · simp only [ByteArray.size_append, hz]
theorem put_size (s t : ByteArray) (k : Nat) (h : k ≤ s.size) : (s.extract 0 k ++ t ++ s.extract k s.size).size = s.size + t.size := by
  simp only [ByteArray.size_append, ByteArray.size_extract]
  omega
theorem cat_empty (x : ByteArray) : (⟨#[]⟩ : ByteArray) ++ x = x := by
  apply ByteArray.ext
  simp
end Go.Proofs.YtflhndjpfiklaaaGreatDoor.H
