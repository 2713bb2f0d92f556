/- GeometryPlaces: for any numbers the law returns true. Conditions: none. -/
import Derived.Test.YtcankokamleloaaGpW
namespace Go.Proofs.Ytcankokamleloaa.Gp
open Go.RowKit Go.Proofs.Ytcankokamleloaa.PAll Go.Proofs.YtcankokamleloaaW.PrintWords Go.Proofs.YtcankokamleloaaW.PrintLast Go.Proofs.Ytcankokamleloaa.Math
theorem places_all (n m z i : Int) (w0 : World) :
    Calls Try.prog 6 #[.int .i64 n, .int .i64 m, .int .i64 z, .int .i64 i] w0 fun e w' => e = .returned (.bool true) ∧ Below w0.heap.size w0 w' := by
  by_cases hm : mayG n m z
  · obtain ⟨s1, s2, s3, s4, s5⟩ := super_yes n m z hm
    have hnm := And.intro hm.1.1 hm.1.2.1
    have hz := sz_pos hm.1.2.2
    have hbm := bm_range n m hnm
    have hbw := bw_range n hm.1.1
    have hbl := bl_range n m hnm
    have hn := hm.1.1
    have hmm := hm.1.2.1
    have ha : Nums n z (bwG n) (z / 8) :=
      ⟨by rw [IntKind.wrap_i64]; omega, by unfold bwG; rw [Int.tdiv_eq_ediv_of_nonneg (by omega)], by rw [IntKind.wrap_i64]; omega, by rw [Int.tdiv_eq_ediv_of_nonneg (by omega)], by rw [IntKind.wrap_i64]; omega⟩
    by_cases hi : 0 ≤ i ∧ i < 65534
    · have hie : 0 ≤ i * (z / 8) ∧ i * (z / 8) ≤ 65534 * 512 := ⟨Int.mul_nonneg hi.1 (by omega), Int.mul_le_mul (by omega) (by omega) (by omega) (by omega)⟩
      obtain ⟨no, i1, i2⟩ : ∃ no, geometry_Geometry_Inode.f n m z i = some no ∧ cantlelaw04_in.f (16 + 8 * i) i m = some no := by
        by_cases h : i < m
        · exact ⟨_, inode_yes n m z i hm hi.1 h, in_yes _ _ _ hi.1 h⟩
        · exact ⟨_, inode_m1 n m z i (Or.inr (by omega)), in_out _ _ _ hi.1 (by omega)⟩
      obtain ⟨sl, i3, i4⟩ : ∃ sl, geometry_Geometry_Slot.f n m z i = some sl ∧ cantlelaw04_in.f (slotsG m + i) i n = some sl := by
        by_cases h : i < n
        · exact ⟨_, slot_yes n m z i hm hi.1 h, in_yes _ _ _ hi.1 h⟩
        · exact ⟨_, slot_m1 n m z i (Or.inr (by omega)), in_out _ _ _ hi.1 (by omega)⟩
      obtain ⟨bl, i5, i6⟩ : ∃ bl, geometry_Geometry_Block.f n m z i = some bl ∧ cantlelaw04_in.f (blG n m + i * (z / 8)) i n = some bl := by
        by_cases h : i < n
        · exact ⟨_, block_yes n m z i hm hi.1 h, in_yes _ _ _ hi.1 h⟩
        · exact ⟨_, block_m1 n m z i (Or.inr (by omega)), in_out _ _ _ hi.1 (by omega)⟩
      obtain ⟨wd, bt, i7, i8, i9⟩ : ∃ wd bt, geometry_Geometry_Bit.f n m z i = some (wd, bt) ∧ cantlelaw04_in.f (bmG n m + i / 64) i n = some wd ∧ ((n ≤ i ∧ bt = 0) ∨ (i < n ∧ bt = Int.tmod i 64)) := by
        by_cases h : i < n
        · exact ⟨_, _, bit_yes n m z i hm hi.1 h, in_yes _ _ _ hi.1 h, Or.inr ⟨h, by rw [Int.tmod_eq_emod_of_nonneg hi.1]⟩⟩
        · exact ⟨_, _, bit_m1 n m z i (Or.inr (by omega)), in_out _ _ _ hi.1 (by omega), Or.inl ⟨by omega, rfl⟩⟩
      have hsl : 0 ≤ slotsG m ∧ slotsG m ≤ 600000 := by unfold slotsG; omega
      refine places_in n m z i wd bt (bmG n m) (bwG n) (allG n m z) no sl bl (z / 8) (slotsG m) (blG n m) (i / 64) w0 (fun w => of_yes n m z w hm) ⟨s4, i7, may_yes n m z hm, s3, s1, s2, i1, i3, i5, s5⟩ ha ?_ hi i9
      exact ⟨by rw [IntKind.wrap_i64]; omega, by rw [IntKind.wrap_i64]; omega, by rw [IntKind.wrap_i64]; omega, by rw [IntKind.wrap_i64]; omega, by rw [IntKind.wrap_i64]; omega, by rw [Int.tdiv_eq_ediv_of_nonneg hi.1], by rw [IntKind.wrap_i64]; omega, by rw [IntKind.wrap_i64]; omega, i2, i4, i6, i8⟩
    · exact places_out n m z i (-1) 0 (bmG n m) (bwG n) (allG n m z) (-1) (-1) (-1) (z / 8) (slotsG m) (blG n m) 0 w0 (fun w => of_yes n m z w hm)
        ⟨s4, bit_m1 n m z i (Or.inr (by omega)), may_yes n m z hm, s3, s1, s2, inode_m1 n m z i (Or.inr (by omega)), slot_m1 n m z i (Or.inr (by omega)), block_m1 n m z i (Or.inr (by omega)), s5⟩ ha (by omega)
  · obtain ⟨s1, s2, s3, s4, s5, s6⟩ := super_no n m z i hm
    exact places_no n m z i w0 hm ⟨s4, bit_m1 n m z i (Or.inl hm), may_no n m z hm, s3, s1, s2, inode_m1 n m z i (Or.inl hm), slot_m1 n m z i (Or.inl hm), block_m1 n m z i (Or.inl hm), s5⟩ s6
end Go.Proofs.Ytcankokamleloaa.Gp
