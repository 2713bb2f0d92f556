/- The law GeometryNeeds of the pure program: so many bytes take as many blocks as hold them. Conditions: the numbers are of their kinds. -/
import Derived.Test.YtcankokamleloaaPGeometryNeedsx2
import Derived.Test.YtcankokamleloaaMath
namespace Go.Proofs.Ytcankokamleloaa.Pure
open Go.RowKit Go.Proofs.Ytcankokamleloaa.PGeometryNeeds Go.Proofs.YtcankokamleloaaW.PrintWords Go.Proofs.YtcankokamleloaaW.PrintLast Go.Proofs.Ytcankokamleloaa.Math
/-! ### geometries, by numbers -/
def slotsG (m : Int) : Int := 16 + m * 8
def linesG (n : Int) : Int := (n + 7) / 8 * 8
def bmG (n m : Int) : Int := slotsG m + linesG n
def bwG (n : Int) : Int := (n + 63) / 64
def blG (n m : Int) : Int := bmG n m + linesG (bwG n)
def allG (n m z : Int) : Int := blG n m + n * (z / 8)
def szG (z : Int) : Prop := z = 64 ∨ z = 128 ∨ z = 256 ∨ z = 512 ∨ z = 1024 ∨ z = 2048 ∨ z = 4096
def okG (n m z : Int) : Prop := (1 ≤ n ∧ n ≤ 65534) ∧ (1 ≤ m ∧ m ≤ 65534) ∧ szG z
theorem sz_pos {z : Int} (h : szG z) : 64 ≤ z ∧ z ≤ 4096 := by unfold szG at h; omega
theorem lines_is (n : Int) (h0 : 0 ≤ n) (h1 : n ≤ 70000) : geometry_lines.f n = some (linesG n) := by
  unfold geometry_lines.f linesG
  rw [w64 (n := n + 8) (by omega) (by omega), w64 (n := n + 8 - 1) (by omega) (by omega), Int.tdiv_eq_ediv_of_nonneg (by omega), w64 (n := (n + 8 - 1) / 8) (by omega) (by omega), w64 (by omega) (by omega), show n + 8 - 1 = n + 7 from by omega]
theorem slots_is (n m z : Int) (h0 : 0 ≤ m) (h1 : m ≤ 70000) : geometry_Geometry_slots.f n m z = some (slotsG m) := by
  unfold geometry_Geometry_slots.f slotsG
  rw [w64 (n := m * 8) (by omega) (by omega), w64 (by omega) (by omega)]
theorem lines_range (n : Int) (_h0 : 0 ≤ n) : n ≤ linesG n ∧ linesG n ≤ n + 7 ∧ linesG n % 8 = 0 := by unfold linesG; omega
theorem bitmap_is (n m z : Int) (h : (1 ≤ n ∧ n ≤ 65534) ∧ (1 ≤ m ∧ m ≤ 65534)) : geometry_Geometry_bitmap.f n m z = some (bmG n m, bwG n) := by
  obtain ⟨⟨a, b⟩, c, d⟩ := h
  have hl := lines_range n (by omega)
  unfold geometry_Geometry_bitmap.f
  rw [slots_is n m z (by omega) (by omega), lines_is n (by omega) (by omega)]
  simp only [Option.bind_some]
  rw [w64 (n := slotsG m + linesG n) (by unfold slotsG; omega) (by unfold slotsG; omega), w64 (n := n + 64) (by omega) (by omega), w64 (n := n + 64 - 1) (by omega) (by omega), Int.tdiv_eq_ediv_of_nonneg (by omega), w64 (n := (n + 64 - 1) / 64) (by omega) (by omega), show n + 64 - 1 = n + 63 from by omega]
  rfl
theorem bm_range (n m : Int) (h : (1 ≤ n ∧ n ≤ 65534) ∧ (1 ≤ m ∧ m ≤ 65534)) : 24 ≤ bmG n m ∧ bmG n m ≤ 600000 ∧ bmG n m % 8 = 0 ∧ slotsG m + n ≤ bmG n m := by
  have hl := lines_range n (by omega)
  unfold bmG slotsG; omega
theorem bw_range (n : Int) (h : 1 ≤ n ∧ n ≤ 65534) : 1 ≤ bwG n ∧ bwG n ≤ 1024 := by unfold bwG; omega
theorem blocks_is (n m z : Int) (h : (1 ≤ n ∧ n ≤ 65534) ∧ (1 ≤ m ∧ m ≤ 65534)) : geometry_Geometry_blocks.f n m z = some (blG n m) := by
  have hb := bm_range n m h
  have hw := bw_range n h.1
  have hl := lines_range (bwG n) (by omega)
  unfold geometry_Geometry_blocks.f
  rw [bitmap_is n m z h]
  simp only [Option.bind_some]
  rw [lines_is (bwG n) (by omega) (by omega)]
  simp only [Option.bind_some]
  rw [w64 (n := bmG n m + linesG (bwG n)) (by omega) (by omega)]
  rfl
theorem bl_range (n m : Int) (h : (1 ≤ n ∧ n ≤ 65534) ∧ (1 ≤ m ∧ m ≤ 65534)) : 32 ≤ blG n m ∧ blG n m ≤ 700000 ∧ blG n m % 8 = 0 ∧ bmG n m + bwG n ≤ blG n m := by
  have hb := bm_range n m h
  have hw := bw_range n h.1
  have hl := lines_range (bwG n) (by omega)
  unfold blG; omega
theorem prod_range (n z : Int) (h : 1 ≤ n ∧ n ≤ 65534) (hz : 64 ≤ z ∧ z ≤ 4096) : 0 ≤ n * (z / 8) ∧ n * (z / 8) ≤ 65534 * 512 :=
  ⟨Int.mul_nonneg (by omega) (by omega), Int.mul_le_mul (by omega) (by omega) (by omega) (by omega)⟩
theorem all_is (n m z : Int) (h : (1 ≤ n ∧ n ≤ 65534) ∧ (1 ≤ m ∧ m ≤ 65534)) (hz : 64 ≤ z ∧ z ≤ 4096) : geometry_Geometry_all.f n m z = some (allG n m z) := by
  have hb := bl_range n m h
  have hp := prod_range n z h.1 hz
  unfold geometry_Geometry_all.f
  rw [blocks_is n m z h]
  simp only [Option.bind_some]
  rw [Int.tdiv_eq_ediv_of_nonneg (by omega), w64 (n := z / 8) (by omega) (by omega), w64 (n := n * (z / 8)) (by omega) (by omega), w64 (n := blG n m + n * (z / 8)) (by omega) (by omega)]
  rfl
theorem ones_small (z : Int) (h : szG z) : bits_OnesCount.f (IntKind.u64.wrap z) = some 1 := by
  rcases h with rfl | rfl | rfl | rfl | rfl | rfl | rfl <;> decide +kernel
theorem right_sz (n m z : Int) (h : okG n m z) : geometry_Geometry_right.f n m z = some true := by
  obtain ⟨⟨a, b⟩, ⟨c, d⟩, hz⟩ := h
  have := sz_pos hz
  unfold geometry_Geometry_right.f
  rw [if_pos (by omega), if_pos (by omega), if_pos (by omega), if_pos (by omega), if_pos (by omega), if_pos (by omega), ones_small z hz]
  rfl
theorem may_sz (n m z : Int) (h : okG n m z) : geometry_Geometry_May.f n m z = some (decide (allG n m z ≤ 4194304)) := by
  unfold geometry_Geometry_May.f
  rw [right_sz n m z h]
  simp only [Option.bind_some, if_true]
  rw [all_is n m z ⟨h.1, h.2.1⟩ (sz_pos h.2.2)]
  rfl
theorem small_may (n m z : Int) (h : (1 ≤ n ∧ n ≤ 256) ∧ (1 ≤ m ∧ m ≤ 256)) (hz : z = 64 ∨ z = 128 ∨ z = 256) : geometry_Geometry_May.f n m z = some true := by
  have ho : okG n m z := ⟨by omega, by omega, by unfold szG; omega⟩
  rw [may_sz n m z ho, decide_eq_true]
  have hl := lines_range n (by omega)
  have hl2 := lines_range (bwG n) (by unfold bwG; omega)
  have hp : n * (z / 8) ≤ 256 * 32 := Int.mul_le_mul (by omega) (by omega) (by omega) (by omega)
  have hw : bwG n ≤ 4 := by unfold bwG; omega
  unfold allG blG bmG slotsG
  omega
theorem small_is (a0 a1 a2 : Int) (h0 : 0 ≤ a0 ∧ a0 < 256) (h1 : 0 ≤ a1 ∧ a1 < 256) (h2 : 0 ≤ a2 ∧ a2 < 256) :
    ∃ z, (z = 64 ∨ z = 128 ∨ z = 256) ∧ cantlelaw04_small.f a0 a1 a2 = some (1 + a0, 1 + a1, z) := by
  unfold cantlelaw04_small.f
  have e : Int.tmod a2 3 = a2 % 3 := Int.tmod_eq_emod_of_nonneg (by omega)
  rw [e, if_pos (by omega), w64 (n := a0) (by omega) (by omega), w64 (n := a1) (by omega) (by omega), w64 (n := 1 + a0) (by omega) (by omega), w64 (n := 1 + a1) (by omega) (by omega)]
  have : a2 % 3 = 0 ∨ a2 % 3 = 1 ∨ a2 % 3 = 2 := by omega
  rcases this with h | h | h <;> rw [h]
  · exact ⟨64, by simp, rfl⟩
  · exact ⟨128, by simp, rfl⟩
  · exact ⟨256, by simp, rfl⟩
theorem GeometryNeeds : cantlelaw04_GeometryNeeds.Pure := by
  intro a0 a1 a2 b h0 h1 h2 h3
  obtain ⟨x0, x1⟩ := wf_u8 h0
  obtain ⟨y0, y1⟩ := wf_u8 h1
  obtain ⟨z0, z1⟩ := wf_u8 h2
  obtain ⟨b0, b1⟩ := wf_i64 h3
  obtain ⟨z, hz, hs⟩ := small_is a0 a1 a2 ⟨x0, x1⟩ ⟨y0, y1⟩ ⟨z0, z1⟩
  have hl : cantlelaw04_Lives.f = some true := by decide +kernel
  have hm := small_may (1 + a0) (1 + a1) z ⟨by omega, by omega⟩ hz
  unfold cantlelaw04_GeometryNeeds.f
  rw [hl]
  simp only [Option.bind_some, if_true]
  rw [hs]
  simp only [Option.bind_some]
  unfold geometry_Geometry_Need.f
  by_cases hb : b ≤ 0
  · rw [if_pos hb]; simp only [Option.bind_some]; rw [if_pos hb]; rfl
  · rw [if_neg hb, hm]
    simp only [Option.bind_some, if_true]
    have q0 : (b - 1) / z ≤ b - 1 := Int.ediv_le_self _ (by omega)
    have q1 : 0 ≤ (b - 1) / z := Int.ediv_nonneg (by omega) (by omega)
    rw [if_neg (by omega), w64 (n := b - 1) (by omega) (by omega), Int.tdiv_eq_ediv_of_nonneg (by omega)]
    generalize (b - 1) / z = q at *
    rw [w64 (n := q) (by omega) (by omega), w64 (n := q + 1) (by omega) (by omega)]
    simp only [Option.bind_some]
    rw [if_neg hb, if_pos (by omega), if_neg (by omega), w64 (n := q + 1 - 1) (by omega) (by omega), if_pos (by omega), decide_eq_true (by omega)]
end Go.Proofs.Ytcankokamleloaa.Pure
