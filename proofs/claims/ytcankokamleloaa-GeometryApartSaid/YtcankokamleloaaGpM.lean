/- Geometries: what the functions, and the document's, tell of any numbers. Conditions: as each lemma says. -/
import Derived.Test.YtcankokamleloaaPAllx
import Derived.Test.YtcankokamleloaaMath
namespace Go.Proofs.Ytcankokamleloaa.Gp
open Go.RowKit Go.Proofs.Ytcankokamleloaa.PAll Go.Proofs.YtcankokamleloaaW.PrintWords Go.Proofs.YtcankokamleloaaW.PrintLast Go.Proofs.Ytcankokamleloaa.Math
set_option linter.unusedVariables false
/-! ### geometries, by numbers -/
def slotsG (m : Int) : Int := 16 + m * 8
def linesG (n : Int) : Int := (n + 7) / 8 * 8
def bmG (n m : Int) : Int := slotsG m + linesG n
def bwG (n : Int) : Int := (n + 63) / 64
def blG (n m : Int) : Int := bmG n m + linesG (bwG n)
def allG (n m z : Int) : Int := blG n m + n * (z / 8)
def szG (z : Int) : Prop := z = 64 ∨ z = 128 ∨ z = 256 ∨ z = 512 ∨ z = 1024 ∨ z = 2048 ∨ z = 4096
def okG (n m z : Int) : Prop := (1 ≤ n ∧ n ≤ 65534) ∧ (1 ≤ m ∧ m ≤ 65534) ∧ szG z
theorem sz_pos {z : Int} (h : szG z) : 64 ≤ z ∧ z ≤ 4096 := by unfold szG at h; omega
theorem lines_is (n : Int) (h0 : 0 ≤ n) (h1 : n ≤ 70000) : geometry_lines.f n = some (linesG n) := by
  unfold geometry_lines.f linesG
  rw [w64 (n := n + 8) (by omega) (by omega), w64 (n := n + 8 - 1) (by omega) (by omega), Int.tdiv_eq_ediv_of_nonneg (by omega), w64 (n := (n + 8 - 1) / 8) (by omega) (by omega), w64 (by omega) (by omega), show n + 8 - 1 = n + 7 from by omega]
theorem slots_is (n m z : Int) (h0 : 0 ≤ m) (h1 : m ≤ 70000) : geometry_Geometry_slots.f n m z = some (slotsG m) := by
  unfold geometry_Geometry_slots.f slotsG
  rw [w64 (n := m * 8) (by omega) (by omega), w64 (by omega) (by omega)]
theorem lines_range (n : Int) (_h0 : 0 ≤ n) : n ≤ linesG n ∧ linesG n ≤ n + 7 ∧ linesG n % 8 = 0 := by unfold linesG; omega
theorem bitmap_is (n m z : Int) (h : (1 ≤ n ∧ n ≤ 65534) ∧ (1 ≤ m ∧ m ≤ 65534)) : geometry_Geometry_bitmap.f n m z = some (bmG n m, bwG n) := by
  obtain ⟨⟨a, b⟩, c, d⟩ := h
  have hl := lines_range n (by omega)
  unfold geometry_Geometry_bitmap.f
  rw [slots_is n m z (by omega) (by omega), lines_is n (by omega) (by omega)]
  simp only [Option.bind_some]
  rw [w64 (n := slotsG m + linesG n) (by unfold slotsG; omega) (by unfold slotsG; omega), w64 (n := n + 64) (by omega) (by omega), w64 (n := n + 64 - 1) (by omega) (by omega), Int.tdiv_eq_ediv_of_nonneg (by omega), w64 (n := (n + 64 - 1) / 64) (by omega) (by omega), show n + 64 - 1 = n + 63 from by omega]
  rfl
theorem bm_range (n m : Int) (h : (1 ≤ n ∧ n ≤ 65534) ∧ (1 ≤ m ∧ m ≤ 65534)) : 24 ≤ bmG n m ∧ bmG n m ≤ 600000 ∧ bmG n m % 8 = 0 ∧ slotsG m + n ≤ bmG n m := by
  have hl := lines_range n (by omega)
  unfold bmG slotsG; omega
theorem bw_range (n : Int) (h : 1 ≤ n ∧ n ≤ 65534) : 1 ≤ bwG n ∧ bwG n ≤ 1024 := by unfold bwG; omega
theorem blocks_is (n m z : Int) (h : (1 ≤ n ∧ n ≤ 65534) ∧ (1 ≤ m ∧ m ≤ 65534)) : geometry_Geometry_blocks.f n m z = some (blG n m) := by
  have hb := bm_range n m h
  have hw := bw_range n h.1
  have hl := lines_range (bwG n) (by omega)
  unfold geometry_Geometry_blocks.f
  rw [bitmap_is n m z h]
  simp only [Option.bind_some]
  rw [lines_is (bwG n) (by omega) (by omega)]
  simp only [Option.bind_some]
  rw [w64 (n := bmG n m + linesG (bwG n)) (by omega) (by omega)]
  rfl
theorem bl_range (n m : Int) (h : (1 ≤ n ∧ n ≤ 65534) ∧ (1 ≤ m ∧ m ≤ 65534)) : 32 ≤ blG n m ∧ blG n m ≤ 700000 ∧ blG n m % 8 = 0 ∧ bmG n m + bwG n ≤ blG n m := by
  have hb := bm_range n m h
  have hw := bw_range n h.1
  have hl := lines_range (bwG n) (by omega)
  unfold blG; omega
theorem prod_range (n z : Int) (h : 1 ≤ n ∧ n ≤ 65534) (hz : 64 ≤ z ∧ z ≤ 4096) : 0 ≤ n * (z / 8) ∧ n * (z / 8) ≤ 65534 * 512 :=
  ⟨Int.mul_nonneg (by omega) (by omega), Int.mul_le_mul (by omega) (by omega) (by omega) (by omega)⟩
theorem all_is (n m z : Int) (h : (1 ≤ n ∧ n ≤ 65534) ∧ (1 ≤ m ∧ m ≤ 65534)) (hz : 64 ≤ z ∧ z ≤ 4096) : geometry_Geometry_all.f n m z = some (allG n m z) := by
  have hb := bl_range n m h
  have hp := prod_range n z h.1 hz
  unfold geometry_Geometry_all.f
  rw [blocks_is n m z h]
  simp only [Option.bind_some]
  rw [Int.tdiv_eq_ediv_of_nonneg (by omega), w64 (n := z / 8) (by omega) (by omega), w64 (n := n * (z / 8)) (by omega) (by omega), w64 (n := blG n m + n * (z / 8)) (by omega) (by omega)]
  rfl
theorem ones_small (z : Int) (h : szG z) : bits_OnesCount.f (IntKind.u64.wrap z) = some 1 := by
  rcases h with rfl | rfl | rfl | rfl | rfl | rfl | rfl <;> decide +kernel
theorem right_sz (n m z : Int) (h : okG n m z) : geometry_Geometry_right.f n m z = some true := by
  obtain ⟨⟨a, b⟩, ⟨c, d⟩, hz⟩ := h
  have := sz_pos hz
  unfold geometry_Geometry_right.f
  rw [if_pos (by omega), if_pos (by omega), if_pos (by omega), if_pos (by omega), if_pos (by omega), if_pos (by omega), ones_small z hz]
  rfl
theorem may_sz (n m z : Int) (h : okG n m z) : geometry_Geometry_May.f n m z = some (decide (allG n m z ≤ 4194304)) := by
  unfold geometry_Geometry_May.f
  rw [right_sz n m z h]
  simp only [Option.bind_some, if_true]
  rw [all_is n m z ⟨h.1, h.2.1⟩ (sz_pos h.2.2)]
  rfl
theorem small_may (n m z : Int) (h : (1 ≤ n ∧ n ≤ 256) ∧ (1 ≤ m ∧ m ≤ 256)) (hz : z = 64 ∨ z = 128 ∨ z = 256) : geometry_Geometry_May.f n m z = some true := by
  have ho : okG n m z := ⟨by omega, by omega, by unfold szG; omega⟩
  rw [may_sz n m z ho, decide_eq_true]
  have hl := lines_range n (by omega)
  have hl2 := lines_range (bwG n) (by unfold bwG; omega)
  have hp : n * (z / 8) ≤ 256 * 32 := Int.mul_le_mul (by omega) (by omega) (by omega) (by omega)
  have hw : bwG n ≤ 4 := by unfold bwG; omega
  unfold allG blG bmG slotsG
  omega
theorem small_is (a0 a1 a2 : Int) (h0 : 0 ≤ a0 ∧ a0 < 256) (h1 : 0 ≤ a1 ∧ a1 < 256) (h2 : 0 ≤ a2 ∧ a2 < 256) :
    ∃ z, (z = 64 ∨ z = 128 ∨ z = 256) ∧ cantlelaw04_small.f a0 a1 a2 = some (1 + a0, 1 + a1, z) := by
  unfold cantlelaw04_small.f
  have e : Int.tmod a2 3 = a2 % 3 := Int.tmod_eq_emod_of_nonneg (by omega)
  rw [e, if_pos (by omega), w64 (n := a0) (by omega) (by omega), w64 (n := a1) (by omega) (by omega), w64 (n := 1 + a0) (by omega) (by omega), w64 (n := 1 + a1) (by omega) (by omega)]
  have : a2 % 3 = 0 ∨ a2 % 3 = 1 ∨ a2 % 3 = 2 := by omega
  rcases this with h | h | h <;> rw [h]
  · exact ⟨64, by simp, rfl⟩
  · exact ⟨128, by simp, rfl⟩
  · exact ⟨256, by simp, rfl⟩
def mayG (n m z : Int) : Prop := okG n m z ∧ allG n m z ≤ 4194304
def szB (z : Nat) : Bool := z == 64 || z == 128 || z == 256 || z == 512 || z == 1024 || z == 2048 || z == 4096
theorem ones_all : (List.range 4097).all (fun z => decide (z < 64) || match bits_OnesCount.f (IntKind.u64.wrap (z : Int)) with | some c => (c == 1) == szB z | none => false) = true := by decide +kernel
theorem ones_is (z : Int) (h0 : 64 ≤ z) (h1 : z ≤ 4096) : ∃ c, bits_OnesCount.f (IntKind.u64.wrap z) = some c ∧ ((c == 1) = true ↔ szG z) := by
  obtain ⟨q, rfl⟩ := Int.eq_ofNat_of_zero_le (show 0 ≤ z by omega)
  have h := List.all_eq_true.1 ones_all q (List.mem_range.2 (by omega))
  rw [decide_eq_false (by omega : ¬ q < 64), Bool.false_or] at h
  rcases e : bits_OnesCount.f (IntKind.u64.wrap (q : Int)) with _ | c
  · rw [e] at h; cases h
  · rw [e] at h
    refine ⟨c, rfl, ?_⟩
    have h' : ((c == 1) == szB q) = true := h
    rw [beq_iff_eq] at h'
    rw [h']
    unfold szB szG
    simp only [Bool.or_eq_true, beq_iff_eq]
    omega
theorem right_no (n m z : Int) (h : ¬ okG n m z) : geometry_Geometry_right.f n m z = some false := by
  unfold geometry_Geometry_right.f
  by_cases c1 : n ≥ 1
  · rw [if_pos c1]
    by_cases c2 : n ≤ 65534
    · rw [if_pos c2]
      by_cases c3 : m ≥ 1
      · rw [if_pos c3]
        by_cases c4 : m ≤ 65534
        · rw [if_pos c4]
          by_cases c5 : z ≥ 64
          · rw [if_pos c5]
            by_cases c6 : z ≤ 4096
            · rw [if_pos c6]
              obtain ⟨c, hc, hi⟩ := ones_is z c5 c6
              rw [hc]
              have : (c == 1) = false := by
                cases hb : (c == 1) with
                | false => rfl
                | true => exact absurd ⟨⟨c1, c2⟩, ⟨c3, c4⟩, hi.1 hb⟩ h
              simp only [Option.bind_some, this]
            · rw [if_neg c6]
          · rw [if_neg c5]
        · rw [if_neg c4]
      · rw [if_neg c3]
    · rw [if_neg c2]
  · rw [if_neg c1]
theorem may_yes (n m z : Int) (h : mayG n m z) : geometry_Geometry_May.f n m z = some true := by
  rw [may_sz n m z h.1, decide_eq_true h.2]
theorem may_no (n m z : Int) (h : ¬ mayG n m z) : geometry_Geometry_May.f n m z = some false := by
  by_cases ho : okG n m z
  · rw [may_sz n m z ho, decide_eq_false (fun e => h ⟨ho, e⟩)]
  · unfold geometry_Geometry_May.f
    rw [right_no n m z ho]; rfl
/-! ### the document's -/
theorem fill_ev : ∀ (d : Nat) (x : Int), 0 ≤ x → x ≤ 1000000 → linesG x - x = d → Ev (fun k => cantleref04_fill.l0 k x) (linesG x)
  | 0, x, h0, h1, hd => by
    refine Ev.step (f := fun _ => some _) (fun k => ?_) (Ev.now _)
    simp only [cantleref04_fill.l0]
    unfold linesG at *
    rw [Int.tmod_eq_emod_of_nonneg h0, if_pos (by omega)]
    congr 1; omega
  | d + 1, x, h0, h1, hd => by
    have e : linesG (x + 1) = linesG x := by unfold linesG at *; omega
    have ih := fill_ev d (x + 1) (by omega) (by unfold linesG at hd; omega) (by omega)
    rw [e] at ih
    refine Ev.step (fun k => ?_) ih
    simp only [cantleref04_fill.l0]
    rw [Int.tmod_eq_emod_of_nonneg h0, if_neg (by unfold linesG at hd; omega), w64 (n := x + 1) (by omega) (by omega)]
theorem fill_f (x : Int) (h0 : 0 ≤ x) (h1 : x ≤ 900000) : Ev (fun k => cantleref04_fill.f k x) (linesG x) := by
  obtain ⟨d, hd⟩ := Int.eq_ofNat_of_zero_le (show 0 ≤ linesG x - x by unfold linesG; omega)
  exact fill_ev d x h0 (by omega) hd
/-! ### the places -/
theorem place_yes (n m z at_ i c : Int) (h : mayG n m z) (h0 : 0 ≤ i) (h1 : i < c) : geometry_Geometry_place.f n m z at_ i c = some at_ := by
  unfold geometry_Geometry_place.f
  rw [if_neg (by omega), if_neg (by omega), may_yes n m z h]; rfl
theorem place_out (n m z at_ i c : Int) (h : ¬ (0 ≤ i ∧ i < c)) : geometry_Geometry_place.f n m z at_ i c = some (-1) := by
  unfold geometry_Geometry_place.f
  by_cases h0 : i < 0
  · rw [if_pos h0]
  · rw [if_neg h0, if_pos (by omega)]
theorem place_no (n m z at_ i c : Int) (h : ¬ mayG n m z) : geometry_Geometry_place.f n m z at_ i c = some (-1) := by
  by_cases hi : 0 ≤ i ∧ i < c
  · unfold geometry_Geometry_place.f
    rw [if_neg (by omega), if_neg (by omega), may_no n m z h]; rfl
  · exact place_out n m z at_ i c hi
theorem bitmap_some (n m z : Int) : ∃ p, geometry_Geometry_bitmap.f n m z = some p := ⟨_, rfl⟩
theorem slots_some (n m z : Int) : ∃ p, geometry_Geometry_slots.f n m z = some p := ⟨_, rfl⟩
theorem blocks_some (n m z : Int) : ∃ p, geometry_Geometry_blocks.f n m z = some p := ⟨_, rfl⟩
section
variable (n m z i : Int)
theorem inode_m1 (h : ¬ mayG n m z ∨ ¬ (0 ≤ i ∧ i < m)) : geometry_Geometry_Inode.f n m z i = some (-1) := by
  unfold geometry_Geometry_Inode.f
  rcases h with h | h
  · rw [place_no n m z _ _ _ h]; rfl
  · rw [place_out n m z _ _ _ h]; rfl
theorem slot_m1 (h : ¬ mayG n m z ∨ ¬ (0 ≤ i ∧ i < n)) : geometry_Geometry_Slot.f n m z i = some (-1) := by
  obtain ⟨p, hp⟩ := slots_some n m z
  unfold geometry_Geometry_Slot.f
  rw [hp]
  rcases h with h | h
  · simp only [Option.bind_some]; rw [place_no n m z _ _ _ h]; rfl
  · simp only [Option.bind_some]; rw [place_out n m z _ _ _ h]; rfl
theorem block_m1 (h : ¬ mayG n m z ∨ ¬ (0 ≤ i ∧ i < n)) : geometry_Geometry_Block.f n m z i = some (-1) := by
  obtain ⟨p, hp⟩ := blocks_some n m z
  unfold geometry_Geometry_Block.f
  rw [hp]
  rcases h with h | h
  · simp only [Option.bind_some]; rw [place_no n m z _ _ _ h]; rfl
  · simp only [Option.bind_some]; rw [place_out n m z _ _ _ h]; rfl
theorem bit_m1 (h : ¬ mayG n m z ∨ ¬ (0 ≤ i ∧ i < n)) : geometry_Geometry_Bit.f n m z i = some (-1, 0) := by
  obtain ⟨p, hp⟩ := bitmap_some n m z
  unfold geometry_Geometry_Bit.f
  rw [hp]
  rcases h with h | h
  · simp only [Option.bind_some]; rw [place_no n m z _ _ _ h]; rfl
  · simp only [Option.bind_some]; rw [place_out n m z _ _ _ h]; rfl
theorem super_no (h : ¬ mayG n m z) : geometry_Geometry_Super.f n m z = some (-1) ∧ geometry_Geometry_Record.f n m z = some (-1) ∧ geometry_Geometry_Words.f n m z = some 0 ∧ geometry_Geometry_Bitmap.f n m z = some (-1, 0) ∧ geometry_Geometry_Each.f n m z = some 0 ∧ geometry_Geometry_Need.f n m z i = some 0 := by
  unfold geometry_Geometry_Super.f geometry_Geometry_Record.f geometry_Geometry_Words.f geometry_Geometry_Bitmap.f geometry_Geometry_Each.f geometry_Geometry_Need.f
  rw [place_no n m z _ _ _ h, place_no n m z _ _ _ h, may_no n m z h]
  refine ⟨rfl, rfl, rfl, rfl, rfl, ?_⟩
  by_cases hi : i ≤ 0
  · rw [if_pos hi]
  · rw [if_neg hi]; rfl
theorem super_yes (h : mayG n m z) : geometry_Geometry_Super.f n m z = some 0 ∧ geometry_Geometry_Record.f n m z = some 8 ∧ geometry_Geometry_Words.f n m z = some (allG n m z) ∧ geometry_Geometry_Bitmap.f n m z = some (bmG n m, bwG n) ∧ geometry_Geometry_Each.f n m z = some (z / 8) := by
  have hz := sz_pos h.1.2.2
  unfold geometry_Geometry_Super.f geometry_Geometry_Record.f geometry_Geometry_Words.f geometry_Geometry_Bitmap.f geometry_Geometry_Each.f
  rw [place_yes n m z _ _ _ h (by omega) (by omega), place_yes n m z _ _ _ h (by omega) (by omega), may_yes n m z h, all_is n m z ⟨h.1.1, h.1.2.1⟩ hz, bitmap_is n m z ⟨h.1.1, h.1.2.1⟩]
  simp only [Option.bind_some, if_true]
  rw [Int.tdiv_eq_ediv_of_nonneg (by omega), w64 (n := z / 8) (by omega) (by omega)]
  simp
theorem inode_yes (h : mayG n m z) (h0 : 0 ≤ i) (h1 : i < m) : geometry_Geometry_Inode.f n m z i = some (16 + 8 * i) := by
  have := h.1.2.1
  unfold geometry_Geometry_Inode.f
  rw [place_yes n m z _ _ _ h h0 h1, w64 (n := i * 8) (by omega) (by omega), w64 (n := 16 + i * 8) (by omega) (by omega), Int.mul_comm]; rfl
theorem slot_yes (h : mayG n m z) (h0 : 0 ≤ i) (h1 : i < n) : geometry_Geometry_Slot.f n m z i = some (slotsG m + i) := by
  have := h.1.2.1
  have := h.1.1
  unfold geometry_Geometry_Slot.f
  rw [slots_is n m z (by omega) (by omega)]
  simp only [Option.bind_some]
  rw [place_yes n m z _ _ _ h h0 h1, w64 (n := slotsG m + i) (by unfold slotsG; omega) (by unfold slotsG; omega)]; rfl
theorem iz_range (h : mayG n m z) (h0 : 0 ≤ i) (h1 : i < n) : 0 ≤ i * (z / 8) ∧ i * (z / 8) ≤ 65534 * 512 := by
  have := h.1.1
  have hz := sz_pos h.1.2.2
  exact ⟨Int.mul_nonneg h0 (by omega), Int.mul_le_mul (by omega) (by omega) (by omega) (by omega)⟩
theorem block_yes (h : mayG n m z) (h0 : 0 ≤ i) (h1 : i < n) : geometry_Geometry_Block.f n m z i = some (blG n m + i * (z / 8)) := by
  have hz := sz_pos h.1.2.2
  have hb := bl_range n m ⟨h.1.1, h.1.2.1⟩
  have hi := iz_range n m z i h h0 h1
  unfold geometry_Geometry_Block.f
  rw [blocks_is n m z ⟨h.1.1, h.1.2.1⟩]
  simp only [Option.bind_some]
  rw [Int.tdiv_eq_ediv_of_nonneg (by omega), w64 (n := z / 8) (by omega) (by omega), w64 (n := i * (z / 8)) (by omega) (by omega), w64 (n := blG n m + i * (z / 8)) (by omega) (by omega), place_yes n m z _ _ _ h h0 h1]; rfl
theorem bit_yes (h : mayG n m z) (h0 : 0 ≤ i) (h1 : i < n) : geometry_Geometry_Bit.f n m z i = some (bmG n m + i / 64, i % 64) := by
  have hb := bm_range n m ⟨h.1.1, h.1.2.1⟩
  have := h.1.1
  unfold geometry_Geometry_Bit.f
  rw [bitmap_is n m z ⟨h.1.1, h.1.2.1⟩]
  simp only [Option.bind_some]
  rw [Int.tdiv_eq_ediv_of_nonneg h0, w64 (n := i / 64) (by omega) (by omega), w64 (n := bmG n m + i / 64) (by omega) (by omega), place_yes n m z _ _ _ h h0 h1]
  simp only [Option.bind_some]
  rw [if_neg (by omega), Int.tmod_eq_emod_of_nonneg h0]
end
theorem in_yes (a i c : Int) (h0 : 0 ≤ i) (h1 : i < c) : cantlelaw04_in.f a i c = some a := by
  unfold cantlelaw04_in.f
  rw [if_neg (by omega), if_neg (by omega)]
theorem in_out (a i c : Int) (h0 : 0 ≤ i) (h1 : c ≤ i) : cantlelaw04_in.f a i c = some (-1) := by
  unfold cantlelaw04_in.f
  rw [if_neg (by omega), if_pos (by omega)]
end Go.Proofs.Ytcankokamleloaa.Gp
