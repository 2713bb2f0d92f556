/- Layer 10's example holds of the program. Conditions: none. -/
import Derived.Test.YtcknljndogbbhaaBm4
namespace Go.Proofs.Ytcknljndogbbhaa.Bm
open Go.RowKit Go.Proofs.Ytcknljndogbbhaa Go.Proofs.Ytcknljndogbbhaa.PAll Go.Proofs.YtcknljndogbbhaaW.PrintWords Go.Proofs.YtcknljndogbbhaaW.PrintLast Go.Proofs.YtcknljndogbbhaaW.PrintMore
attribute [local go_sem] max2_int min2_int max_two min_two
set_option linter.unusedVariables false
theorem row_C {k : IntKind} (W : World) (xs : List Int) (t : TypeId) (hm : xs.length ≤ 9223372036854775807) : Kd.C (Kd.int k) (W.alloc (.cells (nums k xs).toArray t)) (some ⟨W.heap.size, 0, none⟩) xs.length xs :=
  Mem.C_cells_int hm (fun j y hy => by
    rw [add_plain, Mem.cell_new]
    simp [nums, hy])
theorem lives_turn : turnW 70 false [0, 0] [0, 65, 70] = ([1, 2], 2) := by decide +kernel
theorem lives_same : cantlelaw03_Same.f 5 [1, 2] [1, 2] = some true := by decide +kernel
theorem lives_next : nextW 70 [1, 2] true 69 1 = 65 := by decide +kernel
theorem lives_next0 : nextW 70 [1, 2] false 70 0 = 1 := by decide +kernel
theorem lives_03 : cantlelaw03_Lives.f 10 = some true := by decide +kernel
set_option maxHeartbeats 2000000 in
theorem lives_calls (W : World) : Calls Try.prog 12 #[] W fun e w' => e = .returned (.bool true) ∧ Below W.heap.size W w' := by
  go_enter Try.func12, Try.ntmps12
  go_wp2_with fail
  refine (new_calls _ 70).mono ?_
  rintro e w1 ⟨g, b, c, cs, rfl, hI, hg, hb, hB⟩
  have hI1 : Is w1 g b (70 : Nat) [0, 0] c cs := hI
  have HI1 := Aside0.mk hI1
  have HB1 := Aside0.mk hB
  clear hI hI1 hB
  have hneq : ∀ w : World, (binOp .neq 25 (.pointer (some ⟨g, 0, none⟩)) (.pointer none)).run Try.prog w = .ok (.bool true) w := fun w => by go_simp
  go_wp2_with fail
  refine (cantlelaw03_Lives.calls 10 true _ lives_03).mono ?_
  rintro e w2 ⟨rfl, hb2⟩
  have HI2 := Aside0.mk (HI1.out.below hb2)
  have HB2 := Aside0.mk (below_then HB1.out HB1.out.size hb2)
  clear hb2 HI1 HB1
  go_wp2_with fail
  refine (put_calls (HI2.out.below (below_alloc (Below.refl _ _) _)) (by omega) (by simp) (some ⟨w2.heap.size, 0, none⟩) 3 [0, 65, 70] (row_C w2 [0, 65, 70] 3 (by simp)) (fun ad e _ => by cases e; exact Nat.ne_of_gt (blk_lt HI2.out.bl)) (by simp) (by simp)).mono ?_
  rintro e w3 ⟨rfl, ⟨cs3, hI3⟩, hG3, _⟩
  rw [show turnW ((70 : Nat) : Int) false [0, 0] [0, 65, 70] = ([1, 2], 2) from lives_turn] at hI3 ⊢
  have HI3 := Aside0.mk hI3
  have HB3 := Aside0.mk (pw_below_grown (below_alloc HB2.out (.cells (nums .i64 [0, 65, 70]).toArray 3)) (some b) (Nat.le_trans HB2.out.size (by simp)) hG3 (fun k hk => by cases hk; exact hb))
  clear hI3 hG3 HI2 HB2
  go_wp2_with fail
  refine (words_calls HI3.out (by simp)).mono ?_
  rintro e w4 ⟨b4, c4, cs4, rfl, hb4, hR4, hB4⟩
  have HI4 := Aside0.mk (HI3.out.below hB4)
  have HB4 := Aside0.mk (below_then HB3.out HB3.out.size hB4)
  have HR4 := Aside0.mk hR4
  clear hb4 hR4 hB4 HI3 HB3
  go_wp2_with fail
  refine (cantlelaw03_Same.calls 5 (some ⟨b4, 0, none⟩) c4 [1, 2] (some ⟨w4.heap.size, 0, none⟩) 2 [1, 2] true _ ((HR4.out.below (below_alloc (Below.refl _ _) _)).C (by simp)) HR4.out.le (row_C w4 [1, 2] 39 (by simp)) (by simp) lives_same).mono ?_
  rintro e w5 ⟨rfl, n5, rfl⟩
  have HI5 := Aside0.mk ((HI4.out.below (below_alloc (Below.refl _ _) (.cells (nums .u64 [1, 2]).toArray 39))).keep (W' := (w4.alloc (.cells (nums .u64 [1, 2]).toArray 39)).drewN n5) rfl rfl)
  have HB5 := Aside0.mk (pw_below_drewN (below_alloc HB4.out (.cells (nums .u64 [1, 2]).toArray 39)) n5)
  clear HI4 HB4 HR4
  go_wp2_with fail
  refine (next_calls HI5.out (by omega) (by simp) 1 true (by omega) (by omega)).mono ?_
  rintro e w6 ⟨rfl, rfl⟩
  rw [show nextW ((70 : Nat) : Int) [1, 2] true (70 - (1 : Int).toNat) (1 : Int).toNat = 65 from lives_next]
  go_wp2_with fail
  refine (next_calls HI5.out (by omega) (by simp) 0 false (by omega) (by omega)).mono ?_
  rintro e w6 ⟨rfl, rfl⟩
  rw [show nextW ((70 : Nat) : Int) [1, 2] false (70 - (0 : Int).toNat) (0 : Int).toNat = 1 from lives_next0]
  go_wp2_with fail
  go_ret
  exact ⟨rfl, HB5.out⟩
end Go.Proofs.Ytcknljndogbbhaa.Bm
