/- EntryEncodes: the walk through the law function, by hand. Conditions: as each lemma says. -/
import Derived.Test.YtfkfpeiocdjniaaPAllx1
import Derived.Test.YtfkfpeiocdjniaaPAllx2
import Derived.Test.YtfkfpeiocdjniaaPAllx4
import Derived.Test.YtfkfpeiocdjniaaPAllx5
import Derived.Test.YtfkfpeiocdjniaaPAllx7
import Derived.Test.YtfkfpeiocdjniaaPAllx8
import Derived.Test.YtfkfpeiocdjniaaSpecL
import Derived.Deep.QuietTactic
import Derived.BigQuiet
namespace Go.Proofs.Ytfkfpeiocdjniaa.PAll
open Go.RowKit Go.Proofs.YtfkfpeiocdjniaaW.PrintWords Go.Proofs.YtfkfpeiocdjniaaW.PrintLast Go.Proofs.YtfkfpeiocdjniaaW.PrintMore
set_option linter.unusedVariables false
set_option linter.unusedSimpArgs false
attribute [local go_sem high] eqA32 eqA33
set_option maxRecDepth 100000 in
set_option maxHeartbeats 8000000 in
theorem ee_long (k : Nat) (hlv : cantlelaw08_Lives.f k = some true) (w0 : World) (s : ByteArray) (x : Int) (hf : cantlelaw08_few.f k [(⟨s, x⟩ : S33)] = some false) :
    Calls Try.prog 5 #[.agg #[.string s, .int .i64 x]] w0 fun e w' => e = .returned (.bool true) ∧ Below w0.heap.size w0 w' := by
  have HLV := Aside0.mk hlv
  have HF := Aside0.mk hf
  clear hf hlv
  go_enter Try.func5, Try.ntmps5
  go_wp2_with fail
  have HX := Aside0.mk (heap_alloc_new w0 (.cells #[.string s, .int .i64 x] 33))
  have HB := Aside0.mk (below_alloc (Below.refl w0.heap.size w0) (.cells #[.string s, .int .i64 x] 33))
  have HG := Aside0.mk (Nat.le_refl w0.heap.size)
  refine (cantlelaw08_Lives.calls k true _ HLV.out).mono ?_
  rintro e w1 ⟨rfl, hb⟩
  have HX1 := Aside0.mk (blk_below HX.out hb)
  have HB1 := Aside0.mk (below_then HB.out HB.out.size hb)
  clear hb HX HB HG
  have q0 : w1.cell? ⟨w0.heap.size, 0, none⟩ = some (.string s) := (blk_cell HX1.out 0).trans rfl
  have q1 : w1.cell? ⟨w0.heap.size, 1, none⟩ = some (.int .i64 x) := (blk_cell HX1.out 1).trans rfl
  go_wp2_with (first | ((with_reducible refine gate_dst (N := 12) rfl ?_); (try (refine gate_guard (by rfl) ?_; dsimp only)); refine Kd.R_lit k33 _ 33 ?hg (N := 12) ?hd (xs := ([(⟨s, x⟩ : S33)] : List (S33))) (inner := [.string s, .int .i64 x]) (ok := fun _ => True) (okp := fun _ => True) ?hr ?hp (fun _ hk => hk) trivial (Below.refl _ _) (Nat.le_refl _) (by simp) ?_; (case hd => rfl); (case hg => rfl); (case hr => first | (go_simp; done) | (go_simp; rfl)); (case hp => exact (Reps.c2 (show Kd.M k33 _ _ _ (⟨s, x⟩ : S33) [.string s, .int .i64 x] from (k33_mkM _ _ _ (⟨s, x⟩ : S33) )) (Reps.none _ _))); intro v159 w9 ho10 hb hg_ hnew_; clear hg_ hnew_; have HO160 := Aside0.mk ho10; have HX2 := Aside0.mk (blk_below HX1.out hb); have HB2 := Aside0.mk (below_then HB1.out HB1.out.size hb); clear HB1 HX1; clear hb ho10; obtain ⟨Ao11, co11, eo11⟩ := Kd.R_slice HO160.out; subst eo11))
  clear q0 q1
  refine (cantlelaw08_few.calls k _ _ [(⟨s, x⟩ : S33)] _ _ (Kd.R_reads' HO160.out).2.2 (Kd.R_reads' HO160.out).2.1 HF.out).mono ?_
  rintro e w3 ⟨rfl, hb⟩
  have HX3 := Aside0.mk (blk_below HX2.out hb)
  have HB3 := Aside0.mk (below_then HB2.out HB2.out.size hb)
  clear hb HX2 HB2 HO160
  go_wp2_with fail
  refine (cantlelaw08_Lives.calls k true _ HLV.out).mono ?_
  rintro e w4 ⟨rfl, hb⟩
  have HB4 := Aside0.mk (below_then HB3.out HB3.out.size hb)
  clear hb
  go_wp2_with fail
  go_ret
  exact ⟨rfl, HB4.out⟩
set_option maxRecDepth 100000 in
set_option maxHeartbeats 8000000 in
theorem ee_short (k : Nat) (hlv : cantlelaw08_Lives.f k = some true) (w0 : World) (s : ByteArray) (x : Int) (hf : cantlelaw08_few.f k [(⟨s, x⟩ : S33)] = some true)
    (may rt : Bool) (b : List Int) (e : Int) (f1 : cantleref08_May.f k s x = some may) (f2 : entry_Encode.f k s x = some (b, e)) (f3 : entry_Right.f s = some rt) (f4 : cantleref08_Right.f k s = some rt) (f5 : entry_Entry_May.f s x = some may)
    (fn : may = false → b = [] ∧ e = 1) (fy : may = true → e = 0 ∧ entry_Decode.f k b = some (s, x, 0) ∧ cantleref08_Encode.f k s x = some (strOfNums b)) :
    Calls Try.prog 5 #[.agg #[.string s, .int .i64 x]] w0 fun e w' => e = .returned (.bool true) ∧ Below w0.heap.size w0 w' := by
  have HLV := Aside0.mk hlv
  have HF := Aside0.mk hf
  have F1 := Aside0.mk f1
  have F2 := Aside0.mk f2
  have F3 := Aside0.mk f3
  have F4 := Aside0.mk f4
  have F5 := Aside0.mk f5
  have FN := Aside0.mk fn
  have FY := Aside0.mk fy
  clear hf hlv f1 f2 f3 f4 f5 fn fy
  go_enter Try.func5, Try.ntmps5
  go_wp2_with fail
  have HX := Aside0.mk (heap_alloc_new w0 (.cells #[.string s, .int .i64 x] 33))
  have HB := Aside0.mk (below_alloc (Below.refl w0.heap.size w0) (.cells #[.string s, .int .i64 x] 33))
  have HG := Aside0.mk (Nat.le_refl w0.heap.size)
  refine (cantlelaw08_Lives.calls k true _ HLV.out).mono ?_
  rintro e w1 ⟨rfl, hb⟩
  have HX1 := Aside0.mk (blk_below HX.out hb)
  have HB1 := Aside0.mk (below_then HB.out HB.out.size hb)
  clear hb HX HB HG
  have q0 : w1.cell? ⟨w0.heap.size, 0, none⟩ = some (.string s) := (blk_cell HX1.out 0).trans rfl
  have q1 : w1.cell? ⟨w0.heap.size, 1, none⟩ = some (.int .i64 x) := (blk_cell HX1.out 1).trans rfl
  go_wp2_with (first | ((with_reducible refine gate_dst (N := 12) rfl ?_); (try (refine gate_guard (by rfl) ?_; dsimp only)); refine Kd.R_lit k33 _ 33 ?hg (N := 12) ?hd (xs := ([(⟨s, x⟩ : S33)] : List (S33))) (inner := [.string s, .int .i64 x]) (ok := fun _ => True) (okp := fun _ => True) ?hr ?hp (fun _ hk => hk) trivial (Below.refl _ _) (Nat.le_refl _) (by simp) ?_; (case hd => rfl); (case hg => rfl); (case hr => first | (go_simp; done) | (go_simp; rfl)); (case hp => exact (Reps.c2 (show Kd.M k33 _ _ _ (⟨s, x⟩ : S33) [.string s, .int .i64 x] from (k33_mkM _ _ _ (⟨s, x⟩ : S33) )) (Reps.none _ _))); intro v159 w9 ho10 hb hg_ hnew_; clear hg_ hnew_; have HO160 := Aside0.mk ho10; have HX2 := Aside0.mk (blk_below HX1.out hb); have HB2 := Aside0.mk (below_then HB1.out HB1.out.size hb); clear HB1 HX1; clear hb ho10; obtain ⟨Ao11, co11, eo11⟩ := Kd.R_slice HO160.out; subst eo11))
  clear q0 q1
  refine (cantlelaw08_few.calls k _ _ [(⟨s, x⟩ : S33)] _ _ (Kd.R_reads' HO160.out).2.2 (Kd.R_reads' HO160.out).2.1 HF.out).mono ?_
  rintro e w3 ⟨rfl, hb⟩
  have HX3 := Aside0.mk (blk_below HX2.out hb)
  have HB3 := Aside0.mk (below_then HB2.out HB2.out.size hb)
  clear hb HX2 HB2 HO160
  have q0 : w3.cell? ⟨w0.heap.size, 0, none⟩ = some (.string s) := (blk_cell HX3.out 0).trans rfl
  have q1 : w3.cell? ⟨w0.heap.size, 1, none⟩ = some (.int .i64 x) := (blk_cell HX3.out 1).trans rfl
  go_wp2_with fail
  clear q0 q1
  refine (cantleref08_May.calls k s x may _ F1.out).mono ?_
  rintro e' w4 ⟨rfl, hb⟩
  have HX4 := Aside0.mk (blk_below HX3.out hb)
  have HB4 := Aside0.mk (below_then HB3.out HB3.out.size hb)
  clear hb HX3 HB3
  have q0 : w4.cell? ⟨w0.heap.size, 0, none⟩ = some (.string s) := (blk_cell HX4.out 0).trans rfl
  have q1 : w4.cell? ⟨w0.heap.size, 1, none⟩ = some (.int .i64 x) := (blk_cell HX4.out 1).trans rfl
  go_wp2_with fail
  clear q0 q1
  refine (entry_Encode.calls k s x b e _ F2.out).mono ?_
  rintro e' w5 ⟨v5, rfl, hR, hb⟩
  obtain ⟨A, c, rfl, hc, hC5⟩ := Kd.R_reads hR
  have HX5 := Aside0.mk (blk_below HX4.out hb)
  have HB5 := Aside0.mk (below_then HB4.out HB4.out.size hb)
  have HR5 := Aside0.mk hC5
  have HC5 := Aside0.mk hc
  clear hb HX4 HB4 hR hC5 hc
  go_upto_region 5 with fail
  refine Spec.wp_told (F := fun j => [0, 1, 3, 0, 8, 31, 63, 127, 255, 511, 255, 2047, 4095].getD j 0) (C := fun W => (W.heap[w0.heap.size]? = some (.cells #[.string s, .int .i64 x] 33 (0, 0)) ∧ Below w0.heap.size w0 W) ∧ Below w5.heap.size w5 W) (S := Spec.at_ [fun u W => u = .pointer (some ⟨w0.heap.size, 0, none⟩), fun u W => u = .string s, fun u W => u = .bool rt, fun u W => u = .pointer (some ⟨w0.heap.size, 0, none⟩), fun u W => u = .string s, fun u W => u = .bool rt, fun u W => u = .bool false, fun u W => u = .bool false, fun u W => u = .agg #[.string s, .int .i64 x], fun u W => u = .bool may, fun u W => u = .bool may, fun u W => u = .bool false, fun u W => u = .bool false]) (Kp := fun W W' => Below W.heap.size W W') (by kernel_rfl) (by kernel_rfl) (Spec.AllStay.at_ ?stay_5) ?start_5 ?ops_5 ?end_5
  case stay_5 =>
    exact ⟨fun _ _ _ _ h => h, fun _ _ _ _ h => h, fun _ _ _ _ h => h, fun _ _ _ _ h => h, fun _ _ _ _ h => h, fun _ _ _ _ h => h, fun _ _ _ _ h => h, fun _ _ _ _ h => h, fun _ _ _ _ h => h, fun _ _ _ _ h => h, fun _ _ _ _ h => h, fun _ _ _ _ h => h, fun _ _ _ _ h => h, trivial⟩
  case start_5 =>
    exact ⟨⟨HX5.out, below_drew HB5.out⟩, below_drew (Below.refl _ _)⟩
  case ops_5 =>
    refine ⟨?_, ?_, ?_, ?_, ?_, ?_, ?_, ?_, ?_, ?_, ?_, ?_, ?_, trivial⟩
    · -- 0: Op.fieldAddr 33 (Operand.tmp 1) 0
      refine Spec.tell rfl fun v w hC hS ρ hρ K hK => ?_
      have r1 : ρ (.tmp 1) = .pointer (some ⟨w0.heap.size, 0, none⟩) := (hρ _ (by simp [Op.operands])).trans (by kernel_rfl)
      clear hρ hS
      go_simp
      exact hK _ _ hC (Below.refl _ _) rfl
    · -- 1: Op.load 9 (Operand.tmp 24)
      refine Spec.tell rfl fun v w hC hS ρ hρ K hK => ?_
      have s0 : v 0 = .pointer (some ⟨w0.heap.size, 0, none⟩) := hS 0 rfl
      have r24 : ρ (.tmp 24) = .pointer (some ⟨w0.heap.size, 0, none⟩) := ((hρ _ (by simp [Op.operands])).trans (by kernel_rfl : Spec.look _ _ _ v (.tmp 24) = v 0)).trans s0
      clear hρ hS
      have q0 : w.cell? ⟨w0.heap.size, 0, none⟩ = some (.string s) := (blk_cell hC.1.1 0).trans rfl
      go_simp
      exact hK _ _ hC (Below.refl _ _) rfl
    · -- 2: Op.call { callee := Callee.value (Operand.func 18), args := #[Operand.tmp 25], argTypes :=
      refine Spec.tell rfl fun v w hC hS ρ hρ K hK => ?_
      have s1 : v 1 = .string s := hS 1 rfl
      have r25 : ρ (.tmp 25) = .string s := ((hρ _ (by simp [Op.operands, Call.operands])).trans (by kernel_rfl : Spec.look _ _ _ v (.tmp 25) = v 1)).trans s1
      have f18 : ρ (.func 18) = .func (.func 18) #[] #[] := (hρ _ (by simp [Op.operands, Call.operands])).trans (by kernel_rfl)
      clear hρ hS
      go_simp
      exact (entry_Right.calls s rt _ F3.out).mono fun e w' ⟨h1, h2⟩ => ⟨_, h1, hK _ _ ⟨⟨blk_below hC.1.1 h2, below_then hC.1.2 hC.1.2.size h2⟩, below_then hC.2 hC.2.size h2⟩ h2 rfl⟩
    · -- 3: Op.fieldAddr 33 (Operand.tmp 1) 0
      refine Spec.tell rfl fun v w hC hS ρ hρ K hK => ?_
      have r1 : ρ (.tmp 1) = .pointer (some ⟨w0.heap.size, 0, none⟩) := (hρ _ (by simp [Op.operands])).trans (by kernel_rfl)
      clear hρ hS
      go_simp
      exact hK _ _ hC (Below.refl _ _) rfl
    · -- 4: Op.load 9 (Operand.tmp 27)
      refine Spec.tell rfl fun v w hC hS ρ hρ K hK => ?_
      have s3 : v 3 = .pointer (some ⟨w0.heap.size, 0, none⟩) := hS 3 rfl
      have r27 : ρ (.tmp 27) = .pointer (some ⟨w0.heap.size, 0, none⟩) := ((hρ _ (by simp [Op.operands])).trans (by kernel_rfl : Spec.look _ _ _ v (.tmp 27) = v 3)).trans s3
      clear hρ hS
      have q0 : w.cell? ⟨w0.heap.size, 0, none⟩ = some (.string s) := (blk_cell hC.1.1 0).trans rfl
      go_simp
      exact hK _ _ hC (Below.refl _ _) rfl
    · -- 5: Op.call { callee := Callee.value (Operand.func 19), args := #[Operand.tmp 28], argTypes :=
      refine Spec.tell rfl fun v w hC hS ρ hρ K hK => ?_
      have s4 : v 4 = .string s := hS 4 rfl
      have r28 : ρ (.tmp 28) = .string s := ((hρ _ (by simp [Op.operands, Call.operands])).trans (by kernel_rfl : Spec.look _ _ _ v (.tmp 28) = v 4)).trans s4
      have f19 : ρ (.func 19) = .func (.func 19) #[] #[] := (hρ _ (by simp [Op.operands, Call.operands])).trans (by kernel_rfl)
      clear hρ hS
      go_simp
      exact (cantleref08_Right.calls k s rt _ F4.out).mono fun e w' ⟨h1, h2⟩ => ⟨_, h1, hK _ _ ⟨⟨blk_below hC.1.1 h2.below, below_then hC.1.2 hC.1.2.size h2.below⟩, below_then hC.2 hC.2.size h2.below⟩ h2.below rfl⟩
    · -- 6: Op.binOp BinOp.neq 4 (Operand.tmp 26) (Operand.tmp 29) 4
      refine Spec.tell rfl fun v w hC hS ρ hρ K hK => ?_
      have s2 : v 2 = .bool rt := hS 2 rfl
      have s5 : v 5 = .bool rt := hS 5 rfl
      have r26 : ρ (.tmp 26) = .bool rt := ((hρ _ (by simp [Op.operands])).trans (by kernel_rfl : Spec.look _ _ _ v (.tmp 26) = v 2)).trans s2
      have r29 : ρ (.tmp 29) = .bool rt := ((hρ _ (by simp [Op.operands])).trans (by kernel_rfl : Spec.look _ _ _ v (.tmp 29) = v 5)).trans s5
      clear hρ hS
      go_simp
      exact hK _ _ hC (Below.refl _ _) rfl
    · -- 7: Op.move (Operand.tmp 30)
      refine Spec.tell rfl fun v w hC hS ρ hρ K hK => ?_
      have s6 : v 6 = .bool false := hS 6 rfl
      have r30 : ρ (.tmp 30) = .bool false := ((hρ _ (by simp [Op.operands])).trans (by kernel_rfl : Spec.look _ _ _ v (.tmp 30) = v 6)).trans s6
      clear hρ hS
      go_simp
      exact hK _ _ hC (Below.refl _ _) rfl
    · -- 8: Op.load 33 (Operand.tmp 1)
      refine Spec.tellG 7 false rfl (fun v w hC hS hG ρ hρ K hK => ?_) (fun v w hC hS hG => ?_)
      · have s7 : v 7 = .bool false := hS 7 rfl
        have r1 : ρ (.tmp 1) = .pointer (some ⟨w0.heap.size, 0, none⟩) := (hρ _ (by simp [Op.operands])).trans (by kernel_rfl)
        clear hρ hS
        have q0 : w.cell? ⟨w0.heap.size, 0, none⟩ = some (.string s) := (blk_cell hC.1.1 0).trans rfl
        have q1 : w.cell? ⟨w0.heap.size, 1, none⟩ = some (.int .i64 x) := (blk_cell hC.1.1 1).trans rfl
        go_simp
        exact hK _ _ hC (Below.refl _ _) rfl
      · have s7 : v 7 = .bool false := hS 7 rfl
        exact absurd s7 hG
    · -- 9: Op.call { callee := Callee.value (Operand.func 20), args := #[Operand.tmp 32], argTypes :=
      refine Spec.tellG 7 false rfl (fun v w hC hS hG ρ hρ K hK => ?_) (fun v w hC hS hG => ?_)
      · have s7 : v 7 = .bool false := hS 7 rfl
        have s8 : v 8 = .agg #[.string s, .int .i64 x] := hS 8 rfl
        have r32 : ρ (.tmp 32) = .agg #[.string s, .int .i64 x] := ((hρ _ (by simp [Op.operands, Call.operands])).trans (by kernel_rfl : Spec.look _ _ _ v (.tmp 32) = v 8)).trans s8
        have f20 : ρ (.func 20) = .func (.func 20) #[] #[] := (hρ _ (by simp [Op.operands, Call.operands])).trans (by kernel_rfl)
        clear hρ hS
        go_simp
        exact (entry_Entry_May.calls s x may _ F5.out).mono fun e w' ⟨h1, h2⟩ => ⟨_, h1, hK _ _ ⟨⟨blk_below hC.1.1 h2, below_then hC.1.2 hC.1.2.size h2⟩, below_then hC.2 hC.2.size h2⟩ h2 rfl⟩
      · have s7 : v 7 = .bool false := hS 7 rfl
        have s8 : v 8 = .agg #[.string s, .int .i64 x] := hS 8 rfl
        exact absurd s7 hG
    · -- 10: Op.move (Operand.tmp 3)
      refine Spec.tellG 7 false rfl (fun v w hC hS hG ρ hρ K hK => ?_) (fun v w hC hS hG => ?_)
      · have s7 : v 7 = .bool false := hS 7 rfl
        have r3 : ρ (.tmp 3) = .bool may := (hρ _ (by simp [Op.operands])).trans (by kernel_rfl)
        clear hρ hS
        go_simp
        exact hK _ _ hC (Below.refl _ _) rfl
      · have s7 : v 7 = .bool false := hS 7 rfl
        exact absurd s7 hG
    · -- 11: Op.binOp BinOp.neq 4 (Operand.tmp 33) (Operand.tmp 34) 4
      refine Spec.tellG 7 false rfl (fun v w hC hS hG ρ hρ K hK => ?_) (fun v w hC hS hG => ?_)
      · have s7 : v 7 = .bool false := hS 7 rfl
        have s9 : v 9 = .bool may := hS 9 rfl
        have s10 : v 10 = .bool may := hS 10 rfl
        have r33 : ρ (.tmp 33) = .bool may := ((hρ _ (by simp [Op.operands])).trans (by kernel_rfl : Spec.look _ _ _ v (.tmp 33) = v 9)).trans s9
        have r34 : ρ (.tmp 34) = .bool may := ((hρ _ (by simp [Op.operands])).trans (by kernel_rfl : Spec.look _ _ _ v (.tmp 34) = v 10)).trans s10
        clear hρ hS
        go_simp
        exact hK _ _ hC (Below.refl _ _) rfl
      · have s7 : v 7 = .bool false := hS 7 rfl
        have s9 : v 9 = .bool may := hS 9 rfl
        have s10 : v 10 = .bool may := hS 10 rfl
        exact absurd s7 hG
    · -- 12: Op.pick (Operand.tmp 31) (Operand.const (Value.bool true)) (Operand.tmp 35)
      refine Spec.tell rfl fun v w hC hS ρ hρ K hK => ?_
      have s7 : v 7 = .bool false := hS 7 rfl
      have s11 : v 11 = .bool false := hS 11 rfl
      have r31 : ρ (.tmp 31) = .bool false := ((hρ _ (by simp [Op.operands])).trans (by kernel_rfl : Spec.look _ _ _ v (.tmp 31) = v 7)).trans s7
      have r35 : ρ (.tmp 35) = .bool false := ((hρ _ (by simp [Op.operands])).trans (by kernel_rfl : Spec.look _ _ _ v (.tmp 35) = v 11)).trans s11
      have c0 : ρ (.const (Value.bool true)) = (Value.bool true) := (hρ _ (by simp [Op.operands])).trans (by kernel_rfl)
      clear hρ hS
      go_simp
      exact hK _ _ hC (Below.refl _ _) rfl
  case end_5 =>
    intro v w' hC hS
    have s12 : v 12 = .bool false := hS 12 (by decide)
    clear hS
    simp only [Spec.putAll, Act.put, List.setIfInBounds_toArray, List.set_cons_zero, List.set_cons_succ]
    generalize v 0 = x0
    generalize v 1 = x1
    generalize v 2 = x2
    generalize v 3 = x3
    generalize v 4 = x4
    generalize v 5 = x5
    generalize v 6 = x6
    generalize v 7 = x7
    generalize v 8 = x8
    generalize v 9 = x9
    generalize v 10 = x10
    generalize v 11 = x11
    rw [s12]; clear s12
    have HX6 := Aside0.mk hC.1.1
    have HB6 := Aside0.mk hC.1.2
    have HR6 := Aside0.mk (Kd.C_below HR5.out hC.2)
    clear hC HX5 HB5 HR5
    cases may
    · obtain ⟨rfl, rfl⟩ := FN.out rfl
      go_wp2_with fail
      go_ret
      exact ⟨rfl, HB6.out⟩
    · obtain ⟨rfl, f6, f7⟩ := FY.out rfl
      have F6 := Aside0.mk f6
      have F7 := Aside0.mk f7
      clear f6 f7 FY FN
      go_wp2_with fail
      refine (entry_Decode.calls k A c b s x 0 _ HR6.out HC5.out F6.out).mono ?_
      rintro e' w7 ⟨rfl, hb⟩
      have HX7 := Aside0.mk (blk_alloc (blk_below HX6.out hb) (.cells #[.string s, .int .i64 x] 33))
      have HB7 := Aside0.mk (below_alloc (below_then HB6.out HB6.out.size hb) (.cells #[.string s, .int .i64 x] 33))
      have HR7 := Aside0.mk (Kd.C_alloc (o := .cells #[.string s, .int .i64 x] 33) (Kd.C_below HR6.out hb))
      have HY7 := Aside0.mk (heap_alloc_new w7 (.cells #[.string s, .int .i64 x] 33))
      clear hb HX6 HB6 HR6
      go_upto_region 10 with fail
      generalize w7.alloc (.cells #[.string s, .int .i64 x] 33) = w8 at HX7 HB7 HR7 HY7 ⊢
      generalize w7.heap.size = g at HY7 ⊢
      refine Spec.wp_told (F := fun j => [0, 1, 3, 7, 15, 7, 39, 127, 255, 511, 1023, 2047, 4095, 8191, 16383, 16383, 65535, 131071, 262143].getD j 0) (C := fun W => (W.heap[w0.heap.size]? = some (.cells #[.string s, .int .i64 x] 33 (0, 0)) ∧ Below w0.heap.size w0 W) ∧ (W.heap[g]? = some (.cells #[.string s, .int .i64 x] 33 (0, 0)) ∧ Below w8.heap.size w8 W)) (S := Spec.at_ [fun u W => u = .int .i64 0, fun u W => u = .bool true, fun u W => u = .bool true, fun u W => u = .slice A b.length c, fun u W => u = .string (strOfNums b), fun u W => u = .agg #[.string s, .int .i64 x], fun u W => u = .string (strOfNums b), fun u W => u = .bool true, fun u W => u = .bool true, fun u W => u = .bool true, fun u W => u = .int .i64 0, fun u W => u = .bool true, fun u W => u = .bool true, fun u W => u = .bool true, fun u W => u = .agg #[.string s, .int .i64 x], fun u W => u = .agg #[.string s, .int .i64 x], fun u W => u = .bool true, fun u W => u = .bool true, fun u W => u = .bool true]) (Kp := fun W W' => Below W.heap.size W W') (by kernel_rfl) (by kernel_rfl) (Spec.AllStay.at_ ?stay_10) ?start_10 ?ops_10 ?end_10
      case stay_10 =>
        exact ⟨fun _ _ _ _ h => h, fun _ _ _ _ h => h, fun _ _ _ _ h => h, fun _ _ _ _ h => h, fun _ _ _ _ h => h, fun _ _ _ _ h => h, fun _ _ _ _ h => h, fun _ _ _ _ h => h, fun _ _ _ _ h => h, fun _ _ _ _ h => h, fun _ _ _ _ h => h, fun _ _ _ _ h => h, fun _ _ _ _ h => h, fun _ _ _ _ h => h, fun _ _ _ _ h => h, fun _ _ _ _ h => h, fun _ _ _ _ h => h, fun _ _ _ _ h => h, fun _ _ _ _ h => h, trivial⟩
      case start_10 =>
        exact ⟨⟨HX7.out, below_drew HB7.out⟩, ⟨HY7.out, below_drew (Below.refl _ _)⟩⟩
      case ops_10 =>
        refine ⟨?_, ?_, ?_, ?_, ?_, ?_, ?_, ?_, ?_, ?_, ?_, ?_, ?_, ?_, ?_, ?_, ?_, ?_, ?_, trivial⟩
        · -- 0: Op.move (Operand.tmp 5)
          refine Spec.tell rfl fun v w hC hS ρ hρ K hK => ?_
          have r5 : ρ (.tmp 5) = .int .i64 0 := (hρ _ (by simp [Op.operands])).trans (by kernel_rfl)
          clear hρ hS
          go_simp
          exact hK _ _ hC (Below.refl _ _) rfl
        · -- 1: Op.binOp BinOp.eql 25 (Operand.tmp 51) (Operand.const (Value.int IntKind.i64 0)) 25
          refine Spec.tell rfl fun v w hC hS ρ hρ K hK => ?_
          have s0 : v 0 = .int .i64 0 := hS 0 rfl
          have r51 : ρ (.tmp 51) = .int .i64 0 := ((hρ _ (by simp [Op.operands])).trans (by kernel_rfl : Spec.look _ _ _ v (.tmp 51) = v 0)).trans s0
          have c0 : ρ (.const (Value.int IntKind.i64 0)) = (Value.int IntKind.i64 0) := (hρ _ (by simp [Op.operands])).trans (by kernel_rfl)
          clear hρ hS
          go_simp
          exact hK _ _ hC (Below.refl _ _) rfl
        · -- 2: Op.move (Operand.tmp 52)
          refine Spec.tell rfl fun v w hC hS ρ hρ K hK => ?_
          have s1 : v 1 = .bool true := hS 1 rfl
          have r52 : ρ (.tmp 52) = .bool true := ((hρ _ (by simp [Op.operands])).trans (by kernel_rfl : Spec.look _ _ _ v (.tmp 52) = v 1)).trans s1
          clear hρ hS
          go_simp
          exact hK _ _ hC (Below.refl _ _) rfl
        · -- 3: Op.move (Operand.tmp 4)
          refine Spec.tellG 2 true rfl (fun v w hC hS hG ρ hρ K hK => ?_) (fun v w hC hS hG => ?_)
          · have s2 : v 2 = .bool true := hS 2 rfl
            have r4 : ρ (.tmp 4) = .slice A b.length c := (hρ _ (by simp [Op.operands])).trans (by kernel_rfl)
            clear hρ hS
            go_simp
            exact hK _ _ hC (Below.refl _ _) rfl
          · have s2 : v 2 = .bool true := hS 2 rfl
            exact absurd s2 hG
        · -- 4: Op.convert 22 9 (Operand.tmp 54)
          refine Spec.tellG 2 true rfl (fun v w hC hS hG ρ hρ K hK => ?_) (fun v w hC hS hG => ?_)
          · have s2 : v 2 = .bool true := hS 2 rfl
            have s3 : v 3 = .slice A b.length c := hS 3 rfl
            have r54 : ρ (.tmp 54) = .slice A b.length c := ((hρ _ (by simp [Op.operands])).trans (by kernel_rfl : Spec.look _ _ _ v (.tmp 54) = v 3)).trans s3
            clear hρ hS
            have hcv := Kd.C_string (P := Try.prog) (A := A) (c := c) Try.underlying22 Try.underlying5 Try.underlying9 (Kd.C_below HR7.out hC.2.2)
            go_simp
            exact hK _ _ hC (Below.refl _ _) rfl
          · have s2 : v 2 = .bool true := hS 2 rfl
            have s3 : v 3 = .slice A b.length c := hS 3 rfl
            exact absurd s2 hG
        · -- 5: Op.load 33 (Operand.tmp 1)
          refine Spec.tellG 2 true rfl (fun v w hC hS hG ρ hρ K hK => ?_) (fun v w hC hS hG => ?_)
          · have s2 : v 2 = .bool true := hS 2 rfl
            have r1 : ρ (.tmp 1) = .pointer (some ⟨w0.heap.size, 0, none⟩) := (hρ _ (by simp [Op.operands])).trans (by kernel_rfl)
            clear hρ hS
            have q0 : w.cell? ⟨w0.heap.size, 0, none⟩ = some (.string s) := (blk_cell hC.1.1 0).trans rfl
            have q1 : w.cell? ⟨w0.heap.size, 1, none⟩ = some (.int .i64 x) := (blk_cell hC.1.1 1).trans rfl
            go_simp
            exact hK _ _ hC (Below.refl _ _) rfl
          · have s2 : v 2 = .bool true := hS 2 rfl
            exact absurd s2 hG
        · -- 6: Op.call { callee := Callee.value (Operand.func 16), args := #[Operand.tmp 56], argTypes :=
          refine Spec.tellG 2 true rfl (fun v w hC hS hG ρ hρ K hK => ?_) (fun v w hC hS hG => ?_)
          · have s2 : v 2 = .bool true := hS 2 rfl
            have s5 : v 5 = .agg #[.string s, .int .i64 x] := hS 5 rfl
            have r56 : ρ (.tmp 56) = .agg #[.string s, .int .i64 x] := ((hρ _ (by simp [Op.operands, Call.operands])).trans (by kernel_rfl : Spec.look _ _ _ v (.tmp 56) = v 5)).trans s5
            have f16 : ρ (.func 16) = .func (.func 16) #[] #[] := (hρ _ (by simp [Op.operands, Call.operands])).trans (by kernel_rfl)
            clear hρ hS
            go_simp
            exact (cantleref08_Encode.calls k s x _ _ F7.out).mono fun e w' ⟨h1, h2⟩ => ⟨_, h1, hK _ _ ⟨⟨blk_below hC.1.1 h2, below_then hC.1.2 hC.1.2.size h2⟩, ⟨blk_below hC.2.1 h2, below_then hC.2.2 hC.2.2.size h2⟩⟩ h2 rfl⟩
          · have s2 : v 2 = .bool true := hS 2 rfl
            have s5 : v 5 = .agg #[.string s, .int .i64 x] := hS 5 rfl
            exact absurd s2 hG
        · -- 7: Op.binOp BinOp.eql 9 (Operand.tmp 55) (Operand.tmp 57) 9
          refine Spec.tellG 2 true rfl (fun v w hC hS hG ρ hρ K hK => ?_) (fun v w hC hS hG => ?_)
          · have s2 : v 2 = .bool true := hS 2 rfl
            have s4 : v 4 = .string (strOfNums b) := hS 4 rfl
            have s6 : v 6 = .string (strOfNums b) := hS 6 rfl
            have r55 : ρ (.tmp 55) = .string (strOfNums b) := ((hρ _ (by simp [Op.operands])).trans (by kernel_rfl : Spec.look _ _ _ v (.tmp 55) = v 4)).trans s4
            have r57 : ρ (.tmp 57) = .string (strOfNums b) := ((hρ _ (by simp [Op.operands])).trans (by kernel_rfl : Spec.look _ _ _ v (.tmp 57) = v 6)).trans s6
            clear hρ hS
            go_simp
            exact hK _ _ hC (Below.refl _ _) rfl
          · have s2 : v 2 = .bool true := hS 2 rfl
            have s4 : v 4 = .string (strOfNums b) := hS 4 rfl
            have s6 : v 6 = .string (strOfNums b) := hS 6 rfl
            exact absurd s2 hG
        · -- 8: Op.pick (Operand.tmp 53) (Operand.tmp 58) (Operand.const (Value.bool false))
          refine Spec.tell rfl fun v w hC hS ρ hρ K hK => ?_
          have s2 : v 2 = .bool true := hS 2 rfl
          have s7 : v 7 = .bool true := hS 7 rfl
          have r53 : ρ (.tmp 53) = .bool true := ((hρ _ (by simp [Op.operands])).trans (by kernel_rfl : Spec.look _ _ _ v (.tmp 53) = v 2)).trans s2
          have r58 : ρ (.tmp 58) = .bool true := ((hρ _ (by simp [Op.operands])).trans (by kernel_rfl : Spec.look _ _ _ v (.tmp 58) = v 7)).trans s7
          have c0 : ρ (.const (Value.bool false)) = (Value.bool false) := (hρ _ (by simp [Op.operands])).trans (by kernel_rfl)
          clear hρ hS
          go_simp
          exact hK _ _ hC (Below.refl _ _) rfl
        · -- 9: Op.move (Operand.tmp 59)
          refine Spec.tell rfl fun v w hC hS ρ hρ K hK => ?_
          have s8 : v 8 = .bool true := hS 8 rfl
          have r59 : ρ (.tmp 59) = .bool true := ((hρ _ (by simp [Op.operands])).trans (by kernel_rfl : Spec.look _ _ _ v (.tmp 59) = v 8)).trans s8
          clear hρ hS
          go_simp
          exact hK _ _ hC (Below.refl _ _) rfl
        · -- 10: Op.move (Operand.tmp 7)
          refine Spec.tellG 9 true rfl (fun v w hC hS hG ρ hρ K hK => ?_) (fun v w hC hS hG => ?_)
          · have s9 : v 9 = .bool true := hS 9 rfl
            have r7 : ρ (.tmp 7) = .int .i64 0 := (hρ _ (by simp [Op.operands])).trans (by kernel_rfl)
            clear hρ hS
            go_simp
            exact hK _ _ hC (Below.refl _ _) rfl
          · have s9 : v 9 = .bool true := hS 9 rfl
            exact absurd s9 hG
        · -- 11: Op.binOp BinOp.eql 25 (Operand.tmp 61) (Operand.const (Value.int IntKind.i64 0)) 25
          refine Spec.tellG 9 true rfl (fun v w hC hS hG ρ hρ K hK => ?_) (fun v w hC hS hG => ?_)
          · have s9 : v 9 = .bool true := hS 9 rfl
            have s10 : v 10 = .int .i64 0 := hS 10 rfl
            have r61 : ρ (.tmp 61) = .int .i64 0 := ((hρ _ (by simp [Op.operands])).trans (by kernel_rfl : Spec.look _ _ _ v (.tmp 61) = v 10)).trans s10
            have c0 : ρ (.const (Value.int IntKind.i64 0)) = (Value.int IntKind.i64 0) := (hρ _ (by simp [Op.operands])).trans (by kernel_rfl)
            clear hρ hS
            go_simp
            exact hK _ _ hC (Below.refl _ _) rfl
          · have s9 : v 9 = .bool true := hS 9 rfl
            have s10 : v 10 = .int .i64 0 := hS 10 rfl
            exact absurd s9 hG
        · -- 12: Op.pick (Operand.tmp 60) (Operand.tmp 62) (Operand.const (Value.bool false))
          refine Spec.tell rfl fun v w hC hS ρ hρ K hK => ?_
          have s9 : v 9 = .bool true := hS 9 rfl
          have s11 : v 11 = .bool true := hS 11 rfl
          have r60 : ρ (.tmp 60) = .bool true := ((hρ _ (by simp [Op.operands])).trans (by kernel_rfl : Spec.look _ _ _ v (.tmp 60) = v 9)).trans s9
          have r62 : ρ (.tmp 62) = .bool true := ((hρ _ (by simp [Op.operands])).trans (by kernel_rfl : Spec.look _ _ _ v (.tmp 62) = v 11)).trans s11
          have c0 : ρ (.const (Value.bool false)) = (Value.bool false) := (hρ _ (by simp [Op.operands])).trans (by kernel_rfl)
          clear hρ hS
          go_simp
          exact hK _ _ hC (Below.refl _ _) rfl
        · -- 13: Op.move (Operand.tmp 63)
          refine Spec.tell rfl fun v w hC hS ρ hρ K hK => ?_
          have s12 : v 12 = .bool true := hS 12 rfl
          have r63 : ρ (.tmp 63) = .bool true := ((hρ _ (by simp [Op.operands])).trans (by kernel_rfl : Spec.look _ _ _ v (.tmp 63) = v 12)).trans s12
          clear hρ hS
          go_simp
          exact hK _ _ hC (Below.refl _ _) rfl
        · -- 14: Op.load 33 (Operand.tmp 6)
          refine Spec.tellG 13 true rfl (fun v w hC hS hG ρ hρ K hK => ?_) (fun v w hC hS hG => ?_)
          · have s13 : v 13 = .bool true := hS 13 rfl
            have r6 : ρ (.tmp 6) = .pointer (some ⟨g, 0, none⟩) := (hρ _ (by simp [Op.operands])).trans (by kernel_rfl)
            clear hρ hS
            have q0 : w.cell? ⟨g, 0, none⟩ = some (.string s) := (blk_cell hC.2.1 0).trans rfl
            have q1 : w.cell? ⟨g, 1, none⟩ = some (.int .i64 x) := (blk_cell hC.2.1 1).trans rfl
            go_simp
            exact hK _ _ hC (Below.refl _ _) rfl
          · have s13 : v 13 = .bool true := hS 13 rfl
            exact absurd s13 hG
        · -- 15: Op.load 33 (Operand.tmp 1)
          refine Spec.tellG 13 true rfl (fun v w hC hS hG ρ hρ K hK => ?_) (fun v w hC hS hG => ?_)
          · have s13 : v 13 = .bool true := hS 13 rfl
            have r1 : ρ (.tmp 1) = .pointer (some ⟨w0.heap.size, 0, none⟩) := (hρ _ (by simp [Op.operands])).trans (by kernel_rfl)
            clear hρ hS
            have q0 : w.cell? ⟨w0.heap.size, 0, none⟩ = some (.string s) := (blk_cell hC.1.1 0).trans rfl
            have q1 : w.cell? ⟨w0.heap.size, 1, none⟩ = some (.int .i64 x) := (blk_cell hC.1.1 1).trans rfl
            go_simp
            exact hK _ _ hC (Below.refl _ _) rfl
          · have s13 : v 13 = .bool true := hS 13 rfl
            exact absurd s13 hG
        · -- 16: Op.binOp BinOp.eql 33 (Operand.tmp 65) (Operand.tmp 66) 33
          refine Spec.tellG 13 true rfl (fun v w hC hS hG ρ hρ K hK => ?_) (fun v w hC hS hG => ?_)
          · have s13 : v 13 = .bool true := hS 13 rfl
            have s14 : v 14 = .agg #[.string s, .int .i64 x] := hS 14 rfl
            have s15 : v 15 = .agg #[.string s, .int .i64 x] := hS 15 rfl
            have r65 : ρ (.tmp 65) = .agg #[.string s, .int .i64 x] := ((hρ _ (by simp [Op.operands])).trans (by kernel_rfl : Spec.look _ _ _ v (.tmp 65) = v 14)).trans s14
            have r66 : ρ (.tmp 66) = .agg #[.string s, .int .i64 x] := ((hρ _ (by simp [Op.operands])).trans (by kernel_rfl : Spec.look _ _ _ v (.tmp 66) = v 15)).trans s15
            clear hρ hS
            go_simp
            exact hK _ _ hC (Below.refl _ _) rfl
          · have s13 : v 13 = .bool true := hS 13 rfl
            have s14 : v 14 = .agg #[.string s, .int .i64 x] := hS 14 rfl
            have s15 : v 15 = .agg #[.string s, .int .i64 x] := hS 15 rfl
            exact absurd s13 hG
        · -- 17: Op.pick (Operand.tmp 64) (Operand.tmp 67) (Operand.const (Value.bool false))
          refine Spec.tell rfl fun v w hC hS ρ hρ K hK => ?_
          have s13 : v 13 = .bool true := hS 13 rfl
          have s16 : v 16 = .bool true := hS 16 rfl
          have r64 : ρ (.tmp 64) = .bool true := ((hρ _ (by simp [Op.operands])).trans (by kernel_rfl : Spec.look _ _ _ v (.tmp 64) = v 13)).trans s13
          have r67 : ρ (.tmp 67) = .bool true := ((hρ _ (by simp [Op.operands])).trans (by kernel_rfl : Spec.look _ _ _ v (.tmp 67) = v 16)).trans s16
          have c0 : ρ (.const (Value.bool false)) = (Value.bool false) := (hρ _ (by simp [Op.operands])).trans (by kernel_rfl)
          clear hρ hS
          go_simp
          exact hK _ _ hC (Below.refl _ _) rfl
        · -- 18: Op.assign (Operand.tmp 68)
          refine Spec.tell rfl fun v w hC hS ρ hρ K hK => ?_
          have s17 : v 17 = .bool true := hS 17 rfl
          have r68 : ρ (.tmp 68) = .bool true := ((hρ _ (by simp [Op.operands])).trans (by kernel_rfl : Spec.look _ _ _ v (.tmp 68) = v 17)).trans s17
          clear hρ hS
          go_simp
          exact hK _ _ hC (Below.refl _ _) rfl
      case end_10 =>
        intro v w' hC hS
        have s18 : v 18 = .bool true := hS 18 (by decide)
        clear hS
        simp only [Spec.putAll, Act.put, List.setIfInBounds_toArray, List.set_cons_zero, List.set_cons_succ]
        generalize v 0 = x0
        generalize v 1 = x1
        generalize v 2 = x2
        generalize v 3 = x3
        generalize v 4 = x4
        generalize v 5 = x5
        generalize v 6 = x6
        generalize v 7 = x7
        generalize v 8 = x8
        generalize v 9 = x9
        generalize v 10 = x10
        generalize v 11 = x11
        generalize v 12 = x12
        generalize v 13 = x13
        generalize v 14 = x14
        generalize v 15 = x15
        generalize v 16 = x16
        generalize v 17 = x17
        rw [s18]; clear s18
        have HB9 := Aside0.mk hC.1.2
        clear hC
        go_wp2_with fail
        go_ret
        exact ⟨rfl, HB9.out⟩
end Go.Proofs.Ytfkfpeiocdjniaa.PAll
