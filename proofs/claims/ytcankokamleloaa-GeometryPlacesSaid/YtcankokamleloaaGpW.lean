/- GeometryPlaces: the walk through the law function, by hand. Conditions: as each lemma says. -/
import Derived.Test.YtcankokamleloaaGpO
import Derived.Test.YtcankokamleloaaSpec
import Derived.Deep.QuietTactic
import Derived.BigQuiet
namespace Go.Proofs.Ytcankokamleloaa.Gp
open Go.RowKit Go.Proofs.Ytcankokamleloaa.PAll Go.Proofs.YtcankokamleloaaW.PrintWords Go.Proofs.YtcankokamleloaaW.PrintLast Go.Proofs.YtcankokamleloaaW.PrintMore
set_option linter.unusedVariables false
structure Facts (n m z i : Int) (may : Bool) (wd bt fi wo al su re no sl bl ea : Int) : Prop where
  f10 : geometry_Geometry_Bitmap.f n m z = some (fi, wo)
  f11 : geometry_Geometry_Bit.f n m z i = some (wd, bt)
  f21 : geometry_Geometry_May.f n m z = some may
  f12 : geometry_Geometry_Words.f n m z = some al
  f14 : geometry_Geometry_Super.f n m z = some su
  f15 : geometry_Geometry_Record.f n m z = some re
  f16 : geometry_Geometry_Inode.f n m z i = some no
  f17 : geometry_Geometry_Slot.f n m z i = some sl
  f18 : geometry_Geometry_Block.f n m z i = some bl
  f19 : geometry_Geometry_Each.f n m z = some ea
theorem lives7 (w : World) : Calls Try.prog 7 #[] w fun e w' => e = .returned (.bool true) ∧ Below w.heap.size w w' := cantlelaw04_Lives.calls true w (by decide +kernel)
set_option maxRecDepth 100000 in
set_option maxHeartbeats 8000000 in
theorem places_no (n m z i : Int) (w0 : World) (hm : ¬ mayG n m z) (hf : Facts n m z i false (-1) 0 (-1) 0 0 (-1) (-1) (-1) (-1) (-1) 0) (h9 : geometry_Geometry_Need.f n m z i = some 0) :
    Calls Try.prog 6 #[.int .i64 n, .int .i64 m, .int .i64 z, .int .i64 i] w0 fun e w' => e = .returned (.bool true) ∧ Below w0.heap.size w0 w' := by
  have HM := Aside0.mk hm
  have HF := Aside0.mk hf
  have HN := Aside0.mk h9
  clear hm hf h9
  go_enter Try.func6, Try.ntmps6
  go_wp2_with fail
  refine (lives7 _).mono ?_
  rintro e w1 ⟨rfl, hb⟩
  have HB0 := Aside0.mk hb
  clear hb
  go_wp2_with fail
  have HG0 := Aside0.mk (heap_alloc_new w1 (.cells #[.int .i64 n, .int .i64 m, .int .i64 z] 24))
  refine (of_no n m z _ HM.out).mono ?_
  rintro e w2 ⟨rfl, hb⟩
  have HG1 := Aside0.mk (blk_below HG0.out hb)
  have HB1 := Aside0.mk (below_then (below_alloc HB0.out _) (below_alloc HB0.out _).size hb)
  clear hb HB0 HG0
  generalize w1.heap.size = gb at HG1 ⊢
  have q0 := fun (o : Obj) => (blk_cell (blk_alloc HG1.out o) 0).trans rfl
  have q1 := fun (o : Obj) => (blk_cell (blk_alloc HG1.out o) 1).trans rfl
  have q2 := fun (o : Obj) => (blk_cell (blk_alloc HG1.out o) 2).trans rfl
  go_wp2_with fail
  clear q0 q1 q2
  have HP := Aside0.mk (heap_alloc_new w2 (.cells #[.int .i64 0, .int .i64 0, .int .i64 0, .int .i64 0, .int .i64 0] 38))
  have HG := Aside0.mk (blk_alloc HG1.out (.cells #[.int .i64 0, .int .i64 0, .int .i64 0, .int .i64 0, .int .i64 0] 38))
  have HB := Aside0.mk (below_alloc HB1.out (.cells #[.int .i64 0, .int .i64 0, .int .i64 0, .int .i64 0, .int .i64 0] 38))
  generalize w2.alloc (.cells #[.int .i64 0, .int .i64 0, .int .i64 0, .int .i64 0, .int .i64 0] 38) = w3 at HP HG HB ⊢
  generalize w2.heap.size = pb at HP ⊢
  clear HG1 HB1
  have g0 := (blk_cell HG.out 0).trans rfl
  have g1 := (blk_cell HG.out 1).trans rfl
  have g2 := (blk_cell HG.out 2).trans rfl
  go_wp2_with (first | (go_at_call 10; refine (geometry_Geometry_Bitmap.calls n m z _ _ _ HF.out.f10).mono ?_; rintro e w9 ⟨rfl, hb⟩; have HB9 := Aside0.mk (below_then HB.out HB.out.size hb); have HG9 := Aside0.mk (blk_below HG.out hb); have HP9 := Aside0.mk (blk_below HP.out hb); clear HB HG HP g0 g1 g2 hb; have HB := HB9; have HG := HG9; have HP := HP9; clear HB9 HG9 HP9; have g0 := (blk_cell HG.out 0).trans rfl; have g1 := (blk_cell HG.out 1).trans rfl; have g2 := (blk_cell HG.out 2).trans rfl) | (go_at_call 11; refine (geometry_Geometry_Bit.calls n m z i _ _ _ HF.out.f11).mono ?_; rintro e w9 ⟨rfl, hb⟩; have HB9 := Aside0.mk (below_then HB.out HB.out.size hb); have HG9 := Aside0.mk (blk_below HG.out hb); have HP9 := Aside0.mk (blk_below HP.out hb); clear HB HG HP g0 g1 g2 hb; have HB := HB9; have HG := HG9; have HP := HP9; clear HB9 HG9 HP9; have g0 := (blk_cell HG.out 0).trans rfl; have g1 := (blk_cell HG.out 1).trans rfl; have g2 := (blk_cell HG.out 2).trans rfl) | (go_at_call 21; refine (geometry_Geometry_May.calls n m z _ _ HF.out.f21).mono ?_; rintro e w9 ⟨rfl, hb⟩; have HB9 := Aside0.mk (below_then HB.out HB.out.size hb); have HG9 := Aside0.mk (blk_below HG.out hb); have HP9 := Aside0.mk (blk_below HP.out hb); clear HB HG HP g0 g1 g2 hb; have HB := HB9; have HG := HG9; have HP := HP9; clear HB9 HG9 HP9; have g0 := (blk_cell HG.out 0).trans rfl; have g1 := (blk_cell HG.out 1).trans rfl; have g2 := (blk_cell HG.out 2).trans rfl) | (go_at_call 12; refine (geometry_Geometry_Words.calls n m z _ _ HF.out.f12).mono ?_; rintro e w9 ⟨rfl, hb⟩; have HB9 := Aside0.mk (below_then HB.out HB.out.size hb); have HG9 := Aside0.mk (blk_below HG.out hb); have HP9 := Aside0.mk (blk_below HP.out hb); clear HB HG HP g0 g1 g2 hb; have HB := HB9; have HG := HG9; have HP := HP9; clear HB9 HG9 HP9; have g0 := (blk_cell HG.out 0).trans rfl; have g1 := (blk_cell HG.out 1).trans rfl; have g2 := (blk_cell HG.out 2).trans rfl) | (go_at_call 14; refine (geometry_Geometry_Super.calls n m z _ _ HF.out.f14).mono ?_; rintro e w9 ⟨rfl, hb⟩; have HB9 := Aside0.mk (below_then HB.out HB.out.size hb); have HG9 := Aside0.mk (blk_below HG.out hb); have HP9 := Aside0.mk (blk_below HP.out hb); clear HB HG HP g0 g1 g2 hb; have HB := HB9; have HG := HG9; have HP := HP9; clear HB9 HG9 HP9; have g0 := (blk_cell HG.out 0).trans rfl; have g1 := (blk_cell HG.out 1).trans rfl; have g2 := (blk_cell HG.out 2).trans rfl) | (go_at_call 15; refine (geometry_Geometry_Record.calls n m z _ _ HF.out.f15).mono ?_; rintro e w9 ⟨rfl, hb⟩; have HB9 := Aside0.mk (below_then HB.out HB.out.size hb); have HG9 := Aside0.mk (blk_below HG.out hb); have HP9 := Aside0.mk (blk_below HP.out hb); clear HB HG HP g0 g1 g2 hb; have HB := HB9; have HG := HG9; have HP := HP9; clear HB9 HG9 HP9; have g0 := (blk_cell HG.out 0).trans rfl; have g1 := (blk_cell HG.out 1).trans rfl; have g2 := (blk_cell HG.out 2).trans rfl) | (go_at_call 16; refine (geometry_Geometry_Inode.calls n m z i _ _ HF.out.f16).mono ?_; rintro e w9 ⟨rfl, hb⟩; have HB9 := Aside0.mk (below_then HB.out HB.out.size hb); have HG9 := Aside0.mk (blk_below HG.out hb); have HP9 := Aside0.mk (blk_below HP.out hb); clear HB HG HP g0 g1 g2 hb; have HB := HB9; have HG := HG9; have HP := HP9; clear HB9 HG9 HP9; have g0 := (blk_cell HG.out 0).trans rfl; have g1 := (blk_cell HG.out 1).trans rfl; have g2 := (blk_cell HG.out 2).trans rfl) | (go_at_call 17; refine (geometry_Geometry_Slot.calls n m z i _ _ HF.out.f17).mono ?_; rintro e w9 ⟨rfl, hb⟩; have HB9 := Aside0.mk (below_then HB.out HB.out.size hb); have HG9 := Aside0.mk (blk_below HG.out hb); have HP9 := Aside0.mk (blk_below HP.out hb); clear HB HG HP g0 g1 g2 hb; have HB := HB9; have HG := HG9; have HP := HP9; clear HB9 HG9 HP9; have g0 := (blk_cell HG.out 0).trans rfl; have g1 := (blk_cell HG.out 1).trans rfl; have g2 := (blk_cell HG.out 2).trans rfl) | (go_at_call 18; refine (geometry_Geometry_Block.calls n m z i _ _ HF.out.f18).mono ?_; rintro e w9 ⟨rfl, hb⟩; have HB9 := Aside0.mk (below_then HB.out HB.out.size hb); have HG9 := Aside0.mk (blk_below HG.out hb); have HP9 := Aside0.mk (blk_below HP.out hb); clear HB HG HP g0 g1 g2 hb; have HB := HB9; have HG := HG9; have HP := HP9; clear HB9 HG9 HP9; have g0 := (blk_cell HG.out 0).trans rfl; have g1 := (blk_cell HG.out 1).trans rfl; have g2 := (blk_cell HG.out 2).trans rfl) | (go_at_call 19; refine (geometry_Geometry_Each.calls n m z _ _ HF.out.f19).mono ?_; rintro e w9 ⟨rfl, hb⟩; have HB9 := Aside0.mk (below_then HB.out HB.out.size hb); have HG9 := Aside0.mk (blk_below HG.out hb); have HP9 := Aside0.mk (blk_below HP.out hb); clear HB HG HP g0 g1 g2 hb; have HB := HB9; have HG := HG9; have HP := HP9; clear HB9 HG9 HP9; have g0 := (blk_cell HG.out 0).trans rfl; have g1 := (blk_cell HG.out 1).trans rfl; have g2 := (blk_cell HG.out 2).trans rfl) | (go_at_call 9; refine (geometry_Geometry_Need.calls n m z i _ _ HN.out).mono ?_; rintro e w9 ⟨rfl, hb⟩; have HB9 := Aside0.mk (below_then HB.out HB.out.size hb); have HG9 := Aside0.mk (blk_below HG.out hb); have HP9 := Aside0.mk (blk_below HP.out hb); clear HB HG HP g0 g1 g2 hb; have HB := HB9; have HG := HG9; have HP := HP9; clear HB9 HG9 HP9; have g0 := (blk_cell HG.out 0).trans rfl; have g1 := (blk_cell HG.out 1).trans rfl; have g2 := (blk_cell HG.out 2).trans rfl))
  go_ret
  exact ⟨rfl, HB.out⟩
structure Nums (n z bw ea : Int) : Prop where
  e63 : IntKind.i64.wrap (n + 63) = n + 63
  e64 : Int.tdiv (n + 63) 64 = bw
  e65 : IntKind.i64.wrap bw = bw
  ez : Int.tdiv z 8 = ea
  ez1 : IntKind.i64.wrap ea = ea
structure Ins (n m z i wd bm s1 b3 no sl bl ea q64 : Int) : Prop where
  a8 : IntKind.i64.wrap (8 * i) = 8 * i
  a16 : IntKind.i64.wrap (16 + 8 * i) = 16 + 8 * i
  asl : IntKind.i64.wrap (s1 + i) = s1 + i
  ae : IntKind.i64.wrap (i * ea) = i * ea
  ab : IntKind.i64.wrap (b3 + i * ea) = b3 + i * ea
  aq : Int.tdiv i 64 = q64
  aq1 : IntKind.i64.wrap q64 = q64
  aw : IntKind.i64.wrap (bm + q64) = bm + q64
  f1 : cantlelaw04_in.f (16 + 8 * i) i m = some no
  f2 : cantlelaw04_in.f (s1 + i) i n = some sl
  f3 : cantlelaw04_in.f (b3 + i * ea) i n = some bl
  f4 : cantlelaw04_in.f (bm + q64) i n = some wd
set_option maxRecDepth 100000 in
set_option maxHeartbeats 8000000 in
theorem places_out (n m z i wd bt bm bw al no sl bl ea s1 b3 q64 : Int) (w0 : World) (hof : ∀ w, Calls Try.prog 20 #[.int .i64 n, .int .i64 m, .int .i64 z] w fun e w' => e = .returned (.tuple #[.agg #[.int .i64 16, .int .i64 s1, .int .i64 bm, .int .i64 b3, .int .i64 al], .bool true]) ∧ Below w.heap.size w w') (hf : Facts n m z i true (-1) 0 bm bw al 0 8 (-1) (-1) (-1) ea) (ha : Nums n z bw ea) (hi : i < 0 ∨ 65534 ≤ i) :
    Calls Try.prog 6 #[.int .i64 n, .int .i64 m, .int .i64 z, .int .i64 i] w0 fun e w' => e = .returned (.bool true) ∧ Below w0.heap.size w0 w' := by
  have HM := Aside0.mk hof
  have HF := Aside0.mk hf
  have HA := Aside0.mk ha
  have HI := Aside0.mk hi
  clear hi
  clear hof hf ha
  go_enter Try.func6, Try.ntmps6
  go_wp2_with fail
  refine (lives7 _).mono ?_
  rintro e w1 ⟨rfl, hb⟩
  have HB0 := Aside0.mk hb
  clear hb
  go_wp2_with fail
  have HG0 := Aside0.mk (heap_alloc_new w1 (.cells #[.int .i64 n, .int .i64 m, .int .i64 z] 24))
  refine (HM.out _).mono ?_
  rintro e w2 ⟨rfl, hb⟩
  have HG1 := Aside0.mk (blk_below HG0.out hb)
  have HB1 := Aside0.mk (below_then (below_alloc HB0.out _) (below_alloc HB0.out _).size hb)
  clear hb HB0 HG0
  generalize w1.heap.size = gb at HG1 ⊢
  have q0 := fun (o : Obj) => (blk_cell (blk_alloc HG1.out o) 0).trans rfl
  have q1 := fun (o : Obj) => (blk_cell (blk_alloc HG1.out o) 1).trans rfl
  have q2 := fun (o : Obj) => (blk_cell (blk_alloc HG1.out o) 2).trans rfl
  go_wp2_with fail
  clear q0 q1 q2
  have HP := Aside0.mk (heap_alloc_new w2 (.cells #[.int .i64 16, .int .i64 s1, .int .i64 bm, .int .i64 b3, .int .i64 al] 38))
  have HG := Aside0.mk (blk_alloc HG1.out (.cells #[.int .i64 16, .int .i64 s1, .int .i64 bm, .int .i64 b3, .int .i64 al] 38))
  have HB := Aside0.mk (below_alloc HB1.out (.cells #[.int .i64 16, .int .i64 s1, .int .i64 bm, .int .i64 b3, .int .i64 al] 38))
  generalize w2.alloc (.cells #[.int .i64 16, .int .i64 s1, .int .i64 bm, .int .i64 b3, .int .i64 al] 38) = w3 at HP HG HB ⊢
  generalize w2.heap.size = pb at HP ⊢
  clear HG1 HB1
  have g0 := (blk_cell HG.out 0).trans rfl
  have g1 := (blk_cell HG.out 1).trans rfl
  have g2 := (blk_cell HG.out 2).trans rfl
  have di : (decide (i < 0) = true) ∨ (decide (i < 0) = false ∧ decide (65534 ≤ i) = true) := by rcases Int.lt_or_le i 0 with h | h; exact Or.inl (decide_eq_true h); exact Or.inr ⟨decide_eq_false (by omega), decide_eq_true (by have := HI.out; omega)⟩
  have DI := Aside0.mk di
  clear di
  go_wp2_with (first | (go_at_call 10; refine (geometry_Geometry_Bitmap.calls n m z _ _ _ HF.out.f10).mono ?_; rintro e w9 ⟨rfl, hb⟩; have HB9 := Aside0.mk (below_then HB.out HB.out.size hb); have HG9 := Aside0.mk (blk_below HG.out hb); have HP9 := Aside0.mk (blk_below HP.out hb); clear HB HG HP g0 g1 g2 hb; have HB := HB9; have HG := HG9; have HP := HP9; clear HB9 HG9 HP9; have g0 := (blk_cell HG.out 0).trans rfl; have g1 := (blk_cell HG.out 1).trans rfl; have g2 := (blk_cell HG.out 2).trans rfl) | (go_at_call 11; refine (geometry_Geometry_Bit.calls n m z i _ _ _ HF.out.f11).mono ?_; rintro e w9 ⟨rfl, hb⟩; have HB9 := Aside0.mk (below_then HB.out HB.out.size hb); have HG9 := Aside0.mk (blk_below HG.out hb); have HP9 := Aside0.mk (blk_below HP.out hb); clear HB HG HP g0 g1 g2 hb; have HB := HB9; have HG := HG9; have HP := HP9; clear HB9 HG9 HP9; have g0 := (blk_cell HG.out 0).trans rfl; have g1 := (blk_cell HG.out 1).trans rfl; have g2 := (blk_cell HG.out 2).trans rfl) | (go_at_call 21; refine (geometry_Geometry_May.calls n m z _ _ HF.out.f21).mono ?_; rintro e w9 ⟨rfl, hb⟩; have HB9 := Aside0.mk (below_then HB.out HB.out.size hb); have HG9 := Aside0.mk (blk_below HG.out hb); have HP9 := Aside0.mk (blk_below HP.out hb); clear HB HG HP g0 g1 g2 hb; have HB := HB9; have HG := HG9; have HP := HP9; clear HB9 HG9 HP9; have g0 := (blk_cell HG.out 0).trans rfl; have g1 := (blk_cell HG.out 1).trans rfl; have g2 := (blk_cell HG.out 2).trans rfl))
  clear g0 g1 g2
  refine Spec.wp_told (F := fun j => [0, 1, 0, 4, 15, 31, 63, 127, 255, 511, 1023, 2047, 4095, 8191, 16383, 32767, 65535, 65535, 196607, 524287, 1048575, 2097151, 4194303, 4194303, 12582911, 29360127, 67108863, 134217727, 268435455, 536870911, 1073741823, 536870911, 2684354559, 8589934591, 17179869183].getD j 0) (C := fun W => Below w9.heap.size w9 W) (S := Spec.at_ [fun u W => u = .agg #[.int .i64 n, .int .i64 m, .int .i64 z], fun u W => u = .int .i64 al, fun u W => u = .pointer (some ⟨pb, 4, none⟩), fun u W => u = .int .i64 al, fun u W => u = .bool false, fun u W => u = .bool false, fun u W => u = .agg #[.int .i64 n, .int .i64 m, .int .i64 z], fun u W => u = .int .i64 0, fun u W => u = .bool false, fun u W => u = .bool false, fun u W => u = .bool false, fun u W => u = .agg #[.int .i64 n, .int .i64 m, .int .i64 z], fun u W => u = .int .i64 8, fun u W => u = .bool false, fun u W => u = .bool false, fun u W => u = .bool false, fun u W => u = .int .i64 bm, fun u W => u = .pointer (some ⟨pb, 2, none⟩), fun u W => u = .int .i64 bm, fun u W => u = .bool false, fun u W => u = .bool false, fun u W => u = .bool false, fun u W => u = .int .i64 bw, fun u W => u = .int .i64 n, fun u W => u = .int .i64 (n + 63), fun u W => u = .int .i64 bw, fun u W => u = .bool false, fun u W => u = .bool false, fun u W => u = .bool false, fun u W => u = .agg #[.int .i64 n, .int .i64 m, .int .i64 z], fun u W => u = .int .i64 ea, fun u W => u = .int .i64 z, fun u W => u = .int .i64 ea, fun u W => u = .bool false, fun u W => u = .bool false]) (Kp := fun W W' => Below W.heap.size W W') (by kernel_rfl) (by kernel_rfl) (Spec.AllStay.at_ ?stay_11) ?start_11 ?ops_11 ?end_11
  case stay_11 =>
    exact ⟨fun _ _ _ _ h => h, fun _ _ _ _ h => h, fun _ _ _ _ h => h, fun _ _ _ _ h => h, fun _ _ _ _ h => h, fun _ _ _ _ h => h, fun _ _ _ _ h => h, fun _ _ _ _ h => h, fun _ _ _ _ h => h, fun _ _ _ _ h => h, fun _ _ _ _ h => h, fun _ _ _ _ h => h, fun _ _ _ _ h => h, fun _ _ _ _ h => h, fun _ _ _ _ h => h, fun _ _ _ _ h => h, fun _ _ _ _ h => h, fun _ _ _ _ h => h, fun _ _ _ _ h => h, fun _ _ _ _ h => h, fun _ _ _ _ h => h, fun _ _ _ _ h => h, fun _ _ _ _ h => h, fun _ _ _ _ h => h, fun _ _ _ _ h => h, fun _ _ _ _ h => h, fun _ _ _ _ h => h, fun _ _ _ _ h => h, fun _ _ _ _ h => h, fun _ _ _ _ h => h, fun _ _ _ _ h => h, fun _ _ _ _ h => h, fun _ _ _ _ h => h, fun _ _ _ _ h => h, fun _ _ _ _ h => h, trivial⟩
  case start_11 =>
    exact below_drew (Below.refl _ _)
  case ops_11 =>
    refine ⟨?_, ?_, ?_, ?_, ?_, ?_, ?_, ?_, ?_, ?_, ?_, ?_, ?_, ?_, ?_, ?_, ?_, ?_, ?_, ?_, ?_, ?_, ?_, ?_, ?_, ?_, ?_, ?_, ?_, ?_, ?_, ?_, ?_, ?_, ?_, trivial⟩
    · -- 0: Op.load 24 (Operand.tmp 9)
      refine Spec.tell rfl fun v w hC hS ρ hρ K hK => ?_
      have r9 : ρ (.tmp 9) = .pointer (some ⟨gb, 0, none⟩) := (hρ _ (by simp [Op.operands])).trans (by kernel_rfl)
      clear hρ hS
      have g0 := (blk_cell (blk_below HG.out hC) 0).trans rfl
      have g1 := (blk_cell (blk_below HG.out hC) 1).trans rfl
      have g2 := (blk_cell (blk_below HG.out hC) 2).trans rfl
      go_simp
      exact hK _ _ hC (Below.refl _ _) rfl
    · -- 1: Op.call { callee := Callee.value (Operand.func 12), args := #[Operand.tmp 104], argTypes :
      refine Spec.tell rfl fun v w hC hS ρ hρ K hK => ?_
      have s0 : v 0 = .agg #[.int .i64 n, .int .i64 m, .int .i64 z] := hS 0 rfl
      have r104 : ρ (.tmp 104) = .agg #[.int .i64 n, .int .i64 m, .int .i64 z] := ((hρ _ (by simp [Op.operands, Call.operands])).trans (by kernel_rfl : Spec.look _ _ _ v (.tmp 104) = v 0)).trans s0
      have f12 : ρ (.func 12) = .func (.func 12) #[] #[] := (hρ _ (by simp [Op.operands, Call.operands])).trans (by kernel_rfl)
      clear hρ hS
      go_simp
      exact (geometry_Geometry_Words.calls n m z _ _ HF.out.f12).mono fun e w' ⟨h1, h2⟩ => ⟨_, h1, hK _ _ (below_then hC hC.size h2) h2 rfl⟩
    · -- 2: Op.fieldAddr 38 (Operand.tmp 10) 4
      refine Spec.tell rfl fun v w hC hS ρ hρ K hK => ?_
      have r10 : ρ (.tmp 10) = .pointer (some ⟨pb, 0, none⟩) := (hρ _ (by simp [Op.operands])).trans (by kernel_rfl)
      clear hρ hS
      go_simp
      exact hK _ _ hC (Below.refl _ _) rfl
    · -- 3: Op.load 3 (Operand.tmp 106)
      refine Spec.tell rfl fun v w hC hS ρ hρ K hK => ?_
      have s2 : v 2 = .pointer (some ⟨pb, 4, none⟩) := hS 2 rfl
      have r106 : ρ (.tmp 106) = .pointer (some ⟨pb, 4, none⟩) := ((hρ _ (by simp [Op.operands])).trans (by kernel_rfl : Spec.look _ _ _ v (.tmp 106) = v 2)).trans s2
      clear hρ hS
      have p4 := (blk_cell (blk_below HP.out hC) 4).trans rfl
      go_simp
      exact hK _ _ hC (Below.refl _ _) rfl
    · -- 4: Op.binOp BinOp.neq 3 (Operand.tmp 105) (Operand.tmp 107) 3
      refine Spec.tell rfl fun v w hC hS ρ hρ K hK => ?_
      have s1 : v 1 = .int .i64 al := hS 1 rfl
      have s3 : v 3 = .int .i64 al := hS 3 rfl
      have r105 : ρ (.tmp 105) = .int .i64 al := ((hρ _ (by simp [Op.operands])).trans (by kernel_rfl : Spec.look _ _ _ v (.tmp 105) = v 1)).trans s1
      have r107 : ρ (.tmp 107) = .int .i64 al := ((hρ _ (by simp [Op.operands])).trans (by kernel_rfl : Spec.look _ _ _ v (.tmp 107) = v 3)).trans s3
      clear hρ hS
      go_simp
      exact hK _ _ hC (Below.refl _ _) rfl
    · -- 5: Op.move (Operand.tmp 108)
      refine Spec.tell rfl fun v w hC hS ρ hρ K hK => ?_
      have s4 : v 4 = .bool false := hS 4 rfl
      have r108 : ρ (.tmp 108) = .bool false := ((hρ _ (by simp [Op.operands])).trans (by kernel_rfl : Spec.look _ _ _ v (.tmp 108) = v 4)).trans s4
      clear hρ hS
      go_simp
      exact hK _ _ hC (Below.refl _ _) rfl
    · -- 6: Op.load 24 (Operand.tmp 9)
      refine Spec.tellG 5 false rfl (fun v w hC hS hG ρ hρ K hK => ?_) (fun v w hC hS hG => ?_)
      · have s5 : v 5 = .bool false := hS 5 rfl
        have r9 : ρ (.tmp 9) = .pointer (some ⟨gb, 0, none⟩) := (hρ _ (by simp [Op.operands])).trans (by kernel_rfl)
        clear hρ hS
        have g0 := (blk_cell (blk_below HG.out hC) 0).trans rfl
        have g1 := (blk_cell (blk_below HG.out hC) 1).trans rfl
        have g2 := (blk_cell (blk_below HG.out hC) 2).trans rfl
        go_simp
        exact hK _ _ hC (Below.refl _ _) rfl
      · have s5 : v 5 = .bool false := hS 5 rfl
        exact absurd s5 hG
    · -- 7: Op.call { callee := Callee.value (Operand.func 14), args := #[Operand.tmp 110], argTypes :
      refine Spec.tellG 5 false rfl (fun v w hC hS hG ρ hρ K hK => ?_) (fun v w hC hS hG => ?_)
      · have s5 : v 5 = .bool false := hS 5 rfl
        have s6 : v 6 = .agg #[.int .i64 n, .int .i64 m, .int .i64 z] := hS 6 rfl
        have r110 : ρ (.tmp 110) = .agg #[.int .i64 n, .int .i64 m, .int .i64 z] := ((hρ _ (by simp [Op.operands, Call.operands])).trans (by kernel_rfl : Spec.look _ _ _ v (.tmp 110) = v 6)).trans s6
        have f14 : ρ (.func 14) = .func (.func 14) #[] #[] := (hρ _ (by simp [Op.operands, Call.operands])).trans (by kernel_rfl)
        clear hρ hS
        go_simp
        exact (geometry_Geometry_Super.calls n m z _ _ HF.out.f14).mono fun e w' ⟨h1, h2⟩ => ⟨_, h1, hK _ _ (below_then hC hC.size h2) h2 rfl⟩
      · have s5 : v 5 = .bool false := hS 5 rfl
        have s6 : v 6 = .agg #[.int .i64 n, .int .i64 m, .int .i64 z] := hS 6 rfl
        exact absurd s5 hG
    · -- 8: Op.binOp BinOp.neq 3 (Operand.tmp 111) (Operand.const (Value.int IntKind.i64 0)) 3
      refine Spec.tellG 5 false rfl (fun v w hC hS hG ρ hρ K hK => ?_) (fun v w hC hS hG => ?_)
      · have s5 : v 5 = .bool false := hS 5 rfl
        have s7 : v 7 = .int .i64 0 := hS 7 rfl
        have r111 : ρ (.tmp 111) = .int .i64 0 := ((hρ _ (by simp [Op.operands])).trans (by kernel_rfl : Spec.look _ _ _ v (.tmp 111) = v 7)).trans s7
        have c0 : ρ (.const (Value.int IntKind.i64 0)) = (Value.int IntKind.i64 0) := (hρ _ (by simp [Op.operands])).trans (by kernel_rfl)
        clear hρ hS
        go_simp
        exact hK _ _ hC (Below.refl _ _) rfl
      · have s5 : v 5 = .bool false := hS 5 rfl
        have s7 : v 7 = .int .i64 0 := hS 7 rfl
        exact absurd s5 hG
    · -- 9: Op.pick (Operand.tmp 109) (Operand.const (Value.bool true)) (Operand.tmp 112)
      refine Spec.tell rfl fun v w hC hS ρ hρ K hK => ?_
      have s5 : v 5 = .bool false := hS 5 rfl
      have s8 : v 8 = .bool false := hS 8 rfl
      have r109 : ρ (.tmp 109) = .bool false := ((hρ _ (by simp [Op.operands])).trans (by kernel_rfl : Spec.look _ _ _ v (.tmp 109) = v 5)).trans s5
      have r112 : ρ (.tmp 112) = .bool false := ((hρ _ (by simp [Op.operands])).trans (by kernel_rfl : Spec.look _ _ _ v (.tmp 112) = v 8)).trans s8
      have c0 : ρ (.const (Value.bool true)) = (Value.bool true) := (hρ _ (by simp [Op.operands])).trans (by kernel_rfl)
      clear hρ hS
      go_simp
      exact hK _ _ hC (Below.refl _ _) rfl
    · -- 10: Op.move (Operand.tmp 113)
      refine Spec.tell rfl fun v w hC hS ρ hρ K hK => ?_
      have s9 : v 9 = .bool false := hS 9 rfl
      have r113 : ρ (.tmp 113) = .bool false := ((hρ _ (by simp [Op.operands])).trans (by kernel_rfl : Spec.look _ _ _ v (.tmp 113) = v 9)).trans s9
      clear hρ hS
      go_simp
      exact hK _ _ hC (Below.refl _ _) rfl
    · -- 11: Op.load 24 (Operand.tmp 9)
      refine Spec.tellG 10 false rfl (fun v w hC hS hG ρ hρ K hK => ?_) (fun v w hC hS hG => ?_)
      · have s10 : v 10 = .bool false := hS 10 rfl
        have r9 : ρ (.tmp 9) = .pointer (some ⟨gb, 0, none⟩) := (hρ _ (by simp [Op.operands])).trans (by kernel_rfl)
        clear hρ hS
        have g0 := (blk_cell (blk_below HG.out hC) 0).trans rfl
        have g1 := (blk_cell (blk_below HG.out hC) 1).trans rfl
        have g2 := (blk_cell (blk_below HG.out hC) 2).trans rfl
        go_simp
        exact hK _ _ hC (Below.refl _ _) rfl
      · have s10 : v 10 = .bool false := hS 10 rfl
        exact absurd s10 hG
    · -- 12: Op.call { callee := Callee.value (Operand.func 15), args := #[Operand.tmp 115], argTypes :
      refine Spec.tellG 10 false rfl (fun v w hC hS hG ρ hρ K hK => ?_) (fun v w hC hS hG => ?_)
      · have s10 : v 10 = .bool false := hS 10 rfl
        have s11 : v 11 = .agg #[.int .i64 n, .int .i64 m, .int .i64 z] := hS 11 rfl
        have r115 : ρ (.tmp 115) = .agg #[.int .i64 n, .int .i64 m, .int .i64 z] := ((hρ _ (by simp [Op.operands, Call.operands])).trans (by kernel_rfl : Spec.look _ _ _ v (.tmp 115) = v 11)).trans s11
        have f15 : ρ (.func 15) = .func (.func 15) #[] #[] := (hρ _ (by simp [Op.operands, Call.operands])).trans (by kernel_rfl)
        clear hρ hS
        go_simp
        exact (geometry_Geometry_Record.calls n m z _ _ HF.out.f15).mono fun e w' ⟨h1, h2⟩ => ⟨_, h1, hK _ _ (below_then hC hC.size h2) h2 rfl⟩
      · have s10 : v 10 = .bool false := hS 10 rfl
        have s11 : v 11 = .agg #[.int .i64 n, .int .i64 m, .int .i64 z] := hS 11 rfl
        exact absurd s10 hG
    · -- 13: Op.binOp BinOp.neq 3 (Operand.tmp 116) (Operand.const (Value.int IntKind.i64 8)) 3
      refine Spec.tellG 10 false rfl (fun v w hC hS hG ρ hρ K hK => ?_) (fun v w hC hS hG => ?_)
      · have s10 : v 10 = .bool false := hS 10 rfl
        have s12 : v 12 = .int .i64 8 := hS 12 rfl
        have r116 : ρ (.tmp 116) = .int .i64 8 := ((hρ _ (by simp [Op.operands])).trans (by kernel_rfl : Spec.look _ _ _ v (.tmp 116) = v 12)).trans s12
        have c0 : ρ (.const (Value.int IntKind.i64 8)) = (Value.int IntKind.i64 8) := (hρ _ (by simp [Op.operands])).trans (by kernel_rfl)
        clear hρ hS
        go_simp
        exact hK _ _ hC (Below.refl _ _) rfl
      · have s10 : v 10 = .bool false := hS 10 rfl
        have s12 : v 12 = .int .i64 8 := hS 12 rfl
        exact absurd s10 hG
    · -- 14: Op.pick (Operand.tmp 114) (Operand.const (Value.bool true)) (Operand.tmp 117)
      refine Spec.tell rfl fun v w hC hS ρ hρ K hK => ?_
      have s10 : v 10 = .bool false := hS 10 rfl
      have s13 : v 13 = .bool false := hS 13 rfl
      have r114 : ρ (.tmp 114) = .bool false := ((hρ _ (by simp [Op.operands])).trans (by kernel_rfl : Spec.look _ _ _ v (.tmp 114) = v 10)).trans s10
      have r117 : ρ (.tmp 117) = .bool false := ((hρ _ (by simp [Op.operands])).trans (by kernel_rfl : Spec.look _ _ _ v (.tmp 117) = v 13)).trans s13
      have c0 : ρ (.const (Value.bool true)) = (Value.bool true) := (hρ _ (by simp [Op.operands])).trans (by kernel_rfl)
      clear hρ hS
      go_simp
      exact hK _ _ hC (Below.refl _ _) rfl
    · -- 15: Op.move (Operand.tmp 118)
      refine Spec.tell rfl fun v w hC hS ρ hρ K hK => ?_
      have s14 : v 14 = .bool false := hS 14 rfl
      have r118 : ρ (.tmp 118) = .bool false := ((hρ _ (by simp [Op.operands])).trans (by kernel_rfl : Spec.look _ _ _ v (.tmp 118) = v 14)).trans s14
      clear hρ hS
      go_simp
      exact hK _ _ hC (Below.refl _ _) rfl
    · -- 16: Op.move (Operand.tmp 14)
      refine Spec.tellG 15 false rfl (fun v w hC hS hG ρ hρ K hK => ?_) (fun v w hC hS hG => ?_)
      · have s15 : v 15 = .bool false := hS 15 rfl
        have r14 : ρ (.tmp 14) = .int .i64 bm := (hρ _ (by simp [Op.operands])).trans (by kernel_rfl)
        clear hρ hS
        go_simp
        exact hK _ _ hC (Below.refl _ _) rfl
      · have s15 : v 15 = .bool false := hS 15 rfl
        exact absurd s15 hG
    · -- 17: Op.fieldAddr 38 (Operand.tmp 10) 2
      refine Spec.tellG 15 false rfl (fun v w hC hS hG ρ hρ K hK => ?_) (fun v w hC hS hG => ?_)
      · have s15 : v 15 = .bool false := hS 15 rfl
        have r10 : ρ (.tmp 10) = .pointer (some ⟨pb, 0, none⟩) := (hρ _ (by simp [Op.operands])).trans (by kernel_rfl)
        clear hρ hS
        go_simp
        exact hK _ _ hC (Below.refl _ _) rfl
      · have s15 : v 15 = .bool false := hS 15 rfl
        exact absurd s15 hG
    · -- 18: Op.load 3 (Operand.tmp 121)
      refine Spec.tellG 15 false rfl (fun v w hC hS hG ρ hρ K hK => ?_) (fun v w hC hS hG => ?_)
      · have s15 : v 15 = .bool false := hS 15 rfl
        have s17 : v 17 = .pointer (some ⟨pb, 2, none⟩) := hS 17 rfl
        have r121 : ρ (.tmp 121) = .pointer (some ⟨pb, 2, none⟩) := ((hρ _ (by simp [Op.operands])).trans (by kernel_rfl : Spec.look _ _ _ v (.tmp 121) = v 17)).trans s17
        clear hρ hS
        have p2 := (blk_cell (blk_below HP.out hC) 2).trans rfl
        go_simp
        exact hK _ _ hC (Below.refl _ _) rfl
      · have s15 : v 15 = .bool false := hS 15 rfl
        have s17 : v 17 = .pointer (some ⟨pb, 2, none⟩) := hS 17 rfl
        exact absurd s15 hG
    · -- 19: Op.binOp BinOp.neq 3 (Operand.tmp 120) (Operand.tmp 122) 3
      refine Spec.tellG 15 false rfl (fun v w hC hS hG ρ hρ K hK => ?_) (fun v w hC hS hG => ?_)
      · have s15 : v 15 = .bool false := hS 15 rfl
        have s16 : v 16 = .int .i64 bm := hS 16 rfl
        have s18 : v 18 = .int .i64 bm := hS 18 rfl
        have r120 : ρ (.tmp 120) = .int .i64 bm := ((hρ _ (by simp [Op.operands])).trans (by kernel_rfl : Spec.look _ _ _ v (.tmp 120) = v 16)).trans s16
        have r122 : ρ (.tmp 122) = .int .i64 bm := ((hρ _ (by simp [Op.operands])).trans (by kernel_rfl : Spec.look _ _ _ v (.tmp 122) = v 18)).trans s18
        clear hρ hS
        go_simp
        exact hK _ _ hC (Below.refl _ _) rfl
      · have s15 : v 15 = .bool false := hS 15 rfl
        have s16 : v 16 = .int .i64 bm := hS 16 rfl
        have s18 : v 18 = .int .i64 bm := hS 18 rfl
        exact absurd s15 hG
    · -- 20: Op.pick (Operand.tmp 119) (Operand.const (Value.bool true)) (Operand.tmp 123)
      refine Spec.tell rfl fun v w hC hS ρ hρ K hK => ?_
      have s15 : v 15 = .bool false := hS 15 rfl
      have s19 : v 19 = .bool false := hS 19 rfl
      have r119 : ρ (.tmp 119) = .bool false := ((hρ _ (by simp [Op.operands])).trans (by kernel_rfl : Spec.look _ _ _ v (.tmp 119) = v 15)).trans s15
      have r123 : ρ (.tmp 123) = .bool false := ((hρ _ (by simp [Op.operands])).trans (by kernel_rfl : Spec.look _ _ _ v (.tmp 123) = v 19)).trans s19
      have c0 : ρ (.const (Value.bool true)) = (Value.bool true) := (hρ _ (by simp [Op.operands])).trans (by kernel_rfl)
      clear hρ hS
      go_simp
      exact hK _ _ hC (Below.refl _ _) rfl
    · -- 21: Op.move (Operand.tmp 124)
      refine Spec.tell rfl fun v w hC hS ρ hρ K hK => ?_
      have s20 : v 20 = .bool false := hS 20 rfl
      have r124 : ρ (.tmp 124) = .bool false := ((hρ _ (by simp [Op.operands])).trans (by kernel_rfl : Spec.look _ _ _ v (.tmp 124) = v 20)).trans s20
      clear hρ hS
      go_simp
      exact hK _ _ hC (Below.refl _ _) rfl
    · -- 22: Op.move (Operand.tmp 15)
      refine Spec.tellG 21 false rfl (fun v w hC hS hG ρ hρ K hK => ?_) (fun v w hC hS hG => ?_)
      · have s21 : v 21 = .bool false := hS 21 rfl
        have r15 : ρ (.tmp 15) = .int .i64 bw := (hρ _ (by simp [Op.operands])).trans (by kernel_rfl)
        clear hρ hS
        go_simp
        exact hK _ _ hC (Below.refl _ _) rfl
      · have s21 : v 21 = .bool false := hS 21 rfl
        exact absurd s21 hG
    · -- 23: Op.move (Operand.tmp 0)
      refine Spec.tellG 21 false rfl (fun v w hC hS hG ρ hρ K hK => ?_) (fun v w hC hS hG => ?_)
      · have s21 : v 21 = .bool false := hS 21 rfl
        have r0 : ρ (.tmp 0) = .int .i64 n := (hρ _ (by simp [Op.operands])).trans (by kernel_rfl)
        clear hρ hS
        go_simp
        exact hK _ _ hC (Below.refl _ _) rfl
      · have s21 : v 21 = .bool false := hS 21 rfl
        exact absurd s21 hG
    · -- 24: Op.binOp BinOp.add 3 (Operand.tmp 127) (Operand.const (Value.int IntKind.i64 63)) 3
      refine Spec.tellG 21 false rfl (fun v w hC hS hG ρ hρ K hK => ?_) (fun v w hC hS hG => ?_)
      · have s21 : v 21 = .bool false := hS 21 rfl
        have s23 : v 23 = .int .i64 n := hS 23 rfl
        have r127 : ρ (.tmp 127) = .int .i64 n := ((hρ _ (by simp [Op.operands])).trans (by kernel_rfl : Spec.look _ _ _ v (.tmp 127) = v 23)).trans s23
        have c0 : ρ (.const (Value.int IntKind.i64 63)) = (Value.int IntKind.i64 63) := (hρ _ (by simp [Op.operands])).trans (by kernel_rfl)
        clear hρ hS
        have e63 := HA.out.e63
        go_simp
        exact hK _ _ hC (Below.refl _ _) rfl
      · have s21 : v 21 = .bool false := hS 21 rfl
        have s23 : v 23 = .int .i64 n := hS 23 rfl
        exact absurd s21 hG
    · -- 25: Op.binOp BinOp.quo 3 (Operand.tmp 128) (Operand.const (Value.int IntKind.i64 64)) 3
      refine Spec.tellG 21 false rfl (fun v w hC hS hG ρ hρ K hK => ?_) (fun v w hC hS hG => ?_)
      · have s21 : v 21 = .bool false := hS 21 rfl
        have s24 : v 24 = .int .i64 (n + 63) := hS 24 rfl
        have r128 : ρ (.tmp 128) = .int .i64 (n + 63) := ((hρ _ (by simp [Op.operands])).trans (by kernel_rfl : Spec.look _ _ _ v (.tmp 128) = v 24)).trans s24
        have c0 : ρ (.const (Value.int IntKind.i64 64)) = (Value.int IntKind.i64 64) := (hρ _ (by simp [Op.operands])).trans (by kernel_rfl)
        clear hρ hS
        have e64 := HA.out.e64
        have e65 := HA.out.e65
        go_simp
        exact hK _ _ hC (Below.refl _ _) rfl
      · have s21 : v 21 = .bool false := hS 21 rfl
        have s24 : v 24 = .int .i64 (n + 63) := hS 24 rfl
        exact absurd s21 hG
    · -- 26: Op.binOp BinOp.neq 3 (Operand.tmp 126) (Operand.tmp 129) 3
      refine Spec.tellG 21 false rfl (fun v w hC hS hG ρ hρ K hK => ?_) (fun v w hC hS hG => ?_)
      · have s21 : v 21 = .bool false := hS 21 rfl
        have s22 : v 22 = .int .i64 bw := hS 22 rfl
        have s25 : v 25 = .int .i64 bw := hS 25 rfl
        have r126 : ρ (.tmp 126) = .int .i64 bw := ((hρ _ (by simp [Op.operands])).trans (by kernel_rfl : Spec.look _ _ _ v (.tmp 126) = v 22)).trans s22
        have r129 : ρ (.tmp 129) = .int .i64 bw := ((hρ _ (by simp [Op.operands])).trans (by kernel_rfl : Spec.look _ _ _ v (.tmp 129) = v 25)).trans s25
        clear hρ hS
        go_simp
        exact hK _ _ hC (Below.refl _ _) rfl
      · have s21 : v 21 = .bool false := hS 21 rfl
        have s22 : v 22 = .int .i64 bw := hS 22 rfl
        have s25 : v 25 = .int .i64 bw := hS 25 rfl
        exact absurd s21 hG
    · -- 27: Op.pick (Operand.tmp 125) (Operand.const (Value.bool true)) (Operand.tmp 130)
      refine Spec.tell rfl fun v w hC hS ρ hρ K hK => ?_
      have s21 : v 21 = .bool false := hS 21 rfl
      have s26 : v 26 = .bool false := hS 26 rfl
      have r125 : ρ (.tmp 125) = .bool false := ((hρ _ (by simp [Op.operands])).trans (by kernel_rfl : Spec.look _ _ _ v (.tmp 125) = v 21)).trans s21
      have r130 : ρ (.tmp 130) = .bool false := ((hρ _ (by simp [Op.operands])).trans (by kernel_rfl : Spec.look _ _ _ v (.tmp 130) = v 26)).trans s26
      have c0 : ρ (.const (Value.bool true)) = (Value.bool true) := (hρ _ (by simp [Op.operands])).trans (by kernel_rfl)
      clear hρ hS
      go_simp
      exact hK _ _ hC (Below.refl _ _) rfl
    · -- 28: Op.move (Operand.tmp 131)
      refine Spec.tell rfl fun v w hC hS ρ hρ K hK => ?_
      have s27 : v 27 = .bool false := hS 27 rfl
      have r131 : ρ (.tmp 131) = .bool false := ((hρ _ (by simp [Op.operands])).trans (by kernel_rfl : Spec.look _ _ _ v (.tmp 131) = v 27)).trans s27
      clear hρ hS
      go_simp
      exact hK _ _ hC (Below.refl _ _) rfl
    · -- 29: Op.load 24 (Operand.tmp 9)
      refine Spec.tellG 28 false rfl (fun v w hC hS hG ρ hρ K hK => ?_) (fun v w hC hS hG => ?_)
      · have s28 : v 28 = .bool false := hS 28 rfl
        have r9 : ρ (.tmp 9) = .pointer (some ⟨gb, 0, none⟩) := (hρ _ (by simp [Op.operands])).trans (by kernel_rfl)
        clear hρ hS
        have g0 := (blk_cell (blk_below HG.out hC) 0).trans rfl
        have g1 := (blk_cell (blk_below HG.out hC) 1).trans rfl
        have g2 := (blk_cell (blk_below HG.out hC) 2).trans rfl
        go_simp
        exact hK _ _ hC (Below.refl _ _) rfl
      · have s28 : v 28 = .bool false := hS 28 rfl
        exact absurd s28 hG
    · -- 30: Op.call { callee := Callee.value (Operand.func 19), args := #[Operand.tmp 133], argTypes :
      refine Spec.tellG 28 false rfl (fun v w hC hS hG ρ hρ K hK => ?_) (fun v w hC hS hG => ?_)
      · have s28 : v 28 = .bool false := hS 28 rfl
        have s29 : v 29 = .agg #[.int .i64 n, .int .i64 m, .int .i64 z] := hS 29 rfl
        have r133 : ρ (.tmp 133) = .agg #[.int .i64 n, .int .i64 m, .int .i64 z] := ((hρ _ (by simp [Op.operands, Call.operands])).trans (by kernel_rfl : Spec.look _ _ _ v (.tmp 133) = v 29)).trans s29
        have f19 : ρ (.func 19) = .func (.func 19) #[] #[] := (hρ _ (by simp [Op.operands, Call.operands])).trans (by kernel_rfl)
        clear hρ hS
        go_simp
        exact (geometry_Geometry_Each.calls n m z _ _ HF.out.f19).mono fun e w' ⟨h1, h2⟩ => ⟨_, h1, hK _ _ (below_then hC hC.size h2) h2 rfl⟩
      · have s28 : v 28 = .bool false := hS 28 rfl
        have s29 : v 29 = .agg #[.int .i64 n, .int .i64 m, .int .i64 z] := hS 29 rfl
        exact absurd s28 hG
    · -- 31: Op.move (Operand.tmp 2)
      refine Spec.tellG 28 false rfl (fun v w hC hS hG ρ hρ K hK => ?_) (fun v w hC hS hG => ?_)
      · have s28 : v 28 = .bool false := hS 28 rfl
        have r2 : ρ (.tmp 2) = .int .i64 z := (hρ _ (by simp [Op.operands])).trans (by kernel_rfl)
        clear hρ hS
        go_simp
        exact hK _ _ hC (Below.refl _ _) rfl
      · have s28 : v 28 = .bool false := hS 28 rfl
        exact absurd s28 hG
    · -- 32: Op.binOp BinOp.quo 3 (Operand.tmp 135) (Operand.const (Value.int IntKind.i64 8)) 3
      refine Spec.tellG 28 false rfl (fun v w hC hS hG ρ hρ K hK => ?_) (fun v w hC hS hG => ?_)
      · have s28 : v 28 = .bool false := hS 28 rfl
        have s31 : v 31 = .int .i64 z := hS 31 rfl
        have r135 : ρ (.tmp 135) = .int .i64 z := ((hρ _ (by simp [Op.operands])).trans (by kernel_rfl : Spec.look _ _ _ v (.tmp 135) = v 31)).trans s31
        have c0 : ρ (.const (Value.int IntKind.i64 8)) = (Value.int IntKind.i64 8) := (hρ _ (by simp [Op.operands])).trans (by kernel_rfl)
        clear hρ hS
        have ez := HA.out.ez
        have ez1 := HA.out.ez1
        go_simp
        exact hK _ _ hC (Below.refl _ _) rfl
      · have s28 : v 28 = .bool false := hS 28 rfl
        have s31 : v 31 = .int .i64 z := hS 31 rfl
        exact absurd s28 hG
    · -- 33: Op.binOp BinOp.neq 3 (Operand.tmp 134) (Operand.tmp 136) 3
      refine Spec.tellG 28 false rfl (fun v w hC hS hG ρ hρ K hK => ?_) (fun v w hC hS hG => ?_)
      · have s28 : v 28 = .bool false := hS 28 rfl
        have s30 : v 30 = .int .i64 ea := hS 30 rfl
        have s32 : v 32 = .int .i64 ea := hS 32 rfl
        have r134 : ρ (.tmp 134) = .int .i64 ea := ((hρ _ (by simp [Op.operands])).trans (by kernel_rfl : Spec.look _ _ _ v (.tmp 134) = v 30)).trans s30
        have r136 : ρ (.tmp 136) = .int .i64 ea := ((hρ _ (by simp [Op.operands])).trans (by kernel_rfl : Spec.look _ _ _ v (.tmp 136) = v 32)).trans s32
        clear hρ hS
        go_simp
        exact hK _ _ hC (Below.refl _ _) rfl
      · have s28 : v 28 = .bool false := hS 28 rfl
        have s30 : v 30 = .int .i64 ea := hS 30 rfl
        have s32 : v 32 = .int .i64 ea := hS 32 rfl
        exact absurd s28 hG
    · -- 34: Op.pick (Operand.tmp 132) (Operand.const (Value.bool true)) (Operand.tmp 137)
      refine Spec.tell rfl fun v w hC hS ρ hρ K hK => ?_
      have s28 : v 28 = .bool false := hS 28 rfl
      have s33 : v 33 = .bool false := hS 33 rfl
      have r132 : ρ (.tmp 132) = .bool false := ((hρ _ (by simp [Op.operands])).trans (by kernel_rfl : Spec.look _ _ _ v (.tmp 132) = v 28)).trans s28
      have r137 : ρ (.tmp 137) = .bool false := ((hρ _ (by simp [Op.operands])).trans (by kernel_rfl : Spec.look _ _ _ v (.tmp 137) = v 33)).trans s33
      have c0 : ρ (.const (Value.bool true)) = (Value.bool true) := (hρ _ (by simp [Op.operands])).trans (by kernel_rfl)
      clear hρ hS
      go_simp
      exact hK _ _ hC (Below.refl _ _) rfl
  case end_11 =>
    intro v w' hC hS
    have s34 : v 34 = .bool false := hS 34 (by decide)
    clear hS
    simp only [Spec.putAll, Act.put, List.setIfInBounds_toArray, List.set_cons_zero, List.set_cons_succ]
    generalize v 0 = x0
    generalize v 1 = x1
    generalize v 2 = x2
    generalize v 3 = x3
    generalize v 4 = x4
    generalize v 5 = x5
    generalize v 6 = x6
    generalize v 7 = x7
    generalize v 8 = x8
    generalize v 9 = x9
    generalize v 10 = x10
    generalize v 11 = x11
    generalize v 12 = x12
    generalize v 13 = x13
    generalize v 14 = x14
    generalize v 15 = x15
    generalize v 16 = x16
    generalize v 17 = x17
    generalize v 18 = x18
    generalize v 19 = x19
    generalize v 20 = x20
    generalize v 21 = x21
    generalize v 22 = x22
    generalize v 23 = x23
    generalize v 24 = x24
    generalize v 25 = x25
    generalize v 26 = x26
    generalize v 27 = x27
    generalize v 28 = x28
    generalize v 29 = x29
    generalize v 30 = x30
    generalize v 31 = x31
    generalize v 32 = x32
    generalize v 33 = x33
    rw [s34]; clear s34
    have HG8 := Aside0.mk (blk_below HG.out hC)
    have HP8 := Aside0.mk (blk_below HP.out hC)
    have HB8 := Aside0.mk (below_then HB.out HB.out.size hC)
    clear HG HP HB hC
    have HG := HG8
    have HP := HP8
    have HB := HB8
    clear HG8 HP8 HB8
    have g0 := (blk_cell HG.out 0).trans rfl
    have g1 := (blk_cell HG.out 1).trans rfl
    have g2 := (blk_cell HG.out 2).trans rfl
    rcases DI.out with d0 | ⟨d0, d1⟩
    · go_wp2_with (first | (go_at_call 16; refine (geometry_Geometry_Inode.calls n m z i _ _ HF.out.f16).mono ?_; rintro e w9 ⟨rfl, hb⟩; have HB9 := Aside0.mk (below_then HB.out HB.out.size hb); have HG9 := Aside0.mk (blk_below HG.out hb); have HP9 := Aside0.mk (blk_below HP.out hb); clear HB HG HP g0 g1 g2 hb; have HB := HB9; have HG := HG9; have HP := HP9; clear HB9 HG9 HP9; have g0 := (blk_cell HG.out 0).trans rfl; have g1 := (blk_cell HG.out 1).trans rfl; have g2 := (blk_cell HG.out 2).trans rfl) | (go_at_call 17; refine (geometry_Geometry_Slot.calls n m z i _ _ HF.out.f17).mono ?_; rintro e w9 ⟨rfl, hb⟩; have HB9 := Aside0.mk (below_then HB.out HB.out.size hb); have HG9 := Aside0.mk (blk_below HG.out hb); have HP9 := Aside0.mk (blk_below HP.out hb); clear HB HG HP g0 g1 g2 hb; have HB := HB9; have HG := HG9; have HP := HP9; clear HB9 HG9 HP9; have g0 := (blk_cell HG.out 0).trans rfl; have g1 := (blk_cell HG.out 1).trans rfl; have g2 := (blk_cell HG.out 2).trans rfl) | (go_at_call 18; refine (geometry_Geometry_Block.calls n m z i _ _ HF.out.f18).mono ?_; rintro e w9 ⟨rfl, hb⟩; have HB9 := Aside0.mk (below_then HB.out HB.out.size hb); have HG9 := Aside0.mk (blk_below HG.out hb); have HP9 := Aside0.mk (blk_below HP.out hb); clear HB HG HP g0 g1 g2 hb; have HB := HB9; have HG := HG9; have HP := HP9; clear HB9 HG9 HP9; have g0 := (blk_cell HG.out 0).trans rfl; have g1 := (blk_cell HG.out 1).trans rfl; have g2 := (blk_cell HG.out 2).trans rfl))
      go_ret
      exact ⟨rfl, HB.out⟩
    · go_wp2_with (first | (go_at_call 16; refine (geometry_Geometry_Inode.calls n m z i _ _ HF.out.f16).mono ?_; rintro e w9 ⟨rfl, hb⟩; have HB9 := Aside0.mk (below_then HB.out HB.out.size hb); have HG9 := Aside0.mk (blk_below HG.out hb); have HP9 := Aside0.mk (blk_below HP.out hb); clear HB HG HP g0 g1 g2 hb; have HB := HB9; have HG := HG9; have HP := HP9; clear HB9 HG9 HP9; have g0 := (blk_cell HG.out 0).trans rfl; have g1 := (blk_cell HG.out 1).trans rfl; have g2 := (blk_cell HG.out 2).trans rfl) | (go_at_call 17; refine (geometry_Geometry_Slot.calls n m z i _ _ HF.out.f17).mono ?_; rintro e w9 ⟨rfl, hb⟩; have HB9 := Aside0.mk (below_then HB.out HB.out.size hb); have HG9 := Aside0.mk (blk_below HG.out hb); have HP9 := Aside0.mk (blk_below HP.out hb); clear HB HG HP g0 g1 g2 hb; have HB := HB9; have HG := HG9; have HP := HP9; clear HB9 HG9 HP9; have g0 := (blk_cell HG.out 0).trans rfl; have g1 := (blk_cell HG.out 1).trans rfl; have g2 := (blk_cell HG.out 2).trans rfl) | (go_at_call 18; refine (geometry_Geometry_Block.calls n m z i _ _ HF.out.f18).mono ?_; rintro e w9 ⟨rfl, hb⟩; have HB9 := Aside0.mk (below_then HB.out HB.out.size hb); have HG9 := Aside0.mk (blk_below HG.out hb); have HP9 := Aside0.mk (blk_below HP.out hb); clear HB HG HP g0 g1 g2 hb; have HB := HB9; have HG := HG9; have HP := HP9; clear HB9 HG9 HP9; have g0 := (blk_cell HG.out 0).trans rfl; have g1 := (blk_cell HG.out 1).trans rfl; have g2 := (blk_cell HG.out 2).trans rfl))
      go_ret
      exact ⟨rfl, HB.out⟩
set_option maxRecDepth 100000 in
set_option maxHeartbeats 8000000 in
theorem places_in (n m z i wd bt bm bw al no sl bl ea s1 b3 q64 : Int) (w0 : World) (hof : ∀ w, Calls Try.prog 20 #[.int .i64 n, .int .i64 m, .int .i64 z] w fun e w' => e = .returned (.tuple #[.agg #[.int .i64 16, .int .i64 s1, .int .i64 bm, .int .i64 b3, .int .i64 al], .bool true]) ∧ Below w.heap.size w w') (hf : Facts n m z i true wd bt bm bw al 0 8 no sl bl ea) (ha : Nums n z bw ea) (hn : Ins n m z i wd bm s1 b3 no sl bl ea q64) (hi : 0 ≤ i ∧ i < 65534) (hbt : (n ≤ i ∧ bt = 0) ∨ (i < n ∧ bt = Int.tmod i 64)) :
    Calls Try.prog 6 #[.int .i64 n, .int .i64 m, .int .i64 z, .int .i64 i] w0 fun e w' => e = .returned (.bool true) ∧ Below w0.heap.size w0 w' := by
  have HM := Aside0.mk hof
  have HF := Aside0.mk hf
  have HA := Aside0.mk ha
  have HN := Aside0.mk hn
  have HI := Aside0.mk hi
  have HBT := Aside0.mk hbt
  clear hn hi hbt
  clear hof hf ha
  go_enter Try.func6, Try.ntmps6
  go_wp2_with fail
  refine (lives7 _).mono ?_
  rintro e w1 ⟨rfl, hb⟩
  have HB0 := Aside0.mk hb
  clear hb
  go_wp2_with fail
  have HG0 := Aside0.mk (heap_alloc_new w1 (.cells #[.int .i64 n, .int .i64 m, .int .i64 z] 24))
  refine (HM.out _).mono ?_
  rintro e w2 ⟨rfl, hb⟩
  have HG1 := Aside0.mk (blk_below HG0.out hb)
  have HB1 := Aside0.mk (below_then (below_alloc HB0.out _) (below_alloc HB0.out _).size hb)
  clear hb HB0 HG0
  generalize w1.heap.size = gb at HG1 ⊢
  have q0 := fun (o : Obj) => (blk_cell (blk_alloc HG1.out o) 0).trans rfl
  have q1 := fun (o : Obj) => (blk_cell (blk_alloc HG1.out o) 1).trans rfl
  have q2 := fun (o : Obj) => (blk_cell (blk_alloc HG1.out o) 2).trans rfl
  go_wp2_with fail
  clear q0 q1 q2
  have HP := Aside0.mk (heap_alloc_new w2 (.cells #[.int .i64 16, .int .i64 s1, .int .i64 bm, .int .i64 b3, .int .i64 al] 38))
  have HG := Aside0.mk (blk_alloc HG1.out (.cells #[.int .i64 16, .int .i64 s1, .int .i64 bm, .int .i64 b3, .int .i64 al] 38))
  have HB := Aside0.mk (below_alloc HB1.out (.cells #[.int .i64 16, .int .i64 s1, .int .i64 bm, .int .i64 b3, .int .i64 al] 38))
  generalize w2.alloc (.cells #[.int .i64 16, .int .i64 s1, .int .i64 bm, .int .i64 b3, .int .i64 al] 38) = w3 at HP HG HB ⊢
  generalize w2.heap.size = pb at HP ⊢
  clear HG1 HB1
  have g0 := (blk_cell HG.out 0).trans rfl
  have g1 := (blk_cell HG.out 1).trans rfl
  have g2 := (blk_cell HG.out 2).trans rfl
  go_wp2_with (first | (go_at_call 10; refine (geometry_Geometry_Bitmap.calls n m z _ _ _ HF.out.f10).mono ?_; rintro e w9 ⟨rfl, hb⟩; have HB9 := Aside0.mk (below_then HB.out HB.out.size hb); have HG9 := Aside0.mk (blk_below HG.out hb); have HP9 := Aside0.mk (blk_below HP.out hb); clear HB HG HP g0 g1 g2 hb; have HB := HB9; have HG := HG9; have HP := HP9; clear HB9 HG9 HP9; have g0 := (blk_cell HG.out 0).trans rfl; have g1 := (blk_cell HG.out 1).trans rfl; have g2 := (blk_cell HG.out 2).trans rfl) | (go_at_call 11; refine (geometry_Geometry_Bit.calls n m z i _ _ _ HF.out.f11).mono ?_; rintro e w9 ⟨rfl, hb⟩; have HB9 := Aside0.mk (below_then HB.out HB.out.size hb); have HG9 := Aside0.mk (blk_below HG.out hb); have HP9 := Aside0.mk (blk_below HP.out hb); clear HB HG HP g0 g1 g2 hb; have HB := HB9; have HG := HG9; have HP := HP9; clear HB9 HG9 HP9; have g0 := (blk_cell HG.out 0).trans rfl; have g1 := (blk_cell HG.out 1).trans rfl; have g2 := (blk_cell HG.out 2).trans rfl) | (go_at_call 21; refine (geometry_Geometry_May.calls n m z _ _ HF.out.f21).mono ?_; rintro e w9 ⟨rfl, hb⟩; have HB9 := Aside0.mk (below_then HB.out HB.out.size hb); have HG9 := Aside0.mk (blk_below HG.out hb); have HP9 := Aside0.mk (blk_below HP.out hb); clear HB HG HP g0 g1 g2 hb; have HB := HB9; have HG := HG9; have HP := HP9; clear HB9 HG9 HP9; have g0 := (blk_cell HG.out 0).trans rfl; have g1 := (blk_cell HG.out 1).trans rfl; have g2 := (blk_cell HG.out 2).trans rfl))
  clear g0 g1 g2
  refine Spec.wp_told (F := fun j => [0, 1, 0, 4, 15, 31, 63, 127, 255, 511, 1023, 2047, 4095, 8191, 16383, 32767, 65535, 65535, 196607, 524287, 1048575, 2097151, 4194303, 4194303, 12582911, 29360127, 67108863, 134217727, 268435455, 536870911, 1073741823, 536870911, 2684354559, 8589934591, 17179869183].getD j 0) (C := fun W => Below w9.heap.size w9 W) (S := Spec.at_ [fun u W => u = .agg #[.int .i64 n, .int .i64 m, .int .i64 z], fun u W => u = .int .i64 al, fun u W => u = .pointer (some ⟨pb, 4, none⟩), fun u W => u = .int .i64 al, fun u W => u = .bool false, fun u W => u = .bool false, fun u W => u = .agg #[.int .i64 n, .int .i64 m, .int .i64 z], fun u W => u = .int .i64 0, fun u W => u = .bool false, fun u W => u = .bool false, fun u W => u = .bool false, fun u W => u = .agg #[.int .i64 n, .int .i64 m, .int .i64 z], fun u W => u = .int .i64 8, fun u W => u = .bool false, fun u W => u = .bool false, fun u W => u = .bool false, fun u W => u = .int .i64 bm, fun u W => u = .pointer (some ⟨pb, 2, none⟩), fun u W => u = .int .i64 bm, fun u W => u = .bool false, fun u W => u = .bool false, fun u W => u = .bool false, fun u W => u = .int .i64 bw, fun u W => u = .int .i64 n, fun u W => u = .int .i64 (n + 63), fun u W => u = .int .i64 bw, fun u W => u = .bool false, fun u W => u = .bool false, fun u W => u = .bool false, fun u W => u = .agg #[.int .i64 n, .int .i64 m, .int .i64 z], fun u W => u = .int .i64 ea, fun u W => u = .int .i64 z, fun u W => u = .int .i64 ea, fun u W => u = .bool false, fun u W => u = .bool false]) (Kp := fun W W' => Below W.heap.size W W') (by kernel_rfl) (by kernel_rfl) (Spec.AllStay.at_ ?stay_11) ?start_11 ?ops_11 ?end_11
  case stay_11 =>
    exact ⟨fun _ _ _ _ h => h, fun _ _ _ _ h => h, fun _ _ _ _ h => h, fun _ _ _ _ h => h, fun _ _ _ _ h => h, fun _ _ _ _ h => h, fun _ _ _ _ h => h, fun _ _ _ _ h => h, fun _ _ _ _ h => h, fun _ _ _ _ h => h, fun _ _ _ _ h => h, fun _ _ _ _ h => h, fun _ _ _ _ h => h, fun _ _ _ _ h => h, fun _ _ _ _ h => h, fun _ _ _ _ h => h, fun _ _ _ _ h => h, fun _ _ _ _ h => h, fun _ _ _ _ h => h, fun _ _ _ _ h => h, fun _ _ _ _ h => h, fun _ _ _ _ h => h, fun _ _ _ _ h => h, fun _ _ _ _ h => h, fun _ _ _ _ h => h, fun _ _ _ _ h => h, fun _ _ _ _ h => h, fun _ _ _ _ h => h, fun _ _ _ _ h => h, fun _ _ _ _ h => h, fun _ _ _ _ h => h, fun _ _ _ _ h => h, fun _ _ _ _ h => h, fun _ _ _ _ h => h, fun _ _ _ _ h => h, trivial⟩
  case start_11 =>
    exact below_drew (Below.refl _ _)
  case ops_11 =>
    refine ⟨?_, ?_, ?_, ?_, ?_, ?_, ?_, ?_, ?_, ?_, ?_, ?_, ?_, ?_, ?_, ?_, ?_, ?_, ?_, ?_, ?_, ?_, ?_, ?_, ?_, ?_, ?_, ?_, ?_, ?_, ?_, ?_, ?_, ?_, ?_, trivial⟩
    · -- 0: Op.load 24 (Operand.tmp 9)
      refine Spec.tell rfl fun v w hC hS ρ hρ K hK => ?_
      have r9 : ρ (.tmp 9) = .pointer (some ⟨gb, 0, none⟩) := (hρ _ (by simp [Op.operands])).trans (by kernel_rfl)
      clear hρ hS
      have g0 := (blk_cell (blk_below HG.out hC) 0).trans rfl
      have g1 := (blk_cell (blk_below HG.out hC) 1).trans rfl
      have g2 := (blk_cell (blk_below HG.out hC) 2).trans rfl
      go_simp
      exact hK _ _ hC (Below.refl _ _) rfl
    · -- 1: Op.call { callee := Callee.value (Operand.func 12), args := #[Operand.tmp 104], argTypes :
      refine Spec.tell rfl fun v w hC hS ρ hρ K hK => ?_
      have s0 : v 0 = .agg #[.int .i64 n, .int .i64 m, .int .i64 z] := hS 0 rfl
      have r104 : ρ (.tmp 104) = .agg #[.int .i64 n, .int .i64 m, .int .i64 z] := ((hρ _ (by simp [Op.operands, Call.operands])).trans (by kernel_rfl : Spec.look _ _ _ v (.tmp 104) = v 0)).trans s0
      have f12 : ρ (.func 12) = .func (.func 12) #[] #[] := (hρ _ (by simp [Op.operands, Call.operands])).trans (by kernel_rfl)
      clear hρ hS
      go_simp
      exact (geometry_Geometry_Words.calls n m z _ _ HF.out.f12).mono fun e w' ⟨h1, h2⟩ => ⟨_, h1, hK _ _ (below_then hC hC.size h2) h2 rfl⟩
    · -- 2: Op.fieldAddr 38 (Operand.tmp 10) 4
      refine Spec.tell rfl fun v w hC hS ρ hρ K hK => ?_
      have r10 : ρ (.tmp 10) = .pointer (some ⟨pb, 0, none⟩) := (hρ _ (by simp [Op.operands])).trans (by kernel_rfl)
      clear hρ hS
      go_simp
      exact hK _ _ hC (Below.refl _ _) rfl
    · -- 3: Op.load 3 (Operand.tmp 106)
      refine Spec.tell rfl fun v w hC hS ρ hρ K hK => ?_
      have s2 : v 2 = .pointer (some ⟨pb, 4, none⟩) := hS 2 rfl
      have r106 : ρ (.tmp 106) = .pointer (some ⟨pb, 4, none⟩) := ((hρ _ (by simp [Op.operands])).trans (by kernel_rfl : Spec.look _ _ _ v (.tmp 106) = v 2)).trans s2
      clear hρ hS
      have p4 := (blk_cell (blk_below HP.out hC) 4).trans rfl
      go_simp
      exact hK _ _ hC (Below.refl _ _) rfl
    · -- 4: Op.binOp BinOp.neq 3 (Operand.tmp 105) (Operand.tmp 107) 3
      refine Spec.tell rfl fun v w hC hS ρ hρ K hK => ?_
      have s1 : v 1 = .int .i64 al := hS 1 rfl
      have s3 : v 3 = .int .i64 al := hS 3 rfl
      have r105 : ρ (.tmp 105) = .int .i64 al := ((hρ _ (by simp [Op.operands])).trans (by kernel_rfl : Spec.look _ _ _ v (.tmp 105) = v 1)).trans s1
      have r107 : ρ (.tmp 107) = .int .i64 al := ((hρ _ (by simp [Op.operands])).trans (by kernel_rfl : Spec.look _ _ _ v (.tmp 107) = v 3)).trans s3
      clear hρ hS
      go_simp
      exact hK _ _ hC (Below.refl _ _) rfl
    · -- 5: Op.move (Operand.tmp 108)
      refine Spec.tell rfl fun v w hC hS ρ hρ K hK => ?_
      have s4 : v 4 = .bool false := hS 4 rfl
      have r108 : ρ (.tmp 108) = .bool false := ((hρ _ (by simp [Op.operands])).trans (by kernel_rfl : Spec.look _ _ _ v (.tmp 108) = v 4)).trans s4
      clear hρ hS
      go_simp
      exact hK _ _ hC (Below.refl _ _) rfl
    · -- 6: Op.load 24 (Operand.tmp 9)
      refine Spec.tellG 5 false rfl (fun v w hC hS hG ρ hρ K hK => ?_) (fun v w hC hS hG => ?_)
      · have s5 : v 5 = .bool false := hS 5 rfl
        have r9 : ρ (.tmp 9) = .pointer (some ⟨gb, 0, none⟩) := (hρ _ (by simp [Op.operands])).trans (by kernel_rfl)
        clear hρ hS
        have g0 := (blk_cell (blk_below HG.out hC) 0).trans rfl
        have g1 := (blk_cell (blk_below HG.out hC) 1).trans rfl
        have g2 := (blk_cell (blk_below HG.out hC) 2).trans rfl
        go_simp
        exact hK _ _ hC (Below.refl _ _) rfl
      · have s5 : v 5 = .bool false := hS 5 rfl
        exact absurd s5 hG
    · -- 7: Op.call { callee := Callee.value (Operand.func 14), args := #[Operand.tmp 110], argTypes :
      refine Spec.tellG 5 false rfl (fun v w hC hS hG ρ hρ K hK => ?_) (fun v w hC hS hG => ?_)
      · have s5 : v 5 = .bool false := hS 5 rfl
        have s6 : v 6 = .agg #[.int .i64 n, .int .i64 m, .int .i64 z] := hS 6 rfl
        have r110 : ρ (.tmp 110) = .agg #[.int .i64 n, .int .i64 m, .int .i64 z] := ((hρ _ (by simp [Op.operands, Call.operands])).trans (by kernel_rfl : Spec.look _ _ _ v (.tmp 110) = v 6)).trans s6
        have f14 : ρ (.func 14) = .func (.func 14) #[] #[] := (hρ _ (by simp [Op.operands, Call.operands])).trans (by kernel_rfl)
        clear hρ hS
        go_simp
        exact (geometry_Geometry_Super.calls n m z _ _ HF.out.f14).mono fun e w' ⟨h1, h2⟩ => ⟨_, h1, hK _ _ (below_then hC hC.size h2) h2 rfl⟩
      · have s5 : v 5 = .bool false := hS 5 rfl
        have s6 : v 6 = .agg #[.int .i64 n, .int .i64 m, .int .i64 z] := hS 6 rfl
        exact absurd s5 hG
    · -- 8: Op.binOp BinOp.neq 3 (Operand.tmp 111) (Operand.const (Value.int IntKind.i64 0)) 3
      refine Spec.tellG 5 false rfl (fun v w hC hS hG ρ hρ K hK => ?_) (fun v w hC hS hG => ?_)
      · have s5 : v 5 = .bool false := hS 5 rfl
        have s7 : v 7 = .int .i64 0 := hS 7 rfl
        have r111 : ρ (.tmp 111) = .int .i64 0 := ((hρ _ (by simp [Op.operands])).trans (by kernel_rfl : Spec.look _ _ _ v (.tmp 111) = v 7)).trans s7
        have c0 : ρ (.const (Value.int IntKind.i64 0)) = (Value.int IntKind.i64 0) := (hρ _ (by simp [Op.operands])).trans (by kernel_rfl)
        clear hρ hS
        go_simp
        exact hK _ _ hC (Below.refl _ _) rfl
      · have s5 : v 5 = .bool false := hS 5 rfl
        have s7 : v 7 = .int .i64 0 := hS 7 rfl
        exact absurd s5 hG
    · -- 9: Op.pick (Operand.tmp 109) (Operand.const (Value.bool true)) (Operand.tmp 112)
      refine Spec.tell rfl fun v w hC hS ρ hρ K hK => ?_
      have s5 : v 5 = .bool false := hS 5 rfl
      have s8 : v 8 = .bool false := hS 8 rfl
      have r109 : ρ (.tmp 109) = .bool false := ((hρ _ (by simp [Op.operands])).trans (by kernel_rfl : Spec.look _ _ _ v (.tmp 109) = v 5)).trans s5
      have r112 : ρ (.tmp 112) = .bool false := ((hρ _ (by simp [Op.operands])).trans (by kernel_rfl : Spec.look _ _ _ v (.tmp 112) = v 8)).trans s8
      have c0 : ρ (.const (Value.bool true)) = (Value.bool true) := (hρ _ (by simp [Op.operands])).trans (by kernel_rfl)
      clear hρ hS
      go_simp
      exact hK _ _ hC (Below.refl _ _) rfl
    · -- 10: Op.move (Operand.tmp 113)
      refine Spec.tell rfl fun v w hC hS ρ hρ K hK => ?_
      have s9 : v 9 = .bool false := hS 9 rfl
      have r113 : ρ (.tmp 113) = .bool false := ((hρ _ (by simp [Op.operands])).trans (by kernel_rfl : Spec.look _ _ _ v (.tmp 113) = v 9)).trans s9
      clear hρ hS
      go_simp
      exact hK _ _ hC (Below.refl _ _) rfl
    · -- 11: Op.load 24 (Operand.tmp 9)
      refine Spec.tellG 10 false rfl (fun v w hC hS hG ρ hρ K hK => ?_) (fun v w hC hS hG => ?_)
      · have s10 : v 10 = .bool false := hS 10 rfl
        have r9 : ρ (.tmp 9) = .pointer (some ⟨gb, 0, none⟩) := (hρ _ (by simp [Op.operands])).trans (by kernel_rfl)
        clear hρ hS
        have g0 := (blk_cell (blk_below HG.out hC) 0).trans rfl
        have g1 := (blk_cell (blk_below HG.out hC) 1).trans rfl
        have g2 := (blk_cell (blk_below HG.out hC) 2).trans rfl
        go_simp
        exact hK _ _ hC (Below.refl _ _) rfl
      · have s10 : v 10 = .bool false := hS 10 rfl
        exact absurd s10 hG
    · -- 12: Op.call { callee := Callee.value (Operand.func 15), args := #[Operand.tmp 115], argTypes :
      refine Spec.tellG 10 false rfl (fun v w hC hS hG ρ hρ K hK => ?_) (fun v w hC hS hG => ?_)
      · have s10 : v 10 = .bool false := hS 10 rfl
        have s11 : v 11 = .agg #[.int .i64 n, .int .i64 m, .int .i64 z] := hS 11 rfl
        have r115 : ρ (.tmp 115) = .agg #[.int .i64 n, .int .i64 m, .int .i64 z] := ((hρ _ (by simp [Op.operands, Call.operands])).trans (by kernel_rfl : Spec.look _ _ _ v (.tmp 115) = v 11)).trans s11
        have f15 : ρ (.func 15) = .func (.func 15) #[] #[] := (hρ _ (by simp [Op.operands, Call.operands])).trans (by kernel_rfl)
        clear hρ hS
        go_simp
        exact (geometry_Geometry_Record.calls n m z _ _ HF.out.f15).mono fun e w' ⟨h1, h2⟩ => ⟨_, h1, hK _ _ (below_then hC hC.size h2) h2 rfl⟩
      · have s10 : v 10 = .bool false := hS 10 rfl
        have s11 : v 11 = .agg #[.int .i64 n, .int .i64 m, .int .i64 z] := hS 11 rfl
        exact absurd s10 hG
    · -- 13: Op.binOp BinOp.neq 3 (Operand.tmp 116) (Operand.const (Value.int IntKind.i64 8)) 3
      refine Spec.tellG 10 false rfl (fun v w hC hS hG ρ hρ K hK => ?_) (fun v w hC hS hG => ?_)
      · have s10 : v 10 = .bool false := hS 10 rfl
        have s12 : v 12 = .int .i64 8 := hS 12 rfl
        have r116 : ρ (.tmp 116) = .int .i64 8 := ((hρ _ (by simp [Op.operands])).trans (by kernel_rfl : Spec.look _ _ _ v (.tmp 116) = v 12)).trans s12
        have c0 : ρ (.const (Value.int IntKind.i64 8)) = (Value.int IntKind.i64 8) := (hρ _ (by simp [Op.operands])).trans (by kernel_rfl)
        clear hρ hS
        go_simp
        exact hK _ _ hC (Below.refl _ _) rfl
      · have s10 : v 10 = .bool false := hS 10 rfl
        have s12 : v 12 = .int .i64 8 := hS 12 rfl
        exact absurd s10 hG
    · -- 14: Op.pick (Operand.tmp 114) (Operand.const (Value.bool true)) (Operand.tmp 117)
      refine Spec.tell rfl fun v w hC hS ρ hρ K hK => ?_
      have s10 : v 10 = .bool false := hS 10 rfl
      have s13 : v 13 = .bool false := hS 13 rfl
      have r114 : ρ (.tmp 114) = .bool false := ((hρ _ (by simp [Op.operands])).trans (by kernel_rfl : Spec.look _ _ _ v (.tmp 114) = v 10)).trans s10
      have r117 : ρ (.tmp 117) = .bool false := ((hρ _ (by simp [Op.operands])).trans (by kernel_rfl : Spec.look _ _ _ v (.tmp 117) = v 13)).trans s13
      have c0 : ρ (.const (Value.bool true)) = (Value.bool true) := (hρ _ (by simp [Op.operands])).trans (by kernel_rfl)
      clear hρ hS
      go_simp
      exact hK _ _ hC (Below.refl _ _) rfl
    · -- 15: Op.move (Operand.tmp 118)
      refine Spec.tell rfl fun v w hC hS ρ hρ K hK => ?_
      have s14 : v 14 = .bool false := hS 14 rfl
      have r118 : ρ (.tmp 118) = .bool false := ((hρ _ (by simp [Op.operands])).trans (by kernel_rfl : Spec.look _ _ _ v (.tmp 118) = v 14)).trans s14
      clear hρ hS
      go_simp
      exact hK _ _ hC (Below.refl _ _) rfl
    · -- 16: Op.move (Operand.tmp 14)
      refine Spec.tellG 15 false rfl (fun v w hC hS hG ρ hρ K hK => ?_) (fun v w hC hS hG => ?_)
      · have s15 : v 15 = .bool false := hS 15 rfl
        have r14 : ρ (.tmp 14) = .int .i64 bm := (hρ _ (by simp [Op.operands])).trans (by kernel_rfl)
        clear hρ hS
        go_simp
        exact hK _ _ hC (Below.refl _ _) rfl
      · have s15 : v 15 = .bool false := hS 15 rfl
        exact absurd s15 hG
    · -- 17: Op.fieldAddr 38 (Operand.tmp 10) 2
      refine Spec.tellG 15 false rfl (fun v w hC hS hG ρ hρ K hK => ?_) (fun v w hC hS hG => ?_)
      · have s15 : v 15 = .bool false := hS 15 rfl
        have r10 : ρ (.tmp 10) = .pointer (some ⟨pb, 0, none⟩) := (hρ _ (by simp [Op.operands])).trans (by kernel_rfl)
        clear hρ hS
        go_simp
        exact hK _ _ hC (Below.refl _ _) rfl
      · have s15 : v 15 = .bool false := hS 15 rfl
        exact absurd s15 hG
    · -- 18: Op.load 3 (Operand.tmp 121)
      refine Spec.tellG 15 false rfl (fun v w hC hS hG ρ hρ K hK => ?_) (fun v w hC hS hG => ?_)
      · have s15 : v 15 = .bool false := hS 15 rfl
        have s17 : v 17 = .pointer (some ⟨pb, 2, none⟩) := hS 17 rfl
        have r121 : ρ (.tmp 121) = .pointer (some ⟨pb, 2, none⟩) := ((hρ _ (by simp [Op.operands])).trans (by kernel_rfl : Spec.look _ _ _ v (.tmp 121) = v 17)).trans s17
        clear hρ hS
        have p2 := (blk_cell (blk_below HP.out hC) 2).trans rfl
        go_simp
        exact hK _ _ hC (Below.refl _ _) rfl
      · have s15 : v 15 = .bool false := hS 15 rfl
        have s17 : v 17 = .pointer (some ⟨pb, 2, none⟩) := hS 17 rfl
        exact absurd s15 hG
    · -- 19: Op.binOp BinOp.neq 3 (Operand.tmp 120) (Operand.tmp 122) 3
      refine Spec.tellG 15 false rfl (fun v w hC hS hG ρ hρ K hK => ?_) (fun v w hC hS hG => ?_)
      · have s15 : v 15 = .bool false := hS 15 rfl
        have s16 : v 16 = .int .i64 bm := hS 16 rfl
        have s18 : v 18 = .int .i64 bm := hS 18 rfl
        have r120 : ρ (.tmp 120) = .int .i64 bm := ((hρ _ (by simp [Op.operands])).trans (by kernel_rfl : Spec.look _ _ _ v (.tmp 120) = v 16)).trans s16
        have r122 : ρ (.tmp 122) = .int .i64 bm := ((hρ _ (by simp [Op.operands])).trans (by kernel_rfl : Spec.look _ _ _ v (.tmp 122) = v 18)).trans s18
        clear hρ hS
        go_simp
        exact hK _ _ hC (Below.refl _ _) rfl
      · have s15 : v 15 = .bool false := hS 15 rfl
        have s16 : v 16 = .int .i64 bm := hS 16 rfl
        have s18 : v 18 = .int .i64 bm := hS 18 rfl
        exact absurd s15 hG
    · -- 20: Op.pick (Operand.tmp 119) (Operand.const (Value.bool true)) (Operand.tmp 123)
      refine Spec.tell rfl fun v w hC hS ρ hρ K hK => ?_
      have s15 : v 15 = .bool false := hS 15 rfl
      have s19 : v 19 = .bool false := hS 19 rfl
      have r119 : ρ (.tmp 119) = .bool false := ((hρ _ (by simp [Op.operands])).trans (by kernel_rfl : Spec.look _ _ _ v (.tmp 119) = v 15)).trans s15
      have r123 : ρ (.tmp 123) = .bool false := ((hρ _ (by simp [Op.operands])).trans (by kernel_rfl : Spec.look _ _ _ v (.tmp 123) = v 19)).trans s19
      have c0 : ρ (.const (Value.bool true)) = (Value.bool true) := (hρ _ (by simp [Op.operands])).trans (by kernel_rfl)
      clear hρ hS
      go_simp
      exact hK _ _ hC (Below.refl _ _) rfl
    · -- 21: Op.move (Operand.tmp 124)
      refine Spec.tell rfl fun v w hC hS ρ hρ K hK => ?_
      have s20 : v 20 = .bool false := hS 20 rfl
      have r124 : ρ (.tmp 124) = .bool false := ((hρ _ (by simp [Op.operands])).trans (by kernel_rfl : Spec.look _ _ _ v (.tmp 124) = v 20)).trans s20
      clear hρ hS
      go_simp
      exact hK _ _ hC (Below.refl _ _) rfl
    · -- 22: Op.move (Operand.tmp 15)
      refine Spec.tellG 21 false rfl (fun v w hC hS hG ρ hρ K hK => ?_) (fun v w hC hS hG => ?_)
      · have s21 : v 21 = .bool false := hS 21 rfl
        have r15 : ρ (.tmp 15) = .int .i64 bw := (hρ _ (by simp [Op.operands])).trans (by kernel_rfl)
        clear hρ hS
        go_simp
        exact hK _ _ hC (Below.refl _ _) rfl
      · have s21 : v 21 = .bool false := hS 21 rfl
        exact absurd s21 hG
    · -- 23: Op.move (Operand.tmp 0)
      refine Spec.tellG 21 false rfl (fun v w hC hS hG ρ hρ K hK => ?_) (fun v w hC hS hG => ?_)
      · have s21 : v 21 = .bool false := hS 21 rfl
        have r0 : ρ (.tmp 0) = .int .i64 n := (hρ _ (by simp [Op.operands])).trans (by kernel_rfl)
        clear hρ hS
        go_simp
        exact hK _ _ hC (Below.refl _ _) rfl
      · have s21 : v 21 = .bool false := hS 21 rfl
        exact absurd s21 hG
    · -- 24: Op.binOp BinOp.add 3 (Operand.tmp 127) (Operand.const (Value.int IntKind.i64 63)) 3
      refine Spec.tellG 21 false rfl (fun v w hC hS hG ρ hρ K hK => ?_) (fun v w hC hS hG => ?_)
      · have s21 : v 21 = .bool false := hS 21 rfl
        have s23 : v 23 = .int .i64 n := hS 23 rfl
        have r127 : ρ (.tmp 127) = .int .i64 n := ((hρ _ (by simp [Op.operands])).trans (by kernel_rfl : Spec.look _ _ _ v (.tmp 127) = v 23)).trans s23
        have c0 : ρ (.const (Value.int IntKind.i64 63)) = (Value.int IntKind.i64 63) := (hρ _ (by simp [Op.operands])).trans (by kernel_rfl)
        clear hρ hS
        have e63 := HA.out.e63
        go_simp
        exact hK _ _ hC (Below.refl _ _) rfl
      · have s21 : v 21 = .bool false := hS 21 rfl
        have s23 : v 23 = .int .i64 n := hS 23 rfl
        exact absurd s21 hG
    · -- 25: Op.binOp BinOp.quo 3 (Operand.tmp 128) (Operand.const (Value.int IntKind.i64 64)) 3
      refine Spec.tellG 21 false rfl (fun v w hC hS hG ρ hρ K hK => ?_) (fun v w hC hS hG => ?_)
      · have s21 : v 21 = .bool false := hS 21 rfl
        have s24 : v 24 = .int .i64 (n + 63) := hS 24 rfl
        have r128 : ρ (.tmp 128) = .int .i64 (n + 63) := ((hρ _ (by simp [Op.operands])).trans (by kernel_rfl : Spec.look _ _ _ v (.tmp 128) = v 24)).trans s24
        have c0 : ρ (.const (Value.int IntKind.i64 64)) = (Value.int IntKind.i64 64) := (hρ _ (by simp [Op.operands])).trans (by kernel_rfl)
        clear hρ hS
        have e64 := HA.out.e64
        have e65 := HA.out.e65
        go_simp
        exact hK _ _ hC (Below.refl _ _) rfl
      · have s21 : v 21 = .bool false := hS 21 rfl
        have s24 : v 24 = .int .i64 (n + 63) := hS 24 rfl
        exact absurd s21 hG
    · -- 26: Op.binOp BinOp.neq 3 (Operand.tmp 126) (Operand.tmp 129) 3
      refine Spec.tellG 21 false rfl (fun v w hC hS hG ρ hρ K hK => ?_) (fun v w hC hS hG => ?_)
      · have s21 : v 21 = .bool false := hS 21 rfl
        have s22 : v 22 = .int .i64 bw := hS 22 rfl
        have s25 : v 25 = .int .i64 bw := hS 25 rfl
        have r126 : ρ (.tmp 126) = .int .i64 bw := ((hρ _ (by simp [Op.operands])).trans (by kernel_rfl : Spec.look _ _ _ v (.tmp 126) = v 22)).trans s22
        have r129 : ρ (.tmp 129) = .int .i64 bw := ((hρ _ (by simp [Op.operands])).trans (by kernel_rfl : Spec.look _ _ _ v (.tmp 129) = v 25)).trans s25
        clear hρ hS
        go_simp
        exact hK _ _ hC (Below.refl _ _) rfl
      · have s21 : v 21 = .bool false := hS 21 rfl
        have s22 : v 22 = .int .i64 bw := hS 22 rfl
        have s25 : v 25 = .int .i64 bw := hS 25 rfl
        exact absurd s21 hG
    · -- 27: Op.pick (Operand.tmp 125) (Operand.const (Value.bool true)) (Operand.tmp 130)
      refine Spec.tell rfl fun v w hC hS ρ hρ K hK => ?_
      have s21 : v 21 = .bool false := hS 21 rfl
      have s26 : v 26 = .bool false := hS 26 rfl
      have r125 : ρ (.tmp 125) = .bool false := ((hρ _ (by simp [Op.operands])).trans (by kernel_rfl : Spec.look _ _ _ v (.tmp 125) = v 21)).trans s21
      have r130 : ρ (.tmp 130) = .bool false := ((hρ _ (by simp [Op.operands])).trans (by kernel_rfl : Spec.look _ _ _ v (.tmp 130) = v 26)).trans s26
      have c0 : ρ (.const (Value.bool true)) = (Value.bool true) := (hρ _ (by simp [Op.operands])).trans (by kernel_rfl)
      clear hρ hS
      go_simp
      exact hK _ _ hC (Below.refl _ _) rfl
    · -- 28: Op.move (Operand.tmp 131)
      refine Spec.tell rfl fun v w hC hS ρ hρ K hK => ?_
      have s27 : v 27 = .bool false := hS 27 rfl
      have r131 : ρ (.tmp 131) = .bool false := ((hρ _ (by simp [Op.operands])).trans (by kernel_rfl : Spec.look _ _ _ v (.tmp 131) = v 27)).trans s27
      clear hρ hS
      go_simp
      exact hK _ _ hC (Below.refl _ _) rfl
    · -- 29: Op.load 24 (Operand.tmp 9)
      refine Spec.tellG 28 false rfl (fun v w hC hS hG ρ hρ K hK => ?_) (fun v w hC hS hG => ?_)
      · have s28 : v 28 = .bool false := hS 28 rfl
        have r9 : ρ (.tmp 9) = .pointer (some ⟨gb, 0, none⟩) := (hρ _ (by simp [Op.operands])).trans (by kernel_rfl)
        clear hρ hS
        have g0 := (blk_cell (blk_below HG.out hC) 0).trans rfl
        have g1 := (blk_cell (blk_below HG.out hC) 1).trans rfl
        have g2 := (blk_cell (blk_below HG.out hC) 2).trans rfl
        go_simp
        exact hK _ _ hC (Below.refl _ _) rfl
      · have s28 : v 28 = .bool false := hS 28 rfl
        exact absurd s28 hG
    · -- 30: Op.call { callee := Callee.value (Operand.func 19), args := #[Operand.tmp 133], argTypes :
      refine Spec.tellG 28 false rfl (fun v w hC hS hG ρ hρ K hK => ?_) (fun v w hC hS hG => ?_)
      · have s28 : v 28 = .bool false := hS 28 rfl
        have s29 : v 29 = .agg #[.int .i64 n, .int .i64 m, .int .i64 z] := hS 29 rfl
        have r133 : ρ (.tmp 133) = .agg #[.int .i64 n, .int .i64 m, .int .i64 z] := ((hρ _ (by simp [Op.operands, Call.operands])).trans (by kernel_rfl : Spec.look _ _ _ v (.tmp 133) = v 29)).trans s29
        have f19 : ρ (.func 19) = .func (.func 19) #[] #[] := (hρ _ (by simp [Op.operands, Call.operands])).trans (by kernel_rfl)
        clear hρ hS
        go_simp
        exact (geometry_Geometry_Each.calls n m z _ _ HF.out.f19).mono fun e w' ⟨h1, h2⟩ => ⟨_, h1, hK _ _ (below_then hC hC.size h2) h2 rfl⟩
      · have s28 : v 28 = .bool false := hS 28 rfl
        have s29 : v 29 = .agg #[.int .i64 n, .int .i64 m, .int .i64 z] := hS 29 rfl
        exact absurd s28 hG
    · -- 31: Op.move (Operand.tmp 2)
      refine Spec.tellG 28 false rfl (fun v w hC hS hG ρ hρ K hK => ?_) (fun v w hC hS hG => ?_)
      · have s28 : v 28 = .bool false := hS 28 rfl
        have r2 : ρ (.tmp 2) = .int .i64 z := (hρ _ (by simp [Op.operands])).trans (by kernel_rfl)
        clear hρ hS
        go_simp
        exact hK _ _ hC (Below.refl _ _) rfl
      · have s28 : v 28 = .bool false := hS 28 rfl
        exact absurd s28 hG
    · -- 32: Op.binOp BinOp.quo 3 (Operand.tmp 135) (Operand.const (Value.int IntKind.i64 8)) 3
      refine Spec.tellG 28 false rfl (fun v w hC hS hG ρ hρ K hK => ?_) (fun v w hC hS hG => ?_)
      · have s28 : v 28 = .bool false := hS 28 rfl
        have s31 : v 31 = .int .i64 z := hS 31 rfl
        have r135 : ρ (.tmp 135) = .int .i64 z := ((hρ _ (by simp [Op.operands])).trans (by kernel_rfl : Spec.look _ _ _ v (.tmp 135) = v 31)).trans s31
        have c0 : ρ (.const (Value.int IntKind.i64 8)) = (Value.int IntKind.i64 8) := (hρ _ (by simp [Op.operands])).trans (by kernel_rfl)
        clear hρ hS
        have ez := HA.out.ez
        have ez1 := HA.out.ez1
        go_simp
        exact hK _ _ hC (Below.refl _ _) rfl
      · have s28 : v 28 = .bool false := hS 28 rfl
        have s31 : v 31 = .int .i64 z := hS 31 rfl
        exact absurd s28 hG
    · -- 33: Op.binOp BinOp.neq 3 (Operand.tmp 134) (Operand.tmp 136) 3
      refine Spec.tellG 28 false rfl (fun v w hC hS hG ρ hρ K hK => ?_) (fun v w hC hS hG => ?_)
      · have s28 : v 28 = .bool false := hS 28 rfl
        have s30 : v 30 = .int .i64 ea := hS 30 rfl
        have s32 : v 32 = .int .i64 ea := hS 32 rfl
        have r134 : ρ (.tmp 134) = .int .i64 ea := ((hρ _ (by simp [Op.operands])).trans (by kernel_rfl : Spec.look _ _ _ v (.tmp 134) = v 30)).trans s30
        have r136 : ρ (.tmp 136) = .int .i64 ea := ((hρ _ (by simp [Op.operands])).trans (by kernel_rfl : Spec.look _ _ _ v (.tmp 136) = v 32)).trans s32
        clear hρ hS
        go_simp
        exact hK _ _ hC (Below.refl _ _) rfl
      · have s28 : v 28 = .bool false := hS 28 rfl
        have s30 : v 30 = .int .i64 ea := hS 30 rfl
        have s32 : v 32 = .int .i64 ea := hS 32 rfl
        exact absurd s28 hG
    · -- 34: Op.pick (Operand.tmp 132) (Operand.const (Value.bool true)) (Operand.tmp 137)
      refine Spec.tell rfl fun v w hC hS ρ hρ K hK => ?_
      have s28 : v 28 = .bool false := hS 28 rfl
      have s33 : v 33 = .bool false := hS 33 rfl
      have r132 : ρ (.tmp 132) = .bool false := ((hρ _ (by simp [Op.operands])).trans (by kernel_rfl : Spec.look _ _ _ v (.tmp 132) = v 28)).trans s28
      have r137 : ρ (.tmp 137) = .bool false := ((hρ _ (by simp [Op.operands])).trans (by kernel_rfl : Spec.look _ _ _ v (.tmp 137) = v 33)).trans s33
      have c0 : ρ (.const (Value.bool true)) = (Value.bool true) := (hρ _ (by simp [Op.operands])).trans (by kernel_rfl)
      clear hρ hS
      go_simp
      exact hK _ _ hC (Below.refl _ _) rfl
  case end_11 =>
    intro v w' hC hS
    have s34 : v 34 = .bool false := hS 34 (by decide)
    clear hS
    simp only [Spec.putAll, Act.put, List.setIfInBounds_toArray, List.set_cons_zero, List.set_cons_succ]
    generalize v 0 = x0
    generalize v 1 = x1
    generalize v 2 = x2
    generalize v 3 = x3
    generalize v 4 = x4
    generalize v 5 = x5
    generalize v 6 = x6
    generalize v 7 = x7
    generalize v 8 = x8
    generalize v 9 = x9
    generalize v 10 = x10
    generalize v 11 = x11
    generalize v 12 = x12
    generalize v 13 = x13
    generalize v 14 = x14
    generalize v 15 = x15
    generalize v 16 = x16
    generalize v 17 = x17
    generalize v 18 = x18
    generalize v 19 = x19
    generalize v 20 = x20
    generalize v 21 = x21
    generalize v 22 = x22
    generalize v 23 = x23
    generalize v 24 = x24
    generalize v 25 = x25
    generalize v 26 = x26
    generalize v 27 = x27
    generalize v 28 = x28
    generalize v 29 = x29
    generalize v 30 = x30
    generalize v 31 = x31
    generalize v 32 = x32
    generalize v 33 = x33
    rw [s34]; clear s34
    have HG8 := Aside0.mk (blk_below HG.out hC)
    have HP8 := Aside0.mk (blk_below HP.out hC)
    have HB8 := Aside0.mk (below_then HB.out HB.out.size hC)
    clear HG HP HB hC
    have HG := HG8
    have HP := HP8
    have HB := HB8
    clear HG8 HP8 HB8
    have d0 : decide (i < 0) = false := decide_eq_false (by have := HI.out; omega)
    have d1 : decide (65534 ≤ i) = false := decide_eq_false (by have := HI.out; omega)
    go_wp2_with fail
    clear d0 d1
    refine Spec.wp_told (F := fun j => [0, 0, 3, 0, 8, 0, 32, 120, 0, 0, 1023, 2047, 4095, 8191, 8191, 32767, 8191, 73727, 8191, 466943, 8191, 8191, 4194303, 8388607, 16777215, 33554431, 67108863, 67108863, 268435455, 67108863, 603979775, 67108863, 67108863, 4362076159, 15099494399, 33889976319, 67108863, 67108863, 274877906943, 549755813887, 1099511627775, 2199023255551, 4398046511103, 4398046511103, 13194139533311, 4398046511103, 39582418599935, 136339441844223, 4398046511103, 4398046511103, 1121501860331519, 2251799813685247, 4503599627370495].getD j 0) (C := fun W => Below w'.heap.size w' W) (S := Spec.at_ [fun u W => u = .agg #[.int .i64 n, .int .i64 m, .int .i64 z], fun u W => u = .int .i64 i, fun u W => u = .int .i64 no, fun u W => u = .pointer (some ⟨pb, 0, none⟩), fun u W => u = .int .i64 16, fun u W => u = .int .i64 i, fun u W => u = .int .i64 (8 * i), fun u W => u = .int .i64 (16 + 8 * i), fun u W => u = .int .i64 i, fun u W => u = .int .i64 m, fun u W => u = .int .i64 no, fun u W => u = .bool false, fun u W => u = .bool false, fun u W => u = .agg #[.int .i64 n, .int .i64 m, .int .i64 z], fun u W => u = .int .i64 i, fun u W => u = .int .i64 sl, fun u W => u = .pointer (some ⟨pb, 1, none⟩), fun u W => u = .int .i64 s1, fun u W => u = .int .i64 i, fun u W => u = .int .i64 (s1 + i), fun u W => u = .int .i64 i, fun u W => u = .int .i64 n, fun u W => u = .int .i64 sl, fun u W => u = .bool false, fun u W => u = .bool false, fun u W => u = .bool false, fun u W => u = .agg #[.int .i64 n, .int .i64 m, .int .i64 z], fun u W => u = .int .i64 i, fun u W => u = .int .i64 bl, fun u W => u = .pointer (some ⟨pb, 3, none⟩), fun u W => u = .int .i64 b3, fun u W => u = .int .i64 i, fun u W => u = .int .i64 z, fun u W => u = .int .i64 ea, fun u W => u = .int .i64 (i * ea), fun u W => u = .int .i64 (b3 + i * ea), fun u W => u = .int .i64 i, fun u W => u = .int .i64 n, fun u W => u = .int .i64 bl, fun u W => u = .bool false, fun u W => u = .bool false, fun u W => u = .bool false, fun u W => u = .int .i64 wd, fun u W => u = .pointer (some ⟨pb, 2, none⟩), fun u W => u = .int .i64 bm, fun u W => u = .int .i64 i, fun u W => u = .int .i64 q64, fun u W => u = .int .i64 (bm + q64), fun u W => u = .int .i64 i, fun u W => u = .int .i64 n, fun u W => u = .int .i64 wd, fun u W => u = .bool false, fun u W => u = .bool false]) (Kp := fun W W' => Below W.heap.size W W') (by kernel_rfl) (by kernel_rfl) (Spec.AllStay.at_ ?stay_15) ?start_15 ?ops_15 ?end_15
    case stay_15 =>
      exact ⟨fun _ _ _ _ h => h, fun _ _ _ _ h => h, fun _ _ _ _ h => h, fun _ _ _ _ h => h, fun _ _ _ _ h => h, fun _ _ _ _ h => h, fun _ _ _ _ h => h, fun _ _ _ _ h => h, fun _ _ _ _ h => h, fun _ _ _ _ h => h, fun _ _ _ _ h => h, fun _ _ _ _ h => h, fun _ _ _ _ h => h, fun _ _ _ _ h => h, fun _ _ _ _ h => h, fun _ _ _ _ h => h, fun _ _ _ _ h => h, fun _ _ _ _ h => h, fun _ _ _ _ h => h, fun _ _ _ _ h => h, fun _ _ _ _ h => h, fun _ _ _ _ h => h, fun _ _ _ _ h => h, fun _ _ _ _ h => h, fun _ _ _ _ h => h, fun _ _ _ _ h => h, fun _ _ _ _ h => h, fun _ _ _ _ h => h, fun _ _ _ _ h => h, fun _ _ _ _ h => h, fun _ _ _ _ h => h, fun _ _ _ _ h => h, fun _ _ _ _ h => h, fun _ _ _ _ h => h, fun _ _ _ _ h => h, fun _ _ _ _ h => h, fun _ _ _ _ h => h, fun _ _ _ _ h => h, fun _ _ _ _ h => h, fun _ _ _ _ h => h, fun _ _ _ _ h => h, fun _ _ _ _ h => h, fun _ _ _ _ h => h, fun _ _ _ _ h => h, fun _ _ _ _ h => h, fun _ _ _ _ h => h, fun _ _ _ _ h => h, fun _ _ _ _ h => h, fun _ _ _ _ h => h, fun _ _ _ _ h => h, fun _ _ _ _ h => h, fun _ _ _ _ h => h, fun _ _ _ _ h => h, trivial⟩
    case start_15 =>
      exact below_drew (Below.refl _ _)
    case ops_15 =>
      refine ⟨?_, ?_, ?_, ?_, ?_, ?_, ?_, ?_, ?_, ?_, ?_, ?_, ?_, ?_, ?_, ?_, ?_, ?_, ?_, ?_, ?_, ?_, ?_, ?_, ?_, ?_, ?_, ?_, ?_, ?_, ?_, ?_, ?_, ?_, ?_, ?_, ?_, ?_, ?_, ?_, ?_, ?_, ?_, ?_, ?_, ?_, ?_, ?_, ?_, ?_, ?_, ?_, ?_, trivial⟩
      · -- 0: Op.load 24 (Operand.tmp 9)
        refine Spec.tell rfl fun v w hC hS ρ hρ K hK => ?_
        have r9 : ρ (.tmp 9) = .pointer (some ⟨gb, 0, none⟩) := (hρ _ (by simp [Op.operands])).trans (by kernel_rfl)
        clear hρ hS
        have g0 := (blk_cell (blk_below HG.out hC) 0).trans rfl
        have g1 := (blk_cell (blk_below HG.out hC) 1).trans rfl
        have g2 := (blk_cell (blk_below HG.out hC) 2).trans rfl
        go_simp
        exact hK _ _ hC (Below.refl _ _) rfl
      · -- 1: Op.move (Operand.tmp 3)
        refine Spec.tell rfl fun v w hC hS ρ hρ K hK => ?_
        have r3 : ρ (.tmp 3) = .int .i64 i := (hρ _ (by simp [Op.operands])).trans (by kernel_rfl)
        clear hρ hS
        go_simp
        exact hK _ _ hC (Below.refl _ _) rfl
      · -- 2: Op.call { callee := Callee.value (Operand.func 16), args := #[Operand.tmp 169, Operand.tmp
        refine Spec.tell rfl fun v w hC hS ρ hρ K hK => ?_
        have s0 : v 0 = .agg #[.int .i64 n, .int .i64 m, .int .i64 z] := hS 0 rfl
        have s1 : v 1 = .int .i64 i := hS 1 rfl
        have r169 : ρ (.tmp 169) = .agg #[.int .i64 n, .int .i64 m, .int .i64 z] := ((hρ _ (by simp [Op.operands, Call.operands])).trans (by kernel_rfl : Spec.look _ _ _ v (.tmp 169) = v 0)).trans s0
        have r170 : ρ (.tmp 170) = .int .i64 i := ((hρ _ (by simp [Op.operands, Call.operands])).trans (by kernel_rfl : Spec.look _ _ _ v (.tmp 170) = v 1)).trans s1
        have f16 : ρ (.func 16) = .func (.func 16) #[] #[] := (hρ _ (by simp [Op.operands, Call.operands])).trans (by kernel_rfl)
        clear hρ hS
        go_simp
        exact (geometry_Geometry_Inode.calls n m z i _ _ HF.out.f16).mono fun e w' ⟨h1, h2⟩ => ⟨_, h1, hK _ _ (below_then hC hC.size h2) h2 rfl⟩
      · -- 3: Op.fieldAddr 38 (Operand.tmp 10) 0
        refine Spec.tell rfl fun v w hC hS ρ hρ K hK => ?_
        have r10 : ρ (.tmp 10) = .pointer (some ⟨pb, 0, none⟩) := (hρ _ (by simp [Op.operands])).trans (by kernel_rfl)
        clear hρ hS
        go_simp
        exact hK _ _ hC (Below.refl _ _) rfl
      · -- 4: Op.load 3 (Operand.tmp 172)
        refine Spec.tell rfl fun v w hC hS ρ hρ K hK => ?_
        have s3 : v 3 = .pointer (some ⟨pb, 0, none⟩) := hS 3 rfl
        have r172 : ρ (.tmp 172) = .pointer (some ⟨pb, 0, none⟩) := ((hρ _ (by simp [Op.operands])).trans (by kernel_rfl : Spec.look _ _ _ v (.tmp 172) = v 3)).trans s3
        clear hρ hS
        have p0 := (blk_cell (blk_below HP.out hC) 0).trans rfl
        go_simp
        exact hK _ _ hC (Below.refl _ _) rfl
      · -- 5: Op.move (Operand.tmp 3)
        refine Spec.tell rfl fun v w hC hS ρ hρ K hK => ?_
        have r3 : ρ (.tmp 3) = .int .i64 i := (hρ _ (by simp [Op.operands])).trans (by kernel_rfl)
        clear hρ hS
        go_simp
        exact hK _ _ hC (Below.refl _ _) rfl
      · -- 6: Op.binOp BinOp.mul 3 (Operand.const (Value.int IntKind.i64 8)) (Operand.tmp 174) 3
        refine Spec.tell rfl fun v w hC hS ρ hρ K hK => ?_
        have s5 : v 5 = .int .i64 i := hS 5 rfl
        have r174 : ρ (.tmp 174) = .int .i64 i := ((hρ _ (by simp [Op.operands])).trans (by kernel_rfl : Spec.look _ _ _ v (.tmp 174) = v 5)).trans s5
        have c0 : ρ (.const (Value.int IntKind.i64 8)) = (Value.int IntKind.i64 8) := (hρ _ (by simp [Op.operands])).trans (by kernel_rfl)
        clear hρ hS
        have a8 := HN.out.a8
        go_simp
        exact hK _ _ hC (Below.refl _ _) rfl
      · -- 7: Op.binOp BinOp.add 3 (Operand.tmp 173) (Operand.tmp 175) 3
        refine Spec.tell rfl fun v w hC hS ρ hρ K hK => ?_
        have s4 : v 4 = .int .i64 16 := hS 4 rfl
        have s6 : v 6 = .int .i64 (8 * i) := hS 6 rfl
        have r173 : ρ (.tmp 173) = .int .i64 16 := ((hρ _ (by simp [Op.operands])).trans (by kernel_rfl : Spec.look _ _ _ v (.tmp 173) = v 4)).trans s4
        have r175 : ρ (.tmp 175) = .int .i64 (8 * i) := ((hρ _ (by simp [Op.operands])).trans (by kernel_rfl : Spec.look _ _ _ v (.tmp 175) = v 6)).trans s6
        clear hρ hS
        have a16 := HN.out.a16
        go_simp
        exact hK _ _ hC (Below.refl _ _) rfl
      · -- 8: Op.move (Operand.tmp 3)
        refine Spec.tell rfl fun v w hC hS ρ hρ K hK => ?_
        have r3 : ρ (.tmp 3) = .int .i64 i := (hρ _ (by simp [Op.operands])).trans (by kernel_rfl)
        clear hρ hS
        go_simp
        exact hK _ _ hC (Below.refl _ _) rfl
      · -- 9: Op.move (Operand.tmp 1)
        refine Spec.tell rfl fun v w hC hS ρ hρ K hK => ?_
        have r1 : ρ (.tmp 1) = .int .i64 m := (hρ _ (by simp [Op.operands])).trans (by kernel_rfl)
        clear hρ hS
        go_simp
        exact hK _ _ hC (Below.refl _ _) rfl
      · -- 10: Op.call { callee := Callee.value (Operand.func 22), args := #[Operand.tmp 176, Operand.tmp
        refine Spec.tell rfl fun v w hC hS ρ hρ K hK => ?_
        have s7 : v 7 = .int .i64 (16 + 8 * i) := hS 7 rfl
        have s8 : v 8 = .int .i64 i := hS 8 rfl
        have s9 : v 9 = .int .i64 m := hS 9 rfl
        have r176 : ρ (.tmp 176) = .int .i64 (16 + 8 * i) := ((hρ _ (by simp [Op.operands, Call.operands])).trans (by kernel_rfl : Spec.look _ _ _ v (.tmp 176) = v 7)).trans s7
        have r177 : ρ (.tmp 177) = .int .i64 i := ((hρ _ (by simp [Op.operands, Call.operands])).trans (by kernel_rfl : Spec.look _ _ _ v (.tmp 177) = v 8)).trans s8
        have r178 : ρ (.tmp 178) = .int .i64 m := ((hρ _ (by simp [Op.operands, Call.operands])).trans (by kernel_rfl : Spec.look _ _ _ v (.tmp 178) = v 9)).trans s9
        have f22 : ρ (.func 22) = .func (.func 22) #[] #[] := (hρ _ (by simp [Op.operands, Call.operands])).trans (by kernel_rfl)
        clear hρ hS
        go_simp
        exact (cantlelaw04_in.calls _ i m _ _ HN.out.f1).mono fun e w' ⟨h1, h2⟩ => ⟨_, h1, hK _ _ (below_then hC hC.size h2.below) h2.below rfl⟩
      · -- 11: Op.binOp BinOp.neq 3 (Operand.tmp 171) (Operand.tmp 179) 3
        refine Spec.tell rfl fun v w hC hS ρ hρ K hK => ?_
        have s2 : v 2 = .int .i64 no := hS 2 rfl
        have s10 : v 10 = .int .i64 no := hS 10 rfl
        have r171 : ρ (.tmp 171) = .int .i64 no := ((hρ _ (by simp [Op.operands])).trans (by kernel_rfl : Spec.look _ _ _ v (.tmp 171) = v 2)).trans s2
        have r179 : ρ (.tmp 179) = .int .i64 no := ((hρ _ (by simp [Op.operands])).trans (by kernel_rfl : Spec.look _ _ _ v (.tmp 179) = v 10)).trans s10
        clear hρ hS
        go_simp
        exact hK _ _ hC (Below.refl _ _) rfl
      · -- 12: Op.move (Operand.tmp 180)
        refine Spec.tell rfl fun v w hC hS ρ hρ K hK => ?_
        have s11 : v 11 = .bool false := hS 11 rfl
        have r180 : ρ (.tmp 180) = .bool false := ((hρ _ (by simp [Op.operands])).trans (by kernel_rfl : Spec.look _ _ _ v (.tmp 180) = v 11)).trans s11
        clear hρ hS
        go_simp
        exact hK _ _ hC (Below.refl _ _) rfl
      · -- 13: Op.load 24 (Operand.tmp 9)
        refine Spec.tellG 12 false rfl (fun v w hC hS hG ρ hρ K hK => ?_) (fun v w hC hS hG => ?_)
        · have s12 : v 12 = .bool false := hS 12 rfl
          have r9 : ρ (.tmp 9) = .pointer (some ⟨gb, 0, none⟩) := (hρ _ (by simp [Op.operands])).trans (by kernel_rfl)
          clear hρ hS
          have g0 := (blk_cell (blk_below HG.out hC) 0).trans rfl
          have g1 := (blk_cell (blk_below HG.out hC) 1).trans rfl
          have g2 := (blk_cell (blk_below HG.out hC) 2).trans rfl
          go_simp
          exact hK _ _ hC (Below.refl _ _) rfl
        · have s12 : v 12 = .bool false := hS 12 rfl
          exact absurd s12 hG
      · -- 14: Op.move (Operand.tmp 3)
        refine Spec.tellG 12 false rfl (fun v w hC hS hG ρ hρ K hK => ?_) (fun v w hC hS hG => ?_)
        · have s12 : v 12 = .bool false := hS 12 rfl
          have r3 : ρ (.tmp 3) = .int .i64 i := (hρ _ (by simp [Op.operands])).trans (by kernel_rfl)
          clear hρ hS
          go_simp
          exact hK _ _ hC (Below.refl _ _) rfl
        · have s12 : v 12 = .bool false := hS 12 rfl
          exact absurd s12 hG
      · -- 15: Op.call { callee := Callee.value (Operand.func 17), args := #[Operand.tmp 182, Operand.tmp
        refine Spec.tellG 12 false rfl (fun v w hC hS hG ρ hρ K hK => ?_) (fun v w hC hS hG => ?_)
        · have s12 : v 12 = .bool false := hS 12 rfl
          have s13 : v 13 = .agg #[.int .i64 n, .int .i64 m, .int .i64 z] := hS 13 rfl
          have s14 : v 14 = .int .i64 i := hS 14 rfl
          have r182 : ρ (.tmp 182) = .agg #[.int .i64 n, .int .i64 m, .int .i64 z] := ((hρ _ (by simp [Op.operands, Call.operands])).trans (by kernel_rfl : Spec.look _ _ _ v (.tmp 182) = v 13)).trans s13
          have r183 : ρ (.tmp 183) = .int .i64 i := ((hρ _ (by simp [Op.operands, Call.operands])).trans (by kernel_rfl : Spec.look _ _ _ v (.tmp 183) = v 14)).trans s14
          have f17 : ρ (.func 17) = .func (.func 17) #[] #[] := (hρ _ (by simp [Op.operands, Call.operands])).trans (by kernel_rfl)
          clear hρ hS
          go_simp
          exact (geometry_Geometry_Slot.calls n m z i _ _ HF.out.f17).mono fun e w' ⟨h1, h2⟩ => ⟨_, h1, hK _ _ (below_then hC hC.size h2) h2 rfl⟩
        · have s12 : v 12 = .bool false := hS 12 rfl
          have s13 : v 13 = .agg #[.int .i64 n, .int .i64 m, .int .i64 z] := hS 13 rfl
          have s14 : v 14 = .int .i64 i := hS 14 rfl
          exact absurd s12 hG
      · -- 16: Op.fieldAddr 38 (Operand.tmp 10) 1
        refine Spec.tellG 12 false rfl (fun v w hC hS hG ρ hρ K hK => ?_) (fun v w hC hS hG => ?_)
        · have s12 : v 12 = .bool false := hS 12 rfl
          have r10 : ρ (.tmp 10) = .pointer (some ⟨pb, 0, none⟩) := (hρ _ (by simp [Op.operands])).trans (by kernel_rfl)
          clear hρ hS
          go_simp
          exact hK _ _ hC (Below.refl _ _) rfl
        · have s12 : v 12 = .bool false := hS 12 rfl
          exact absurd s12 hG
      · -- 17: Op.load 3 (Operand.tmp 185)
        refine Spec.tellG 12 false rfl (fun v w hC hS hG ρ hρ K hK => ?_) (fun v w hC hS hG => ?_)
        · have s12 : v 12 = .bool false := hS 12 rfl
          have s16 : v 16 = .pointer (some ⟨pb, 1, none⟩) := hS 16 rfl
          have r185 : ρ (.tmp 185) = .pointer (some ⟨pb, 1, none⟩) := ((hρ _ (by simp [Op.operands])).trans (by kernel_rfl : Spec.look _ _ _ v (.tmp 185) = v 16)).trans s16
          clear hρ hS
          have p1 := (blk_cell (blk_below HP.out hC) 1).trans rfl
          go_simp
          exact hK _ _ hC (Below.refl _ _) rfl
        · have s12 : v 12 = .bool false := hS 12 rfl
          have s16 : v 16 = .pointer (some ⟨pb, 1, none⟩) := hS 16 rfl
          exact absurd s12 hG
      · -- 18: Op.move (Operand.tmp 3)
        refine Spec.tellG 12 false rfl (fun v w hC hS hG ρ hρ K hK => ?_) (fun v w hC hS hG => ?_)
        · have s12 : v 12 = .bool false := hS 12 rfl
          have r3 : ρ (.tmp 3) = .int .i64 i := (hρ _ (by simp [Op.operands])).trans (by kernel_rfl)
          clear hρ hS
          go_simp
          exact hK _ _ hC (Below.refl _ _) rfl
        · have s12 : v 12 = .bool false := hS 12 rfl
          exact absurd s12 hG
      · -- 19: Op.binOp BinOp.add 3 (Operand.tmp 186) (Operand.tmp 187) 3
        refine Spec.tellG 12 false rfl (fun v w hC hS hG ρ hρ K hK => ?_) (fun v w hC hS hG => ?_)
        · have s12 : v 12 = .bool false := hS 12 rfl
          have s17 : v 17 = .int .i64 s1 := hS 17 rfl
          have s18 : v 18 = .int .i64 i := hS 18 rfl
          have r186 : ρ (.tmp 186) = .int .i64 s1 := ((hρ _ (by simp [Op.operands])).trans (by kernel_rfl : Spec.look _ _ _ v (.tmp 186) = v 17)).trans s17
          have r187 : ρ (.tmp 187) = .int .i64 i := ((hρ _ (by simp [Op.operands])).trans (by kernel_rfl : Spec.look _ _ _ v (.tmp 187) = v 18)).trans s18
          clear hρ hS
          have asl := HN.out.asl
          go_simp
          exact hK _ _ hC (Below.refl _ _) rfl
        · have s12 : v 12 = .bool false := hS 12 rfl
          have s17 : v 17 = .int .i64 s1 := hS 17 rfl
          have s18 : v 18 = .int .i64 i := hS 18 rfl
          exact absurd s12 hG
      · -- 20: Op.move (Operand.tmp 3)
        refine Spec.tellG 12 false rfl (fun v w hC hS hG ρ hρ K hK => ?_) (fun v w hC hS hG => ?_)
        · have s12 : v 12 = .bool false := hS 12 rfl
          have r3 : ρ (.tmp 3) = .int .i64 i := (hρ _ (by simp [Op.operands])).trans (by kernel_rfl)
          clear hρ hS
          go_simp
          exact hK _ _ hC (Below.refl _ _) rfl
        · have s12 : v 12 = .bool false := hS 12 rfl
          exact absurd s12 hG
      · -- 21: Op.move (Operand.tmp 0)
        refine Spec.tellG 12 false rfl (fun v w hC hS hG ρ hρ K hK => ?_) (fun v w hC hS hG => ?_)
        · have s12 : v 12 = .bool false := hS 12 rfl
          have r0 : ρ (.tmp 0) = .int .i64 n := (hρ _ (by simp [Op.operands])).trans (by kernel_rfl)
          clear hρ hS
          go_simp
          exact hK _ _ hC (Below.refl _ _) rfl
        · have s12 : v 12 = .bool false := hS 12 rfl
          exact absurd s12 hG
      · -- 22: Op.call { callee := Callee.value (Operand.func 22), args := #[Operand.tmp 188, Operand.tmp
        refine Spec.tellG 12 false rfl (fun v w hC hS hG ρ hρ K hK => ?_) (fun v w hC hS hG => ?_)
        · have s12 : v 12 = .bool false := hS 12 rfl
          have s19 : v 19 = .int .i64 (s1 + i) := hS 19 rfl
          have s20 : v 20 = .int .i64 i := hS 20 rfl
          have s21 : v 21 = .int .i64 n := hS 21 rfl
          have r188 : ρ (.tmp 188) = .int .i64 (s1 + i) := ((hρ _ (by simp [Op.operands, Call.operands])).trans (by kernel_rfl : Spec.look _ _ _ v (.tmp 188) = v 19)).trans s19
          have r189 : ρ (.tmp 189) = .int .i64 i := ((hρ _ (by simp [Op.operands, Call.operands])).trans (by kernel_rfl : Spec.look _ _ _ v (.tmp 189) = v 20)).trans s20
          have r190 : ρ (.tmp 190) = .int .i64 n := ((hρ _ (by simp [Op.operands, Call.operands])).trans (by kernel_rfl : Spec.look _ _ _ v (.tmp 190) = v 21)).trans s21
          have f22 : ρ (.func 22) = .func (.func 22) #[] #[] := (hρ _ (by simp [Op.operands, Call.operands])).trans (by kernel_rfl)
          clear hρ hS
          go_simp
          exact (cantlelaw04_in.calls _ i n _ _ HN.out.f2).mono fun e w' ⟨h1, h2⟩ => ⟨_, h1, hK _ _ (below_then hC hC.size h2.below) h2.below rfl⟩
        · have s12 : v 12 = .bool false := hS 12 rfl
          have s19 : v 19 = .int .i64 (s1 + i) := hS 19 rfl
          have s20 : v 20 = .int .i64 i := hS 20 rfl
          have s21 : v 21 = .int .i64 n := hS 21 rfl
          exact absurd s12 hG
      · -- 23: Op.binOp BinOp.neq 3 (Operand.tmp 184) (Operand.tmp 191) 3
        refine Spec.tellG 12 false rfl (fun v w hC hS hG ρ hρ K hK => ?_) (fun v w hC hS hG => ?_)
        · have s12 : v 12 = .bool false := hS 12 rfl
          have s15 : v 15 = .int .i64 sl := hS 15 rfl
          have s22 : v 22 = .int .i64 sl := hS 22 rfl
          have r184 : ρ (.tmp 184) = .int .i64 sl := ((hρ _ (by simp [Op.operands])).trans (by kernel_rfl : Spec.look _ _ _ v (.tmp 184) = v 15)).trans s15
          have r191 : ρ (.tmp 191) = .int .i64 sl := ((hρ _ (by simp [Op.operands])).trans (by kernel_rfl : Spec.look _ _ _ v (.tmp 191) = v 22)).trans s22
          clear hρ hS
          go_simp
          exact hK _ _ hC (Below.refl _ _) rfl
        · have s12 : v 12 = .bool false := hS 12 rfl
          have s15 : v 15 = .int .i64 sl := hS 15 rfl
          have s22 : v 22 = .int .i64 sl := hS 22 rfl
          exact absurd s12 hG
      · -- 24: Op.pick (Operand.tmp 181) (Operand.const (Value.bool true)) (Operand.tmp 192)
        refine Spec.tell rfl fun v w hC hS ρ hρ K hK => ?_
        have s12 : v 12 = .bool false := hS 12 rfl
        have s23 : v 23 = .bool false := hS 23 rfl
        have r181 : ρ (.tmp 181) = .bool false := ((hρ _ (by simp [Op.operands])).trans (by kernel_rfl : Spec.look _ _ _ v (.tmp 181) = v 12)).trans s12
        have r192 : ρ (.tmp 192) = .bool false := ((hρ _ (by simp [Op.operands])).trans (by kernel_rfl : Spec.look _ _ _ v (.tmp 192) = v 23)).trans s23
        have c0 : ρ (.const (Value.bool true)) = (Value.bool true) := (hρ _ (by simp [Op.operands])).trans (by kernel_rfl)
        clear hρ hS
        go_simp
        exact hK _ _ hC (Below.refl _ _) rfl
      · -- 25: Op.move (Operand.tmp 193)
        refine Spec.tell rfl fun v w hC hS ρ hρ K hK => ?_
        have s24 : v 24 = .bool false := hS 24 rfl
        have r193 : ρ (.tmp 193) = .bool false := ((hρ _ (by simp [Op.operands])).trans (by kernel_rfl : Spec.look _ _ _ v (.tmp 193) = v 24)).trans s24
        clear hρ hS
        go_simp
        exact hK _ _ hC (Below.refl _ _) rfl
      · -- 26: Op.load 24 (Operand.tmp 9)
        refine Spec.tellG 25 false rfl (fun v w hC hS hG ρ hρ K hK => ?_) (fun v w hC hS hG => ?_)
        · have s25 : v 25 = .bool false := hS 25 rfl
          have r9 : ρ (.tmp 9) = .pointer (some ⟨gb, 0, none⟩) := (hρ _ (by simp [Op.operands])).trans (by kernel_rfl)
          clear hρ hS
          have g0 := (blk_cell (blk_below HG.out hC) 0).trans rfl
          have g1 := (blk_cell (blk_below HG.out hC) 1).trans rfl
          have g2 := (blk_cell (blk_below HG.out hC) 2).trans rfl
          go_simp
          exact hK _ _ hC (Below.refl _ _) rfl
        · have s25 : v 25 = .bool false := hS 25 rfl
          exact absurd s25 hG
      · -- 27: Op.move (Operand.tmp 3)
        refine Spec.tellG 25 false rfl (fun v w hC hS hG ρ hρ K hK => ?_) (fun v w hC hS hG => ?_)
        · have s25 : v 25 = .bool false := hS 25 rfl
          have r3 : ρ (.tmp 3) = .int .i64 i := (hρ _ (by simp [Op.operands])).trans (by kernel_rfl)
          clear hρ hS
          go_simp
          exact hK _ _ hC (Below.refl _ _) rfl
        · have s25 : v 25 = .bool false := hS 25 rfl
          exact absurd s25 hG
      · -- 28: Op.call { callee := Callee.value (Operand.func 18), args := #[Operand.tmp 195, Operand.tmp
        refine Spec.tellG 25 false rfl (fun v w hC hS hG ρ hρ K hK => ?_) (fun v w hC hS hG => ?_)
        · have s25 : v 25 = .bool false := hS 25 rfl
          have s26 : v 26 = .agg #[.int .i64 n, .int .i64 m, .int .i64 z] := hS 26 rfl
          have s27 : v 27 = .int .i64 i := hS 27 rfl
          have r195 : ρ (.tmp 195) = .agg #[.int .i64 n, .int .i64 m, .int .i64 z] := ((hρ _ (by simp [Op.operands, Call.operands])).trans (by kernel_rfl : Spec.look _ _ _ v (.tmp 195) = v 26)).trans s26
          have r196 : ρ (.tmp 196) = .int .i64 i := ((hρ _ (by simp [Op.operands, Call.operands])).trans (by kernel_rfl : Spec.look _ _ _ v (.tmp 196) = v 27)).trans s27
          have f18 : ρ (.func 18) = .func (.func 18) #[] #[] := (hρ _ (by simp [Op.operands, Call.operands])).trans (by kernel_rfl)
          clear hρ hS
          go_simp
          exact (geometry_Geometry_Block.calls n m z i _ _ HF.out.f18).mono fun e w' ⟨h1, h2⟩ => ⟨_, h1, hK _ _ (below_then hC hC.size h2) h2 rfl⟩
        · have s25 : v 25 = .bool false := hS 25 rfl
          have s26 : v 26 = .agg #[.int .i64 n, .int .i64 m, .int .i64 z] := hS 26 rfl
          have s27 : v 27 = .int .i64 i := hS 27 rfl
          exact absurd s25 hG
      · -- 29: Op.fieldAddr 38 (Operand.tmp 10) 3
        refine Spec.tellG 25 false rfl (fun v w hC hS hG ρ hρ K hK => ?_) (fun v w hC hS hG => ?_)
        · have s25 : v 25 = .bool false := hS 25 rfl
          have r10 : ρ (.tmp 10) = .pointer (some ⟨pb, 0, none⟩) := (hρ _ (by simp [Op.operands])).trans (by kernel_rfl)
          clear hρ hS
          go_simp
          exact hK _ _ hC (Below.refl _ _) rfl
        · have s25 : v 25 = .bool false := hS 25 rfl
          exact absurd s25 hG
      · -- 30: Op.load 3 (Operand.tmp 198)
        refine Spec.tellG 25 false rfl (fun v w hC hS hG ρ hρ K hK => ?_) (fun v w hC hS hG => ?_)
        · have s25 : v 25 = .bool false := hS 25 rfl
          have s29 : v 29 = .pointer (some ⟨pb, 3, none⟩) := hS 29 rfl
          have r198 : ρ (.tmp 198) = .pointer (some ⟨pb, 3, none⟩) := ((hρ _ (by simp [Op.operands])).trans (by kernel_rfl : Spec.look _ _ _ v (.tmp 198) = v 29)).trans s29
          clear hρ hS
          have p3 := (blk_cell (blk_below HP.out hC) 3).trans rfl
          go_simp
          exact hK _ _ hC (Below.refl _ _) rfl
        · have s25 : v 25 = .bool false := hS 25 rfl
          have s29 : v 29 = .pointer (some ⟨pb, 3, none⟩) := hS 29 rfl
          exact absurd s25 hG
      · -- 31: Op.move (Operand.tmp 3)
        refine Spec.tellG 25 false rfl (fun v w hC hS hG ρ hρ K hK => ?_) (fun v w hC hS hG => ?_)
        · have s25 : v 25 = .bool false := hS 25 rfl
          have r3 : ρ (.tmp 3) = .int .i64 i := (hρ _ (by simp [Op.operands])).trans (by kernel_rfl)
          clear hρ hS
          go_simp
          exact hK _ _ hC (Below.refl _ _) rfl
        · have s25 : v 25 = .bool false := hS 25 rfl
          exact absurd s25 hG
      · -- 32: Op.move (Operand.tmp 2)
        refine Spec.tellG 25 false rfl (fun v w hC hS hG ρ hρ K hK => ?_) (fun v w hC hS hG => ?_)
        · have s25 : v 25 = .bool false := hS 25 rfl
          have r2 : ρ (.tmp 2) = .int .i64 z := (hρ _ (by simp [Op.operands])).trans (by kernel_rfl)
          clear hρ hS
          go_simp
          exact hK _ _ hC (Below.refl _ _) rfl
        · have s25 : v 25 = .bool false := hS 25 rfl
          exact absurd s25 hG
      · -- 33: Op.binOp BinOp.quo 3 (Operand.tmp 201) (Operand.const (Value.int IntKind.i64 8)) 3
        refine Spec.tellG 25 false rfl (fun v w hC hS hG ρ hρ K hK => ?_) (fun v w hC hS hG => ?_)
        · have s25 : v 25 = .bool false := hS 25 rfl
          have s32 : v 32 = .int .i64 z := hS 32 rfl
          have r201 : ρ (.tmp 201) = .int .i64 z := ((hρ _ (by simp [Op.operands])).trans (by kernel_rfl : Spec.look _ _ _ v (.tmp 201) = v 32)).trans s32
          have c0 : ρ (.const (Value.int IntKind.i64 8)) = (Value.int IntKind.i64 8) := (hρ _ (by simp [Op.operands])).trans (by kernel_rfl)
          clear hρ hS
          have ez := HA.out.ez
          have ez1 := HA.out.ez1
          go_simp
          exact hK _ _ hC (Below.refl _ _) rfl
        · have s25 : v 25 = .bool false := hS 25 rfl
          have s32 : v 32 = .int .i64 z := hS 32 rfl
          exact absurd s25 hG
      · -- 34: Op.binOp BinOp.mul 3 (Operand.tmp 200) (Operand.tmp 202) 3
        refine Spec.tellG 25 false rfl (fun v w hC hS hG ρ hρ K hK => ?_) (fun v w hC hS hG => ?_)
        · have s25 : v 25 = .bool false := hS 25 rfl
          have s31 : v 31 = .int .i64 i := hS 31 rfl
          have s33 : v 33 = .int .i64 ea := hS 33 rfl
          have r200 : ρ (.tmp 200) = .int .i64 i := ((hρ _ (by simp [Op.operands])).trans (by kernel_rfl : Spec.look _ _ _ v (.tmp 200) = v 31)).trans s31
          have r202 : ρ (.tmp 202) = .int .i64 ea := ((hρ _ (by simp [Op.operands])).trans (by kernel_rfl : Spec.look _ _ _ v (.tmp 202) = v 33)).trans s33
          clear hρ hS
          have ae := HN.out.ae
          go_simp
          exact hK _ _ hC (Below.refl _ _) rfl
        · have s25 : v 25 = .bool false := hS 25 rfl
          have s31 : v 31 = .int .i64 i := hS 31 rfl
          have s33 : v 33 = .int .i64 ea := hS 33 rfl
          exact absurd s25 hG
      · -- 35: Op.binOp BinOp.add 3 (Operand.tmp 199) (Operand.tmp 203) 3
        refine Spec.tellG 25 false rfl (fun v w hC hS hG ρ hρ K hK => ?_) (fun v w hC hS hG => ?_)
        · have s25 : v 25 = .bool false := hS 25 rfl
          have s30 : v 30 = .int .i64 b3 := hS 30 rfl
          have s34 : v 34 = .int .i64 (i * ea) := hS 34 rfl
          have r199 : ρ (.tmp 199) = .int .i64 b3 := ((hρ _ (by simp [Op.operands])).trans (by kernel_rfl : Spec.look _ _ _ v (.tmp 199) = v 30)).trans s30
          have r203 : ρ (.tmp 203) = .int .i64 (i * ea) := ((hρ _ (by simp [Op.operands])).trans (by kernel_rfl : Spec.look _ _ _ v (.tmp 203) = v 34)).trans s34
          clear hρ hS
          have ab := HN.out.ab
          go_simp
          exact hK _ _ hC (Below.refl _ _) rfl
        · have s25 : v 25 = .bool false := hS 25 rfl
          have s30 : v 30 = .int .i64 b3 := hS 30 rfl
          have s34 : v 34 = .int .i64 (i * ea) := hS 34 rfl
          exact absurd s25 hG
      · -- 36: Op.move (Operand.tmp 3)
        refine Spec.tellG 25 false rfl (fun v w hC hS hG ρ hρ K hK => ?_) (fun v w hC hS hG => ?_)
        · have s25 : v 25 = .bool false := hS 25 rfl
          have r3 : ρ (.tmp 3) = .int .i64 i := (hρ _ (by simp [Op.operands])).trans (by kernel_rfl)
          clear hρ hS
          go_simp
          exact hK _ _ hC (Below.refl _ _) rfl
        · have s25 : v 25 = .bool false := hS 25 rfl
          exact absurd s25 hG
      · -- 37: Op.move (Operand.tmp 0)
        refine Spec.tellG 25 false rfl (fun v w hC hS hG ρ hρ K hK => ?_) (fun v w hC hS hG => ?_)
        · have s25 : v 25 = .bool false := hS 25 rfl
          have r0 : ρ (.tmp 0) = .int .i64 n := (hρ _ (by simp [Op.operands])).trans (by kernel_rfl)
          clear hρ hS
          go_simp
          exact hK _ _ hC (Below.refl _ _) rfl
        · have s25 : v 25 = .bool false := hS 25 rfl
          exact absurd s25 hG
      · -- 38: Op.call { callee := Callee.value (Operand.func 22), args := #[Operand.tmp 204, Operand.tmp
        refine Spec.tellG 25 false rfl (fun v w hC hS hG ρ hρ K hK => ?_) (fun v w hC hS hG => ?_)
        · have s25 : v 25 = .bool false := hS 25 rfl
          have s35 : v 35 = .int .i64 (b3 + i * ea) := hS 35 rfl
          have s36 : v 36 = .int .i64 i := hS 36 rfl
          have s37 : v 37 = .int .i64 n := hS 37 rfl
          have r204 : ρ (.tmp 204) = .int .i64 (b3 + i * ea) := ((hρ _ (by simp [Op.operands, Call.operands])).trans (by kernel_rfl : Spec.look _ _ _ v (.tmp 204) = v 35)).trans s35
          have r205 : ρ (.tmp 205) = .int .i64 i := ((hρ _ (by simp [Op.operands, Call.operands])).trans (by kernel_rfl : Spec.look _ _ _ v (.tmp 205) = v 36)).trans s36
          have r206 : ρ (.tmp 206) = .int .i64 n := ((hρ _ (by simp [Op.operands, Call.operands])).trans (by kernel_rfl : Spec.look _ _ _ v (.tmp 206) = v 37)).trans s37
          have f22 : ρ (.func 22) = .func (.func 22) #[] #[] := (hρ _ (by simp [Op.operands, Call.operands])).trans (by kernel_rfl)
          clear hρ hS
          go_simp
          exact (cantlelaw04_in.calls _ i n _ _ HN.out.f3).mono fun e w' ⟨h1, h2⟩ => ⟨_, h1, hK _ _ (below_then hC hC.size h2.below) h2.below rfl⟩
        · have s25 : v 25 = .bool false := hS 25 rfl
          have s35 : v 35 = .int .i64 (b3 + i * ea) := hS 35 rfl
          have s36 : v 36 = .int .i64 i := hS 36 rfl
          have s37 : v 37 = .int .i64 n := hS 37 rfl
          exact absurd s25 hG
      · -- 39: Op.binOp BinOp.neq 3 (Operand.tmp 197) (Operand.tmp 207) 3
        refine Spec.tellG 25 false rfl (fun v w hC hS hG ρ hρ K hK => ?_) (fun v w hC hS hG => ?_)
        · have s25 : v 25 = .bool false := hS 25 rfl
          have s28 : v 28 = .int .i64 bl := hS 28 rfl
          have s38 : v 38 = .int .i64 bl := hS 38 rfl
          have r197 : ρ (.tmp 197) = .int .i64 bl := ((hρ _ (by simp [Op.operands])).trans (by kernel_rfl : Spec.look _ _ _ v (.tmp 197) = v 28)).trans s28
          have r207 : ρ (.tmp 207) = .int .i64 bl := ((hρ _ (by simp [Op.operands])).trans (by kernel_rfl : Spec.look _ _ _ v (.tmp 207) = v 38)).trans s38
          clear hρ hS
          go_simp
          exact hK _ _ hC (Below.refl _ _) rfl
        · have s25 : v 25 = .bool false := hS 25 rfl
          have s28 : v 28 = .int .i64 bl := hS 28 rfl
          have s38 : v 38 = .int .i64 bl := hS 38 rfl
          exact absurd s25 hG
      · -- 40: Op.pick (Operand.tmp 194) (Operand.const (Value.bool true)) (Operand.tmp 208)
        refine Spec.tell rfl fun v w hC hS ρ hρ K hK => ?_
        have s25 : v 25 = .bool false := hS 25 rfl
        have s39 : v 39 = .bool false := hS 39 rfl
        have r194 : ρ (.tmp 194) = .bool false := ((hρ _ (by simp [Op.operands])).trans (by kernel_rfl : Spec.look _ _ _ v (.tmp 194) = v 25)).trans s25
        have r208 : ρ (.tmp 208) = .bool false := ((hρ _ (by simp [Op.operands])).trans (by kernel_rfl : Spec.look _ _ _ v (.tmp 208) = v 39)).trans s39
        have c0 : ρ (.const (Value.bool true)) = (Value.bool true) := (hρ _ (by simp [Op.operands])).trans (by kernel_rfl)
        clear hρ hS
        go_simp
        exact hK _ _ hC (Below.refl _ _) rfl
      · -- 41: Op.move (Operand.tmp 209)
        refine Spec.tell rfl fun v w hC hS ρ hρ K hK => ?_
        have s40 : v 40 = .bool false := hS 40 rfl
        have r209 : ρ (.tmp 209) = .bool false := ((hρ _ (by simp [Op.operands])).trans (by kernel_rfl : Spec.look _ _ _ v (.tmp 209) = v 40)).trans s40
        clear hρ hS
        go_simp
        exact hK _ _ hC (Below.refl _ _) rfl
      · -- 42: Op.move (Operand.tmp 12)
        refine Spec.tellG 41 false rfl (fun v w hC hS hG ρ hρ K hK => ?_) (fun v w hC hS hG => ?_)
        · have s41 : v 41 = .bool false := hS 41 rfl
          have r12 : ρ (.tmp 12) = .int .i64 wd := (hρ _ (by simp [Op.operands])).trans (by kernel_rfl)
          clear hρ hS
          go_simp
          exact hK _ _ hC (Below.refl _ _) rfl
        · have s41 : v 41 = .bool false := hS 41 rfl
          exact absurd s41 hG
      · -- 43: Op.fieldAddr 38 (Operand.tmp 10) 2
        refine Spec.tellG 41 false rfl (fun v w hC hS hG ρ hρ K hK => ?_) (fun v w hC hS hG => ?_)
        · have s41 : v 41 = .bool false := hS 41 rfl
          have r10 : ρ (.tmp 10) = .pointer (some ⟨pb, 0, none⟩) := (hρ _ (by simp [Op.operands])).trans (by kernel_rfl)
          clear hρ hS
          go_simp
          exact hK _ _ hC (Below.refl _ _) rfl
        · have s41 : v 41 = .bool false := hS 41 rfl
          exact absurd s41 hG
      · -- 44: Op.load 3 (Operand.tmp 212)
        refine Spec.tellG 41 false rfl (fun v w hC hS hG ρ hρ K hK => ?_) (fun v w hC hS hG => ?_)
        · have s41 : v 41 = .bool false := hS 41 rfl
          have s43 : v 43 = .pointer (some ⟨pb, 2, none⟩) := hS 43 rfl
          have r212 : ρ (.tmp 212) = .pointer (some ⟨pb, 2, none⟩) := ((hρ _ (by simp [Op.operands])).trans (by kernel_rfl : Spec.look _ _ _ v (.tmp 212) = v 43)).trans s43
          clear hρ hS
          have p2 := (blk_cell (blk_below HP.out hC) 2).trans rfl
          go_simp
          exact hK _ _ hC (Below.refl _ _) rfl
        · have s41 : v 41 = .bool false := hS 41 rfl
          have s43 : v 43 = .pointer (some ⟨pb, 2, none⟩) := hS 43 rfl
          exact absurd s41 hG
      · -- 45: Op.move (Operand.tmp 3)
        refine Spec.tellG 41 false rfl (fun v w hC hS hG ρ hρ K hK => ?_) (fun v w hC hS hG => ?_)
        · have s41 : v 41 = .bool false := hS 41 rfl
          have r3 : ρ (.tmp 3) = .int .i64 i := (hρ _ (by simp [Op.operands])).trans (by kernel_rfl)
          clear hρ hS
          go_simp
          exact hK _ _ hC (Below.refl _ _) rfl
        · have s41 : v 41 = .bool false := hS 41 rfl
          exact absurd s41 hG
      · -- 46: Op.binOp BinOp.quo 3 (Operand.tmp 214) (Operand.const (Value.int IntKind.i64 64)) 3
        refine Spec.tellG 41 false rfl (fun v w hC hS hG ρ hρ K hK => ?_) (fun v w hC hS hG => ?_)
        · have s41 : v 41 = .bool false := hS 41 rfl
          have s45 : v 45 = .int .i64 i := hS 45 rfl
          have r214 : ρ (.tmp 214) = .int .i64 i := ((hρ _ (by simp [Op.operands])).trans (by kernel_rfl : Spec.look _ _ _ v (.tmp 214) = v 45)).trans s45
          have c0 : ρ (.const (Value.int IntKind.i64 64)) = (Value.int IntKind.i64 64) := (hρ _ (by simp [Op.operands])).trans (by kernel_rfl)
          clear hρ hS
          have aq := HN.out.aq
          have aq1 := HN.out.aq1
          go_simp
          exact hK _ _ hC (Below.refl _ _) rfl
        · have s41 : v 41 = .bool false := hS 41 rfl
          have s45 : v 45 = .int .i64 i := hS 45 rfl
          exact absurd s41 hG
      · -- 47: Op.binOp BinOp.add 3 (Operand.tmp 213) (Operand.tmp 215) 3
        refine Spec.tellG 41 false rfl (fun v w hC hS hG ρ hρ K hK => ?_) (fun v w hC hS hG => ?_)
        · have s41 : v 41 = .bool false := hS 41 rfl
          have s44 : v 44 = .int .i64 bm := hS 44 rfl
          have s46 : v 46 = .int .i64 q64 := hS 46 rfl
          have r213 : ρ (.tmp 213) = .int .i64 bm := ((hρ _ (by simp [Op.operands])).trans (by kernel_rfl : Spec.look _ _ _ v (.tmp 213) = v 44)).trans s44
          have r215 : ρ (.tmp 215) = .int .i64 q64 := ((hρ _ (by simp [Op.operands])).trans (by kernel_rfl : Spec.look _ _ _ v (.tmp 215) = v 46)).trans s46
          clear hρ hS
          have aw := HN.out.aw
          go_simp
          exact hK _ _ hC (Below.refl _ _) rfl
        · have s41 : v 41 = .bool false := hS 41 rfl
          have s44 : v 44 = .int .i64 bm := hS 44 rfl
          have s46 : v 46 = .int .i64 q64 := hS 46 rfl
          exact absurd s41 hG
      · -- 48: Op.move (Operand.tmp 3)
        refine Spec.tellG 41 false rfl (fun v w hC hS hG ρ hρ K hK => ?_) (fun v w hC hS hG => ?_)
        · have s41 : v 41 = .bool false := hS 41 rfl
          have r3 : ρ (.tmp 3) = .int .i64 i := (hρ _ (by simp [Op.operands])).trans (by kernel_rfl)
          clear hρ hS
          go_simp
          exact hK _ _ hC (Below.refl _ _) rfl
        · have s41 : v 41 = .bool false := hS 41 rfl
          exact absurd s41 hG
      · -- 49: Op.move (Operand.tmp 0)
        refine Spec.tellG 41 false rfl (fun v w hC hS hG ρ hρ K hK => ?_) (fun v w hC hS hG => ?_)
        · have s41 : v 41 = .bool false := hS 41 rfl
          have r0 : ρ (.tmp 0) = .int .i64 n := (hρ _ (by simp [Op.operands])).trans (by kernel_rfl)
          clear hρ hS
          go_simp
          exact hK _ _ hC (Below.refl _ _) rfl
        · have s41 : v 41 = .bool false := hS 41 rfl
          exact absurd s41 hG
      · -- 50: Op.call { callee := Callee.value (Operand.func 22), args := #[Operand.tmp 216, Operand.tmp
        refine Spec.tellG 41 false rfl (fun v w hC hS hG ρ hρ K hK => ?_) (fun v w hC hS hG => ?_)
        · have s41 : v 41 = .bool false := hS 41 rfl
          have s47 : v 47 = .int .i64 (bm + q64) := hS 47 rfl
          have s48 : v 48 = .int .i64 i := hS 48 rfl
          have s49 : v 49 = .int .i64 n := hS 49 rfl
          have r216 : ρ (.tmp 216) = .int .i64 (bm + q64) := ((hρ _ (by simp [Op.operands, Call.operands])).trans (by kernel_rfl : Spec.look _ _ _ v (.tmp 216) = v 47)).trans s47
          have r217 : ρ (.tmp 217) = .int .i64 i := ((hρ _ (by simp [Op.operands, Call.operands])).trans (by kernel_rfl : Spec.look _ _ _ v (.tmp 217) = v 48)).trans s48
          have r218 : ρ (.tmp 218) = .int .i64 n := ((hρ _ (by simp [Op.operands, Call.operands])).trans (by kernel_rfl : Spec.look _ _ _ v (.tmp 218) = v 49)).trans s49
          have f22 : ρ (.func 22) = .func (.func 22) #[] #[] := (hρ _ (by simp [Op.operands, Call.operands])).trans (by kernel_rfl)
          clear hρ hS
          go_simp
          exact (cantlelaw04_in.calls _ i n _ _ HN.out.f4).mono fun e w' ⟨h1, h2⟩ => ⟨_, h1, hK _ _ (below_then hC hC.size h2.below) h2.below rfl⟩
        · have s41 : v 41 = .bool false := hS 41 rfl
          have s47 : v 47 = .int .i64 (bm + q64) := hS 47 rfl
          have s48 : v 48 = .int .i64 i := hS 48 rfl
          have s49 : v 49 = .int .i64 n := hS 49 rfl
          exact absurd s41 hG
      · -- 51: Op.binOp BinOp.neq 3 (Operand.tmp 211) (Operand.tmp 219) 3
        refine Spec.tellG 41 false rfl (fun v w hC hS hG ρ hρ K hK => ?_) (fun v w hC hS hG => ?_)
        · have s41 : v 41 = .bool false := hS 41 rfl
          have s42 : v 42 = .int .i64 wd := hS 42 rfl
          have s50 : v 50 = .int .i64 wd := hS 50 rfl
          have r211 : ρ (.tmp 211) = .int .i64 wd := ((hρ _ (by simp [Op.operands])).trans (by kernel_rfl : Spec.look _ _ _ v (.tmp 211) = v 42)).trans s42
          have r219 : ρ (.tmp 219) = .int .i64 wd := ((hρ _ (by simp [Op.operands])).trans (by kernel_rfl : Spec.look _ _ _ v (.tmp 219) = v 50)).trans s50
          clear hρ hS
          go_simp
          exact hK _ _ hC (Below.refl _ _) rfl
        · have s41 : v 41 = .bool false := hS 41 rfl
          have s42 : v 42 = .int .i64 wd := hS 42 rfl
          have s50 : v 50 = .int .i64 wd := hS 50 rfl
          exact absurd s41 hG
      · -- 52: Op.pick (Operand.tmp 210) (Operand.const (Value.bool true)) (Operand.tmp 220)
        refine Spec.tell rfl fun v w hC hS ρ hρ K hK => ?_
        have s41 : v 41 = .bool false := hS 41 rfl
        have s51 : v 51 = .bool false := hS 51 rfl
        have r210 : ρ (.tmp 210) = .bool false := ((hρ _ (by simp [Op.operands])).trans (by kernel_rfl : Spec.look _ _ _ v (.tmp 210) = v 41)).trans s41
        have r220 : ρ (.tmp 220) = .bool false := ((hρ _ (by simp [Op.operands])).trans (by kernel_rfl : Spec.look _ _ _ v (.tmp 220) = v 51)).trans s51
        have c0 : ρ (.const (Value.bool true)) = (Value.bool true) := (hρ _ (by simp [Op.operands])).trans (by kernel_rfl)
        clear hρ hS
        go_simp
        exact hK _ _ hC (Below.refl _ _) rfl
    case end_15 =>
      intro v w' hC hS
      have s52 : v 52 = .bool false := hS 52 (by decide)
      clear hS
      simp only [Spec.putAll, Act.put, List.setIfInBounds_toArray, List.set_cons_zero, List.set_cons_succ]
      generalize v 0 = x0
      generalize v 1 = x1
      generalize v 2 = x2
      generalize v 3 = x3
      generalize v 4 = x4
      generalize v 5 = x5
      generalize v 6 = x6
      generalize v 7 = x7
      generalize v 8 = x8
      generalize v 9 = x9
      generalize v 10 = x10
      generalize v 11 = x11
      generalize v 12 = x12
      generalize v 13 = x13
      generalize v 14 = x14
      generalize v 15 = x15
      generalize v 16 = x16
      generalize v 17 = x17
      generalize v 18 = x18
      generalize v 19 = x19
      generalize v 20 = x20
      generalize v 21 = x21
      generalize v 22 = x22
      generalize v 23 = x23
      generalize v 24 = x24
      generalize v 25 = x25
      generalize v 26 = x26
      generalize v 27 = x27
      generalize v 28 = x28
      generalize v 29 = x29
      generalize v 30 = x30
      generalize v 31 = x31
      generalize v 32 = x32
      generalize v 33 = x33
      generalize v 34 = x34
      generalize v 35 = x35
      generalize v 36 = x36
      generalize v 37 = x37
      generalize v 38 = x38
      generalize v 39 = x39
      generalize v 40 = x40
      generalize v 41 = x41
      generalize v 42 = x42
      generalize v 43 = x43
      generalize v 44 = x44
      generalize v 45 = x45
      generalize v 46 = x46
      generalize v 47 = x47
      generalize v 48 = x48
      generalize v 49 = x49
      generalize v 50 = x50
      generalize v 51 = x51
      rw [s52]; clear s52
      have HBz := Aside0.mk (below_then HB.out HB.out.size hC)
      rcases HBT.out with ⟨h1, h2⟩ | ⟨h1, h2⟩
      · subst h2
        have d1 : decide (n ≤ i) = true := decide_eq_true h1
        have d2 : decide (i < n) = false := decide_eq_false (by omega)
        clear h1
        go_wp2_with fail
        go_ret
        exact ⟨rfl, HBz.out⟩
      · have d1 : decide (n ≤ i) = false := decide_eq_false (by omega)
        have d2 : decide (i < n) = true := decide_eq_true h1
        have d3 : (bt == Int.tmod i 64) = true := by rw [beq_iff_eq]; exact h2
        have d4 : (bt = Int.tmod i 64) = True := eq_true h2
        clear h1 h2
        go_wp2_with fail
        go_ret
        exact ⟨rfl, HBz.out⟩
end Go.Proofs.Ytcankokamleloaa.Gp
