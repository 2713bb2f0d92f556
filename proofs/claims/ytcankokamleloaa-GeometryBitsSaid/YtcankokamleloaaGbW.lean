/- GeometryBits: the walk. Conditions: as each lemma says. -/
import Derived.Test.YtcankokamleloaaGbM
import Derived.Test.YtcankokamleloaaSpecL
import Derived.Deep.QuietTactic
import Derived.BigQuiet
namespace Go.Proofs.Ytcankokamleloaa.Gb
open Go.RowKit Go.Proofs.Ytcankokamleloaa Go.Proofs.Ytcankokamleloaa.PAll Go.Proofs.Ytcankokamleloaa.Gp Go.Proofs.YtcankokamleloaaW.PrintWords Go.Proofs.YtcankokamleloaaW.PrintLast Go.Proofs.YtcankokamleloaaW.PrintMore
set_option linter.unusedVariables false
theorem make_run (W : World) : (Instr.makeMap 30 none).run Try.prog W = .ok (.map (some W.heap.size)) (W.alloc (.map #[] 0)) := rfl
theorem lives7 (w : World) : Calls Try.prog 7 #[] w fun e w' => e = .returned (.bool true) ∧ Below w.heap.size w w' := cantlelaw04_Lives.calls true w (by decide +kernel)
theorem small_mayG (n m z : Int) (h : (1 ≤ n ∧ n ≤ 256) ∧ (1 ≤ m ∧ m ≤ 256)) (hz : z = 64 ∨ z = 128 ∨ z = 256) : mayG n m z := by
  have ho : okG n m z := ⟨by omega, by omega, by unfold szG; omega⟩
  have h1 := small_may n m z h hz
  rw [may_sz n m z ho] at h1
  exact ⟨ho, of_decide_eq_true (Option.some.inj h1)⟩
/-- The map behind the look-up, the entry, the store. -/
def stage (es : Array MapEntry) (b : Nat) (X Y : Int) (l6 l8 : Bool) : Obj :=
  if l8 then .map (es.push ⟨kv X Y, .int .i64 1, b⟩) (b + 1) else if l6 then .map (es.push ⟨kv X Y, .int .i64 0, b⟩) (b + 1) else .map es b
theorem look_stage {es : Array MapEntry} {b mb : Nat} {X Y : Int} {l6 : Bool} {w : World} (r1 : ∀ (W : World) (h : W.heap[mb]? = some (.map es b)), (Instr.lookup 30 (.map (some mb)) (kv X Y) false).run Try.prog W = .ok (.int .i64 0) W)
    (r2 : ∀ (W : World) (h : W.heap[mb]? = some (.map (es.push ⟨kv X Y, .int .i64 0, b⟩) (b + 1))), (Instr.lookup 30 (.map (some mb)) (kv X Y) false).run Try.prog W = .ok (.int .i64 0) W)
    (h : w.heap[mb]? = some (stage es b X Y l6 false)) : (Instr.lookup 30 (.map (some mb)) (kv X Y) false).run Try.prog w = .ok (.int .i64 0) w := by
  cases l6
  · exact r1 w h
  · exact r2 w h
set_option maxRecDepth 100000 in
set_option maxHeartbeats 8000000 in
theorem bits_all (a0 a1 a2 : Int) (w0 : World) (h0 : 0 ≤ a0 ∧ a0 < 256) (h1 : 0 ≤ a1 ∧ a1 < 256) (h2 : 0 ≤ a2 ∧ a2 < 256) :
    Calls Try.prog 4 #[.int .u8 a0, .int .u8 a1, .int .u8 a2] w0 fun e w' => e = .returned (.bool true) ∧ Below w0.heap.size w0 w' := by
  obtain ⟨z, hz, hs⟩ := small_is a0 a1 a2 h0 h1 h2
  have hm := small_mayG (1 + a0) (1 + a1) z ⟨by omega, by omega⟩ hz
  obtain ⟨N, hN⟩ := Int.eq_ofNat_of_zero_le (show 0 ≤ 1 + a0 by omega)
  have hN2 : N ≤ 256 := by omega
  rw [hN] at hs hm
  generalize 1 + a1 = M at hs hm
  obtain ⟨_, _, _, s4, _⟩ := super_yes (N : Int) M z hm
  have hbm := bm_range (N : Int) M ⟨hm.1.1, hm.1.2.1⟩
  have hbw := bw_range (N : Int) hm.1.1
  have hbit := fun (b : Nat) (hb : b < N) => bit_yes (N : Int) M z (b : Int) hm (by omega) (by omega)
  have hbw2 : (N : Int) ≤ 64 * bwG (N : Int) := by unfold bwG; omega
  generalize bmG (N : Int) M = bm at s4 hbm hbit
  generalize bwG (N : Int) = bw at s4 hbw hbw2
  have HS := Aside0.mk hs
  have HBT := Aside0.mk hbit
  have H4 := Aside0.mk s4
  have HR := Aside0.mk (And.intro hbm (And.intro hbw hbw2))
  clear h0 h1 h2 hz hs hm hN s4 hbm hbw hbit hbw2
  go_enter Try.func4, Try.ntmps4
  go_wp2_with fail
  refine (lives7 _).mono ?_
  rintro e w1 ⟨rfl, hb⟩
  have HB0 := Aside0.mk hb
  clear hb
  go_wp2_with fail
  refine (cantlelaw04_small.calls a0 a1 a2 _ _ _ _ HS.out).mono ?_
  rintro e w2 ⟨rfl, hb⟩
  have HB2 := Aside0.mk (below_then HB0.out HB0.out.size hb)
  clear hb HB0
  go_wp2_with fail
  have HG0 := Aside0.mk (heap_alloc_new w2 (.cells #[.int .i64 (N : Int), .int .i64 M, .int .i64 z] 24))
  refine (geometry_Geometry_Bitmap.calls (N : Int) M z _ _ _ H4.out).mono ?_
  rintro e w3 ⟨rfl, hb⟩
  have HG := Aside0.mk (blk_below HG0.out hb)
  have HB3 := Aside0.mk (below_then (below_alloc HB2.out _) (below_alloc HB2.out _).size hb)
  clear hb HB2 HG0
  generalize w2.heap.size = gb at HG ⊢
  have hmk : ∀ W : World, (Instr.makeMap 30 none).run Try.prog W = .ok (.map (some W.heap.size)) (W.alloc (.map #[] 0)) := make_run
  have q0 := fun (o : Obj) => (blk_cell (blk_alloc HG.out o) 0).trans rfl
  go_wp2_with fail
  clear q0 hmk
  have HG4 := Aside0.mk (blk_alloc HG.out (.map #[] 0))
  have HM4 := Aside0.mk (show ∃ es, (w3.alloc (.map #[] 0)).heap[w3.heap.size]? = some (.map es 0) ∧ Inv bm 0 es from ⟨#[], heap_alloc_new w3 (.map #[] 0), Inv.nil bm⟩)
  have HB4 := Aside0.mk (below_alloc HB3.out (.map #[] 0))
  have HMG := Aside0.mk (show gb ≠ w3.heap.size ∧ w0.heap.size ≤ w3.heap.size from ⟨by have := blk_lt HG.out; omega, HB3.out.size⟩)
  generalize w3.alloc (.map #[] 0) = w4 at HG4 HM4 HB4 ⊢
  generalize w3.heap.size = mb at HM4 HMG ⊢
  clear HG HB3
  go_loopw [28] (fun v28 wr => ∃ b : Nat, b ≤ N ∧ v28 = .int .i64 b ∧ Aside0 (wr.heap[gb]? = some (.cells #[.int .i64 (N : Int), .int .i64 M, .int .i64 z] 24 (0, 0))) ∧ Aside0 (∃ es, wr.heap[mb]? = some (.map es b) ∧ Inv bm b es) ∧ Aside0 (Below w0.heap.size w0 wr)) (fun v28 _ => N - (intOf v28).toNat)
  case atStart => exact ⟨0, Nat.zero_le _, rfl, HG4, HM4, HB4⟩
  case round =>
    obtain ⟨b, hb, rfl, HGr, HMr, HBr⟩ := hrel
    clear HG4 HM4 HB4
    have g0 := (blk_cell HGr.out 0).trans rfl
    have g1 := (blk_cell HGr.out 1).trans rfl
    have g2 := (blk_cell HGr.out 2).trans rfl
    by_cases hlt : b < N
    · have dlt : decide ((b : Int) < (N : Int)) = true := decide_eq_true (by omega)
      go_wp2_with fail
      refine (geometry_Geometry_Bit.calls (N : Int) M z (b : Int) _ _ _ (HBT.out b hlt)).mono ?_
      rintro e w5 ⟨rfl, hbb⟩
      have HG5 := Aside0.mk (blk_below HGr.out hbb)
      obtain ⟨es, hes, hinv⟩ := HMr.out
      have hes5 := (hbb.block mb ((Array.getElem?_eq_some_iff.1 hes).1)).trans hes
      have HB5 := Aside0.mk (below_then HBr.out HBr.out.size hbb)
      have hr := HR.out
      have ed : (b : Int) / 64 = ((b / 64 : Nat) : Int) := by omega
      have em : (b : Int) % 64 = ((b % 64 : Nat) : Int) := by omega
      rw [ed, em]
      have hX : bm ≤ bm + ((b / 64 : Nat) : Int) ∧ bm + ((b / 64 : Nat) : Int) < bm + bw := by omega
      have hY : ((b % 64 : Nat) : Int) < 64 := by omega
      have hXw := wf_mk (x := bm + ((b / 64 : Nat) : Int)) (by omega) (by omega)
      have hYw := wf_mk (x := ((b % 64 : Nat) : Int)) (by omega) (by omega)
      have hk := hinv.some_ (by omega) (by omega) (by omega)
      have hn := hinv.fresh
      have r1 := Aside0.mk (fun (W : World) (h : W.heap[mb]? = some (.map es b)) => lookup_new h hXw hYw hk hn)
      have r2 := Aside0.mk (fun (W : World) (h : W.heap[mb]? = some (.map (es.push ⟨kv (bm + ((b / 64 : Nat) : Int)) ((b % 64 : Nat) : Int), .int .i64 0, b⟩) (b + 1))) => lookup_zero h hXw hYw hk hn)
      have r3 := Aside0.mk (fun (W : World) (h : W.heap[mb]? = some (.map es b)) => entry_new h hXw hYw hk hn)
      have r4 := Aside0.mk (fun (W : World) (v : Value) (h : W.heap[mb]? = some (.map (es.push ⟨kv (bm + ((b / 64 : Nat) : Int)) ((b % 64 : Nat) : Int), .int .i64 0, b⟩) (b + 1))) => store_new h hinv.born v)
      have HINV := Aside0.mk (hinv.push (.int .i64 1))
      have HES := Aside0.mk hes5
      have HLT := Aside0.mk hlt
      generalize hXe : bm + ((b / 64 : Nat) : Int) = X at *
      generalize hYe : ((b % 64 : Nat) : Int) = Y at *
      have dX : decide (X < bm) = false := decide_eq_false (by omega)
      have eX : IntKind.i64.wrap (bm + bw) = bm + bw := by rw [IntKind.wrap_i64]; omega
      have dX2 : decide (bm + bw ≤ X) = false := decide_eq_false (by omega)
      have dY : decide (Y < 0) = false := decide_eq_false (by omega)
      have dY2 : decide (63 < Y) = false := decide_eq_false (by omega)
      clear hr ed em hX hY hXw hYw hk hn hXe hYe hes hes5 hinv hlt hbb g0 g1 g2 HGr HMr HBr
      go_wp2_with fail
      refine Spec.wp_toldL (F := fun j => [0, 0, 0, 6, 15, 31, 15, 79, 255].getD j 0) (C := fun L W => (W.heap[gb]? = some (.cells #[.int .i64 (N : Int), .int .i64 M, .int .i64 z] 24 (0, 0)) ∧ Below w0.heap.size w0 W) ∧ W.heap[mb]? = some (stage es b X Y (L 6) (L 8))) (S := Spec.at_ [fun u W => u = .map (some mb), fun u W => u = .int .i64 X, fun u W => u = .int .i64 Y, fun u W => u = kv X Y, fun u W => u = .int .i64 0, fun u W => u = .int .i64 1, fun u W => u = .tuple #[.int .i64 0, .int .i64 (b : Int)], fun u W => u = .int .i64 (b : Int), fun u W => True]) (Kp := fun W W' => True) (by kernel_rfl) (by kernel_rfl) (Spec.AllStay.at_ ?stay_12) ?cong_12 ?start_12 ?ops_12 ?end_12
      case cong_12 =>
        intro L L' w h hC; rw [← h 6 (by decide), ← h 8 (by decide)]; exact hC
      case stay_12 =>
        exact ⟨fun _ _ _ _ h => h, fun _ _ _ _ h => h, fun _ _ _ _ h => h, fun _ _ _ _ h => h, fun _ _ _ _ h => h, fun _ _ _ _ h => h, fun _ _ _ _ h => h, fun _ _ _ _ h => h, fun _ _ _ _ h => h, trivial⟩
      case start_12 =>
        exact ⟨⟨HG5.out, below_drew HB5.out⟩, HES.out⟩
      case ops_12 =>
        refine ⟨?_, ?_, ?_, ?_, ?_, ?_, ?_, ?_, ?_, trivial⟩
        · -- 0: Op.move (Operand.tmp 10)
          refine Spec.tellL rfl fun L v w hC hLj hS hLd ρ hρ K hK => ?_
          have r10 : ρ (.tmp 10) = .map (some mb) := (hρ _ (by simp [Op.operands])).trans (by kernel_rfl)
          clear hρ hS
          go_simp
          exact hK _ _ hC (trivial) rfl
        · -- 1: Op.move (Operand.tmp 12)
          refine Spec.tellL rfl fun L v w hC hLj hS hLd ρ hρ K hK => ?_
          have r12 : ρ (.tmp 12) = .int .i64 X := (hρ _ (by simp [Op.operands])).trans (by kernel_rfl)
          clear hρ hS
          go_simp
          exact hK _ _ hC (trivial) rfl
        · -- 2: Op.move (Operand.tmp 13)
          refine Spec.tellL rfl fun L v w hC hLj hS hLd ρ hρ K hK => ?_
          have r13 : ρ (.tmp 13) = .int .i64 Y := (hρ _ (by simp [Op.operands])).trans (by kernel_rfl)
          clear hρ hS
          go_simp
          exact hK _ _ hC (trivial) rfl
        · -- 3: Op.build 32 #[(0, Operand.tmp 56), (1, Operand.tmp 57)]
          refine Spec.tellL rfl fun L v w hC hLj hS hLd ρ hρ K hK => ?_
          have s1 : v 1 = .int .i64 X := (hS 1 rfl).2
          have s2 : v 2 = .int .i64 Y := (hS 2 rfl).2
          have r56 : ρ (.tmp 56) = .int .i64 X := ((hρ _ (by simp [Op.operands])).trans (by kernel_rfl : Spec.look _ _ _ v (.tmp 56) = v 1)).trans s1
          have r57 : ρ (.tmp 57) = .int .i64 Y := ((hρ _ (by simp [Op.operands])).trans (by kernel_rfl : Spec.look _ _ _ v (.tmp 57) = v 2)).trans s2
          clear hρ hS
          go_simp
          exact hK _ _ hC (trivial) rfl
        · -- 4: Op.lookup 30 (Operand.tmp 55) (Operand.tmp 58) false
          refine Spec.tellL rfl fun L v w hC hLj hS hLd ρ hρ K hK => ?_
          have s0 : v 0 = .map (some mb) := (hS 0 rfl).2
          have s3 : v 3 = kv X Y := (hS 3 rfl).2
          have r55 : ρ (.tmp 55) = .map (some mb) := ((hρ _ (by simp [Op.operands])).trans (by kernel_rfl : Spec.look _ _ _ v (.tmp 55) = v 0)).trans s0
          have r58 : ρ (.tmp 58) = kv X Y := ((hρ _ (by simp [Op.operands])).trans (by kernel_rfl : Spec.look _ _ _ v (.tmp 58) = v 3)).trans s3
          clear hρ hS
          have l8 := hLd 8 (by decide) (by decide)
          have hr : (Instr.lookup 30 (.map (some mb)) (kv X Y) false).run Try.prog w = .ok (.int .i64 0) w := look_stage r1.out r2.out (by have := hC.2; rw [l8] at this; exact this)
          go_simp
          exact hK _ _ hC (trivial) rfl
        · -- 5: Op.binOp BinOp.add 3 (Operand.tmp 59) (Operand.const (Value.int IntKind.i64 1)) 3
          refine Spec.tellL rfl fun L v w hC hLj hS hLd ρ hρ K hK => ?_
          have s4 : v 4 = .int .i64 0 := (hS 4 rfl).2
          have r59 : ρ (.tmp 59) = .int .i64 0 := ((hρ _ (by simp [Op.operands])).trans (by kernel_rfl : Spec.look _ _ _ v (.tmp 59) = v 4)).trans s4
          have c0 : ρ (.const (Value.int IntKind.i64 1)) = (Value.int IntKind.i64 1) := (hρ _ (by simp [Op.operands])).trans (by kernel_rfl)
          clear hρ hS
          go_simp
          exact hK _ _ hC (trivial) rfl
        · -- 6: Op.mapEntry 30 (Operand.tmp 55) (Operand.tmp 58)
          refine Spec.tellL rfl fun L v w hC hLj hS hLd ρ hρ K hK => ?_
          have s0 : v 0 = .map (some mb) := (hS 0 rfl).2
          have s3 : v 3 = kv X Y := (hS 3 rfl).2
          have r55 : ρ (.tmp 55) = .map (some mb) := ((hρ _ (by simp [Op.operands])).trans (by kernel_rfl : Spec.look _ _ _ v (.tmp 55) = v 0)).trans s0
          have r58 : ρ (.tmp 58) = kv X Y := ((hρ _ (by simp [Op.operands])).trans (by kernel_rfl : Spec.look _ _ _ v (.tmp 58) = v 3)).trans s3
          clear hρ hS
          have l8 := hLd 8 (by decide) (by decide)
          have hC2 := hC.2
          rw [l8, hLj] at hC2
          have hr := r3.out w hC2
          go_simp
          exact hK _ _ ⟨⟨(putMap_far HMG.out.1).trans hC.1.1, putMap_below _ _ hC.1.2 HMG.out.2⟩, by show _ = some (stage es b X Y true (L 8)); rw [l8]; exact putMap_at hC2⟩ trivial rfl
        · -- 7: Op.extract (Operand.tmp 61) 1
          refine Spec.tellL rfl fun L v w hC hLj hS hLd ρ hρ K hK => ?_
          have s6 : v 6 = .tuple #[.int .i64 0, .int .i64 (b : Int)] := (hS 6 rfl).2
          have r61 : ρ (.tmp 61) = .tuple #[.int .i64 0, .int .i64 (b : Int)] := ((hρ _ (by simp [Op.operands])).trans (by kernel_rfl : Spec.look _ _ _ v (.tmp 61) = v 6)).trans s6
          clear hρ hS
          go_simp
          exact hK _ _ hC (trivial) rfl
        · -- 8: Op.entryStore 30 (Operand.tmp 55) (Operand.tmp 62) (Operand.tmp 60)
          refine Spec.tellL rfl fun L v w hC hLj hS hLd ρ hρ K hK => ?_
          have s0 : v 0 = .map (some mb) := (hS 0 rfl).2
          have s5 : v 5 = .int .i64 1 := (hS 5 rfl).2
          have s7 : v 7 = .int .i64 (b : Int) := (hS 7 rfl).2
          have r55 : ρ (.tmp 55) = .map (some mb) := ((hρ _ (by simp [Op.operands])).trans (by kernel_rfl : Spec.look _ _ _ v (.tmp 55) = v 0)).trans s0
          have r62 : ρ (.tmp 62) = .int .i64 (b : Int) := ((hρ _ (by simp [Op.operands])).trans (by kernel_rfl : Spec.look _ _ _ v (.tmp 62) = v 7)).trans s7
          have r60 : ρ (.tmp 60) = .int .i64 1 := ((hρ _ (by simp [Op.operands])).trans (by kernel_rfl : Spec.look _ _ _ v (.tmp 60) = v 5)).trans s5
          have l6 : L 6 = true := (hS 6 rfl).1
          clear hρ hS
          have hC2 := hC.2
          rw [l6, hLj] at hC2
          have hr := r4.out w (.int .i64 1) hC2
          go_simp
          exact hK _ _ ⟨⟨(putMap_far HMG.out.1).trans hC.1.1, putMap_below _ _ hC.1.2 HMG.out.2⟩, putMap_at hC2⟩ trivial trivial
      case end_12 =>
        intro v w' hC hS
        clear hS
        simp only [Spec.putAll, Act.put, List.setIfInBounds_toArray, List.set_cons_zero, List.set_cons_succ]
        generalize v 0 = x0
        generalize v 1 = x1
        generalize v 2 = x2
        generalize v 3 = x3
        generalize v 4 = x4
        generalize v 5 = x5
        generalize v 6 = x6
        generalize v 7 = x7
        have HLT' := HLT.out
        go_wp2_with fail
        go_roundw
        case rel => exact ⟨b + 1, by omega, by go_num, ⟨hC.1.1⟩, ⟨_, hC.2, HINV.out⟩, ⟨hC.1.2⟩⟩
        case measure => simp [intOf]; omega
    · obtain rfl : b = N := by omega
      have dlt : decide ((b : Int) < (b : Int)) = false := decide_eq_false (by omega)
      obtain ⟨es, hes, hinv⟩ := HMr.out
      have hl := fun ty => len_run hes ty
      rw [hinv.size] at hl
      go_wp2_with fail
      go_ret
      exact ⟨rfl, HBr.out⟩
end Go.Proofs.Ytcankokamleloaa.Gb
