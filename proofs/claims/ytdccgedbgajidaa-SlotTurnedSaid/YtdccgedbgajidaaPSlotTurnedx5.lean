-- Laid by a program of this session (wip/tools), out of the translation; proved by Lean.
import Derived.Test.YtdccgedbgajidaaPSlotTurnedx0
import Derived.Test.YtdccgedbgajidaaPSlotTurnedx1
import Derived.Test.YtdccgedbgajidaaPSlotTurnedx3
import Derived.Test.YtdccgedbgajidaaPSlotTurnedx4
namespace Go.Proofs.Ytdccgedbgajidaa.PSlotTurned
open Go.RowKit Go.Proofs.YtdccgedbgajidaaW.PrintWords Go.Proofs.YtdccgedbgajidaaW.PrintLast Go.Proofs.YtdccgedbgajidaaW.PrintMore
attribute [local go_sem] max2_int min2_int max_two min_two max_three min_three max_four min_four   -- for this text's walks alone
set_option linter.unusedVariables false
set_option linter.unusedSimpArgs false

attribute [local go_sem high] eqA25
/-! ### cantlelaw07_SlotTurned: function 4 -/
def cantlelaw07_SlotTurned.l0 : Nat → Int → Int → Int → Int → Int → Option (Bool)
  | 0, _, _, _, _, _ => none
  | k + 1, x3, x4, x12, x14, x41 => if x41 < 16 then (if (wrap64 ((wrap64 (Int.tmod x3 64)) + x41)) < 48 then (if 0 ≤ x41 then (if (Go.bits .and .u16 (shr .u16 x4 x41) 1) = 1 then (if 0 ≤ (wrap64 ((wrap64 ((wrap64 (8 * (wrap64 (Int.tdiv (wrap64 ((wrap64 (Int.tmod x3 64)) + x41)) 8)))) + 7)) - (Int.tmod (wrap64 ((wrap64 (Int.tmod x3 64)) + x41)) 8))) then (cantlelaw07_SlotTurned.l0 k x3 x4 x12 (Go.bits .xor .u64 x14 (shl .u64 1 (wrap64 ((wrap64 ((wrap64 (8 * (wrap64 (Int.tdiv (wrap64 ((wrap64 (Int.tmod x3 64)) + x41)) 8)))) + 7)) - (Int.tmod (wrap64 ((wrap64 (Int.tmod x3 64)) + x41)) 8))))) (wrap64 (x41 + 1))) else (none)) else (cantlelaw07_SlotTurned.l0 k x3 x4 x12 x14 (wrap64 (x41 + 1)))) else (none)) else (cantlelaw07_SlotTurned.l0 k x3 x4 x12 x14 (wrap64 (x41 + 1)))) else (if (Int.tmod x3 64) ≥ 48 then (if (Go.bits .xor .u64 x12 (IntKind.u64.wrap ((IntKind.u64.wrap (x4)) * 281474976710656))) = x12 then (some true) else ((slot_Decode.f k (Go.bits .xor .u64 x12 (IntKind.u64.wrap ((IntKind.u64.wrap (x4)) * 281474976710656)))).bind fun bt169 => (if bt169.2.2.2 = 2 then (some (bt169.1 == 0 && (bt169.2.1 == 0 && (bt169.2.2.1 == 0)))) else (some false)))) else (if x14 = x12 then (some true) else ((slot_Decode.f k x14).bind fun bt174 => (if bt174.2.2.2 = 2 then (some (bt174.1 == 0 && (bt174.2.1 == 0 && (bt174.2.2.1 == 0)))) else (some false)))))
def cantlelaw07_SlotTurned.f (k : Nat) (a0 : Int) (a1 : Int) (a2 : Int) (a3 : Int) (a4 : Int) : Option (Bool) := (cantlelaw07_Lives.f k).bind fun t165 => (if t165 = true then ((slot_Encode.f k (Int.tmod (wrap64 (a0)) 60000) (wrap64 (1 + (Int.tmod (wrap64 (a1)) 5000))) (wrap64 ((Int.tmod (wrap64 (a2)) 65535) - 1))).bind fun bt167 => (if bt167.2 = 0 then (cantlelaw07_SlotTurned.l0 k a3 a4 bt167.1 bt167.1 0) else (some false))) else (some false))
theorem cantlelaw07_SlotTurned.mono_l : ∀ k, (∀ y0 y1 y2 y3 y4, LeO (cantlelaw07_SlotTurned.l0 k y0 y1 y2 y3 y4) (cantlelaw07_SlotTurned.l0 (k + 1) y0 y1 y2 y3 y4))
  | 0 => fun _ _ _ _ _ r h => by simp [cantlelaw07_SlotTurned.l0] at h
  | k + 1 => by
    have ih0 := cantlelaw07_SlotTurned.mono_l k
    · intro y0 y1 y2 y3 y4
      unfold cantlelaw07_SlotTurned.l0
      repeat' first
      | (with_reducible exact ih0 _ _ _ _ _)
      | (with_reducible exact cantlelaw07_Lives.mono _)
      | (with_reducible exact slot_Decode.mono _ _)
      | (with_reducible exact slot_Encode.mono _ _ _ _)
      | (with_reducible exact LeO.refl _)
      | (with_reducible exact LeO.none _)
      | (with_reducible refine LeO.ite ?_ ?_)
      | (with_reducible refine LeO.bind ?_ (fun _ => ?_))
      | exact ih0 _ _ _ _ _
      | exact cantlelaw07_Lives.mono _
      | exact slot_Decode.mono _ _
      | exact slot_Encode.mono _ _ _ _
      | exact LeO.none _
      | refine LeO.ite ?_ ?_
      | refine LeO.bind ?_ (fun _ => ?_)
theorem cantlelaw07_SlotTurned.mono : ∀ a0 a1 a2 a3 a4 k, LeO (cantlelaw07_SlotTurned.f k a0 a1 a2 a3 a4) (cantlelaw07_SlotTurned.f (k + 1) a0 a1 a2 a3 a4) := by
  intro a0 a1 a2 a3 a4 k
  have ih0 := cantlelaw07_SlotTurned.mono_l k
  unfold cantlelaw07_SlotTurned.f
  repeat' first
      | (with_reducible exact ih0 _ _ _ _ _)
      | (with_reducible exact cantlelaw07_Lives.mono _)
      | (with_reducible exact slot_Decode.mono _ _)
      | (with_reducible exact slot_Encode.mono _ _ _ _)
      | (with_reducible exact LeO.refl _)
      | (with_reducible exact LeO.none _)
      | (with_reducible refine LeO.ite ?_ ?_)
      | (with_reducible refine LeO.bind ?_ (fun _ => ?_))
      | exact ih0 _ _ _ _ _
      | exact cantlelaw07_Lives.mono _
      | exact slot_Decode.mono _ _
      | exact slot_Encode.mono _ _ _ _
      | exact LeO.none _
      | refine LeO.ite ?_ ?_
      | refine LeO.bind ?_ (fun _ => ?_)
set_option maxHeartbeats 8000000 in
set_option maxRecDepth 100000 in
theorem cantlelaw07_SlotTurned.calls (k : Nat) (a0 : Int) (a1 : Int) (a2 : Int) (a3 : Int) (a4 : Int) (r : Bool) (w : World) (h : cantlelaw07_SlotTurned.f k a0 a1 a2 a3 a4 = some r) :
    Calls Try.prog 4 #[.int .u16 a0, .int .u16 a1, .int .u16 a2, .int .u8 a3, .int .u16 a4] w fun e w' => e = .returned (.bool r) ∧ Below w.heap.size w w' := by
  have hu25 := Try.underlying25
  have HB := Aside0.mk (Below.refl w.heap.size w)
  have H : ((cantlelaw07_Lives.f k).bind fun t165 => (if t165 = true then ((slot_Encode.f k (Int.tmod (wrap64 (a0)) 60000) (wrap64 (1 + (Int.tmod (wrap64 (a1)) 5000))) (wrap64 ((Int.tmod (wrap64 (a2)) 65535) - 1))).bind fun bt167 => (if bt167.2 = 0 then (cantlelaw07_SlotTurned.l0 k a3 a4 bt167.1 bt167.1 0) else (some false))) else (some false))) = some r := h
  clear h
  replace H := Option.bind_eq_some_iff.mp H
  obtain ⟨t165, A60, H⟩ := H
  replace H : (if t165 = true then ((slot_Encode.f k (Int.tmod (wrap64 (a0)) 60000) (wrap64 (1 + (Int.tmod (wrap64 (a1)) 5000))) (wrap64 ((Int.tmod (wrap64 (a2)) 65535) - 1))).bind fun bt167 => (if bt167.2 = 0 then (cantlelaw07_SlotTurned.l0 k a3 a4 bt167.1 bt167.1 0) else (some false))) else (some false)) = some r := H
  have A6 := Aside0.mk A60
  clear A60
  by_cases c7 : t165 = true
  · subst c7
    have H1 : ((slot_Encode.f k (Int.tmod (wrap64 (a0)) 60000) (wrap64 (1 + (Int.tmod (wrap64 (a1)) 5000))) (wrap64 ((Int.tmod (wrap64 (a2)) 65535) - 1))).bind fun bt167 => (if bt167.2 = 0 then (cantlelaw07_SlotTurned.l0 k a3 a4 bt167.1 bt167.1 0) else (some false))) = some r := by rw [if_pos rfl] at H; exact H
    clear H
    have H := H1
    clear H1
    replace H := Option.bind_eq_some_iff.mp H
    obtain ⟨⟨t167, t168⟩, A80, H⟩ := H
    replace H : (if t168 = 0 then (cantlelaw07_SlotTurned.l0 k a3 a4 t167 t167 0) else (some false)) = some r := H
    have A8 := Aside0.mk A80
    clear A80
    by_cases c9 : t168 = 0
    · rw [if_pos c9] at H
      have c9b0 : (t168 == 0) = true := beq_iff_eq.mpr c9
      have c9b1 : (t168 != 0) = false := bne_eq_false_iff_eq.mpr c9
      clear c9
      have H' := Aside0.mk H
      clear H
      go_enter Try.func4, Try.ntmps4
      go_wp2_with (first | ((with_reducible refine gate_callee (f := 14) rfl ?_); refine goesL_ (some 19) rfl rfl Try.func14 (by kernel_rfl) rfl #[] rfl (by (try simp only [List.map_toArray, List.map_cons, List.map_nil]); first | done | rfl | (simp only [List.length_drop, List.length_take]; rfl)) ?_; (with_reducible refine (cantlelaw07_Lives.calls k  true _ A6.out).mono ?_); rintro e w10 ⟨rfl, hb⟩; refine ⟨_, rfl, ?_⟩; have n0_ := Aside0.mk (below_step (by repeat (first | (with_reducible first | exact HB.out | apply below_alloc | apply pw_below_drewN | apply below_drew1) | exact HB.out)) hb); clear HB; have HB := n0_; clear n0_; (try clear hb); (try clear hb2); (try clear hk); (try clear hi)) | ((with_reducible refine gate_dst (N := 11) rfl ?_); refine box_event ?hg (N := 11) ?hd (cs := #[.int .i64 0, .int .i64 0, .int .i64 0]) (t := 25) ?hr ?_; (case hd => rfl); (case hg => rfl); (case hr => first | (go_simp; done) | (go_simp; rfl)); intro gb166 hg w11 hbox hb; have n0_ := Aside0.mk (below_step (by repeat (first | (with_reducible first | exact HB.out | apply below_alloc | apply pw_below_drewN | apply below_drew1) | exact HB.out)) hb); have n1_ := Aside0.mk (hbox); have n2_ := Aside0.mk ((by rw [hg]; exact (below_size (by repeat (first | (with_reducible first | exact HB.out | apply below_alloc | apply pw_below_drewN | apply below_drew1) | exact HB.out))) : w.heap.size ≤ gb166)); have n3_ := Aside0.mk ((by rw [hg]; exact (below_size (by repeat (first | (with_reducible first | exact HB.out | apply below_alloc | apply pw_below_drewN | apply below_drew1) | exact HB.out))) : w.heap.size ≤ gb166)); clear HB; have HB := n0_; have BK166 := n1_; have GW166 := n2_; have GE166 := n3_; clear n0_ n1_ n2_ n3_; clear hb hbox hg; have hcz12_0 : w11.cell? ⟨gb166, 0, none⟩ = some (.int .i64 0) := (blk_cell BK166.out 0).trans rfl; have hcz12_1 : w11.cell? ⟨gb166, 1, none⟩ = some (.int .i64 0) := (blk_cell BK166.out 1).trans rfl; have hcz12_2 : w11.cell? ⟨gb166, 2, none⟩ = some (.int .i64 0) := (blk_cell BK166.out 2).trans rfl; have hfz12_0 := blk_frozen BK166.out 0; have hfz12_1 := blk_frozen BK166.out 1; have hfz12_2 := blk_frozen BK166.out 2) | ((with_reducible refine gate_callee (f := 17) rfl ?_); refine goesL_ (some 35) rfl rfl Try.func17 (by kernel_rfl) rfl #[.agg #[.int .i64 (Int.tmod (wrap64 (a0)) 60000), .int .i64 (wrap64 (1 + (Int.tmod (wrap64 (a1)) 5000))), .int .i64 (wrap64 ((Int.tmod (wrap64 (a2)) 65535) - 1))]] rfl (by (try simp only [List.map_toArray, List.map_cons, List.map_nil]); first | done | rfl | (simp only [List.length_drop, List.length_take]; rfl)) ?_; (with_reducible refine (slot_Encode.calls k (Int.tmod (wrap64 (a0)) 60000) (wrap64 (1 + (Int.tmod (wrap64 (a1)) 5000))) (wrap64 ((Int.tmod (wrap64 (a2)) 65535) - 1)) t167 t168 _ A8.out).mono ?_); rintro e w13 ⟨rfl, hb⟩; refine ⟨_, rfl, ?_⟩; have n0_ := Aside0.mk (blk_below (g := gb166) (o := .cells #[.int .i64 (Int.tmod (wrap64 (a0)) 60000), .int .i64 (wrap64 (1 + (Int.tmod (wrap64 (a1)) 5000))), .int .i64 (wrap64 ((Int.tmod (wrap64 (a2)) 65535) - 1))] 25 (0, 0)) (by (with_reducible repeat (first | refine blk_drewN ?_ _ | refine blk_drew ?_ | refine blk_alloc ?_ _)); refine blk_put (cs := #[.int .i64 (Int.tmod (wrap64 (a0)) 60000), .int .i64 (wrap64 (1 + (Int.tmod (wrap64 (a1)) 5000))), .int .i64 0]) ?_ 2 _ rfl; (with_reducible repeat (first | refine blk_drewN ?_ _ | refine blk_drew ?_ | refine blk_alloc ?_ _)); refine blk_put (cs := #[.int .i64 (Int.tmod (wrap64 (a0)) 60000), .int .i64 0, .int .i64 0]) ?_ 1 _ rfl; (with_reducible repeat (first | refine blk_drewN ?_ _ | refine blk_drew ?_ | refine blk_alloc ?_ _)); refine blk_put (cs := #[.int .i64 0, .int .i64 0, .int .i64 0]) ?_ 0 _ rfl; (with_reducible repeat (first | refine blk_drewN ?_ _ | refine blk_drew ?_ | refine blk_alloc ?_ _)); exact BK166.out) hb); have n1_ := Aside0.mk (below_step (by repeat (first | (with_reducible first | exact HB.out | apply below_alloc | apply pw_below_drewN | apply below_drew1 | refine below_set ?_ GE166.out) | exact HB.out)) hb); clear BK166; clear HB; have BK166 := n0_; have HB := n1_; clear n0_ n1_; (try clear hb); (try clear hb2); (try clear hk); (try clear hi)))
      go_loopg [14, 41] k (fun kq v14 v41 w' => ∃ (x14_1 : Int) (x41_1 : Int), v14 = .int .u64 x14_1 ∧ v41 = .int .i64 x41_1 ∧ Aside0 (cantlelaw07_SlotTurned.l0 kq a3 a4 t167 x14_1 x41_1 = some r) ∧ Aside0 (kq ≤ k) ∧ Aside0 (w'.heap[gb166]? = some (.cells #[.int .i64 (Int.tmod (wrap64 (a0)) 60000), .int .i64 (wrap64 (1 + (Int.tmod (wrap64 (a1)) 5000))), .int .i64 (wrap64 ((Int.tmod (wrap64 (a2)) 65535) - 1))] 25 (0, 0))) ∧ Aside0 (Below w.heap.size w w'))
      case atStart => exact ⟨(t167), (0), (by first | rfl | (simp; done) | (simp [*]; done)), (by first | rfl | (simp; done) | (simp [*]; done)), H', ⟨Nat.le_refl _⟩, ⟨by (with_reducible repeat (first | refine blk_drewN ?_ _ | refine blk_drew ?_ | refine blk_alloc ?_ _)); exact BK166.out⟩, ⟨by repeat (first | (with_reducible first | exact HB.out | apply below_alloc | apply pw_below_drewN | apply below_drew1 | refine below_set ?_ GE166.out) | exact HB.out)⟩⟩
      case round =>
        clear H'
        try clear c1
        try clear p2
        try clear c4
        try clear p6
        try clear c7
        try clear c9
        try clear c9b0
        try clear c9b1
        try clear hcz12_0
        try clear hcz12_1
        try clear hcz12_2
        try clear hfz12_0
        try clear hfz12_1
        try clear hfz12_2
        obtain ⟨x14_1, x41_1, rfl, rfl, HA, HK1, BK166, HB⟩ := hrel
        cases gk with
        | zero => exact absurd HA.out (by simp [cantlelaw07_SlotTurned.l0])
        | succ k1 =>
          have H := HA.out
          clear HA
          simp only [cantlelaw07_SlotTurned.l0] at H
          by_cases c14 : x41_1 < 16
          · rw [if_pos c14] at H
            have c14b0 : decide (x41_1 < 16) = true := decide_eq_true c14
            clear c14
            by_cases c15 : (wrap64 ((wrap64 (Int.tmod a3 64)) + x41_1)) < 48
            · rw [if_pos c15] at H
              have c15b0 : decide ((wrap64 ((wrap64 (Int.tmod a3 64)) + x41_1)) < 48) = true := decide_eq_true c15
              clear c15
              by_cases c16 : 0 ≤ x41_1
              · rw [if_pos c16] at H
                have c16b0 := eq_true c16
                have c16b1 : decide (0 ≤ x41_1) = true := decide_eq_true c16
                clear c16
                obtain ⟨ji17, hji17⟩ : ∃ j_ : Int, (shr .u16 a4 x41_1) = j_ := ⟨_, rfl⟩
                replace H : (if (Go.bits .and .u16 (ji17) 1) = 1 then (if 0 ≤ (wrap64 ((wrap64 ((wrap64 (8 * (wrap64 (Int.tdiv (wrap64 ((wrap64 (Int.tmod a3 64)) + x41_1)) 8)))) + 7)) - (Int.tmod (wrap64 ((wrap64 (Int.tmod a3 64)) + x41_1)) 8))) then (cantlelaw07_SlotTurned.l0 k1 a3 a4 t167 (Go.bits .xor .u64 x14_1 (shl .u64 1 (wrap64 ((wrap64 ((wrap64 (8 * (wrap64 (Int.tdiv (wrap64 ((wrap64 (Int.tmod a3 64)) + x41_1)) 8)))) + 7)) - (Int.tmod (wrap64 ((wrap64 (Int.tmod a3 64)) + x41_1)) 8))))) (wrap64 (x41_1 + 1))) else (none)) else (cantlelaw07_SlotTurned.l0 k1 a3 a4 t167 x14_1 (wrap64 (x41_1 + 1)))) = some r := by first | (rw [hji17] at H; exact H) | (simp only [hji17] at H ⊢; exact H)
                have hji17_ : (a4 / 2 ^ min x41_1.toNat 16) = ji17 := hji17
                have hji17z : x41_1 ≤ 16 → (a4 / 2 ^ x41_1.toNat) = ji17 := shr_small hji17
                by_cases c18 : (Go.bits .and .u16 (ji17) 1) = 1
                · rw [if_pos c18] at H
                  have c18b0 : ((Go.bits .and .u16 (ji17) 1) == 1) = true := beq_iff_eq.mpr c18
                  have c18b1 : ((Go.bits .and .u16 (ji17) 1) != 1) = false := bne_eq_false_iff_eq.mpr c18
                  clear c18
                  obtain ⟨ji19, hji19⟩ : ∃ j_ : Int, (wrap64 ((wrap64 ((wrap64 (8 * (wrap64 (Int.tdiv (wrap64 ((wrap64 (Int.tmod a3 64)) + x41_1)) 8)))) + 7)) - (Int.tmod (wrap64 ((wrap64 (Int.tmod a3 64)) + x41_1)) 8))) = j_ := ⟨_, rfl⟩
                  replace H : (if 0 ≤ (ji19) then (cantlelaw07_SlotTurned.l0 k1 a3 a4 t167 (Go.bits .xor .u64 x14_1 (shl .u64 1 (ji19))) (wrap64 (x41_1 + 1))) else (none)) = some r := by first | (rw [hji19] at H; exact H) | (simp only [hji19] at H ⊢; exact H)
                  have hji19w : (IntKind.i64.wrap ((wrap64 ((wrap64 (8 * (wrap64 (Int.tdiv (wrap64 ((wrap64 (Int.tmod a3 64)) + x41_1)) 8)))) + 7)) - (Int.tmod (wrap64 ((wrap64 (Int.tmod a3 64)) + x41_1)) 8))) = ji19 := (i64_w _).trans hji19
                  by_cases c20 : 0 ≤ (ji19)
                  · rw [if_pos c20] at H
                    have c20b0 := eq_true c20
                    have c20b1 : decide (0 ≤ (ji19)) = true := decide_eq_true c20
                    clear c20
                    obtain ⟨ji21, hji21⟩ : ∃ j_ : Int, (shl .u64 1 (ji19)) = j_ := ⟨_, rfl⟩
                    replace H : (cantlelaw07_SlotTurned.l0 k1 a3 a4 t167 (Go.bits .xor .u64 x14_1 (ji21)) (wrap64 (x41_1 + 1))) = some r := by first | (rw [hji21] at H; exact H) | (simp only [hji21] at H ⊢; exact H)
                    have hji21_ : (IntKind.u64.wrap (1 * 2 ^ min (ji19).toNat 64)) = ji21 := hji21
                    have hji21z : (ji19) ≤ 64 → (IntKind.u64.wrap (1 * 2 ^ (ji19).toNat)) = ji21 := shl_small hji21
                    have hji21u : (IntKind.u64.wrap (2 ^ min (ji19).toNat 64)) = ji21 := by have h_ := hji21_; rw [Int.one_mul] at h_; exact h_
                    have hji21v : (ji19) ≤ 64 → (IntKind.u64.wrap (2 ^ (ji19).toNat)) = ji21 := fun hle_ => by have h_ := hji21z hle_; rw [Int.one_mul] at h_; exact h_
                    have H' := Aside0.mk H
                    clear H
                    go_wp2
                    go_roundg k1
                    case measure => have := HK1.out; omega
                    case rel => exact ⟨(Go.bits .xor .u64 x14_1 (ji21)), (wrap64 (x41_1 + 1)), (by first | rfl | (simp; done) | (simp only [← hji21] <;> (first | rfl | simp)) | (simp [*]; done)), (by first | rfl | (simp; done) | (simp [*]; done)), H', ⟨by have := HK1.out; omega⟩, ⟨by (with_reducible repeat (first | refine blk_drewN ?_ _ | refine blk_drew ?_ | refine blk_alloc ?_ _)); exact BK166.out⟩, ⟨by repeat (first | (with_reducible first | exact HB.out | apply below_alloc | apply pw_below_drewN | apply below_drew1 | refine below_set ?_ GE166.out) | exact HB.out)⟩⟩
                  · rw [if_neg c20] at H
                    exact absurd H (by simp)
                · rw [if_neg c18] at H
                  have c18b0 : ((Go.bits .and .u16 (ji17) 1) == 1) = false := beq_eq_false_iff_ne.mpr c18
                  have c18b1 : ((Go.bits .and .u16 (ji17) 1) != 1) = true := bne_iff_ne.mpr c18
                  have H' := Aside0.mk H
                  clear H
                  go_wp2
                  go_roundg k1
                  case measure => have := HK1.out; omega
                  case rel => exact ⟨(x14_1), (wrap64 (x41_1 + 1)), (by first | rfl | (simp; done) | (simp [*]; done)), (by first | rfl | (simp; done) | (simp [*]; done)), H', ⟨by have := HK1.out; omega⟩, ⟨by (with_reducible repeat (first | refine blk_drewN ?_ _ | refine blk_drew ?_ | refine blk_alloc ?_ _)); exact BK166.out⟩, ⟨by repeat (first | (with_reducible first | exact HB.out | apply below_alloc | apply pw_below_drewN | apply below_drew1 | refine below_set ?_ GE166.out) | exact HB.out)⟩⟩
              · rw [if_neg c16] at H
                exact absurd H (by simp)
            · rw [if_neg c15] at H
              have c15b0 : decide ((wrap64 ((wrap64 (Int.tmod a3 64)) + x41_1)) < 48) = false := decide_eq_false c15
              clear c15
              have H' := Aside0.mk H
              clear H
              go_wp2
              go_roundg k1
              case measure => have := HK1.out; omega
              case rel => exact ⟨(x14_1), (wrap64 (x41_1 + 1)), (by first | rfl | (simp; done) | (simp [*]; done)), (by first | rfl | (simp; done) | (simp [*]; done)), H', ⟨by have := HK1.out; omega⟩, ⟨by (with_reducible repeat (first | refine blk_drewN ?_ _ | refine blk_drew ?_ | refine blk_alloc ?_ _)); exact BK166.out⟩, ⟨by repeat (first | (with_reducible first | exact HB.out | apply below_alloc | apply pw_below_drewN | apply below_drew1 | refine below_set ?_ GE166.out) | exact HB.out)⟩⟩
          · rw [if_neg c14] at H
            have c14b0 : decide (x41_1 < 16) = false := decide_eq_false c14
            clear c14
            by_cases c22 : (Int.tmod a3 64) ≥ 48
            · rw [if_pos c22] at H
              have c22b0 : decide (48 ≤ (Int.tmod a3 64)) = true := decide_eq_true c22
              clear c22
              by_cases c23 : (Go.bits .xor .u64 t167 (IntKind.u64.wrap ((IntKind.u64.wrap (a4)) * 281474976710656))) = t167
              · rw [if_pos c23] at H
                have c23b0 : ((Go.bits .xor .u64 t167 (IntKind.u64.wrap ((IntKind.u64.wrap (a4)) * 281474976710656))) == t167) = true := beq_iff_eq.mpr c23
                have c23b1 : ((Go.bits .xor .u64 t167 (IntKind.u64.wrap ((IntKind.u64.wrap (a4)) * 281474976710656))) != t167) = false := bne_eq_false_iff_eq.mpr c23
                clear c23
                obtain rfl := Option.some.inj H
                go_wp2
                go_ret
                exact ⟨by first | rfl | (simp [errW_none, errW_some] <;> rfl) | (simp [*, errW_none, errW_some] <;> rfl), by repeat (first | (with_reducible first | exact HB.out | apply below_alloc | apply pw_below_drewN | apply below_drew1 | refine below_set ?_ GE166.out) | exact HB.out)⟩
              · rw [if_neg c23] at H
                have c23b0 : ((Go.bits .xor .u64 t167 (IntKind.u64.wrap ((IntKind.u64.wrap (a4)) * 281474976710656))) == t167) = false := beq_eq_false_iff_ne.mpr c23
                have c23b1 : ((Go.bits .xor .u64 t167 (IntKind.u64.wrap ((IntKind.u64.wrap (a4)) * 281474976710656))) != t167) = true := bne_iff_ne.mpr c23
                replace H := Option.bind_eq_some_iff.mp H
                obtain ⟨⟨t169, t170, t171, t172⟩, A240, H⟩ := H
                replace H : (if t172 = 2 then (some (t169 == 0 && (t170 == 0 && (t171 == 0)))) else (some false)) = some r := H
                have A24 := Aside0.mk A240
                clear A240
                by_cases c25 : t172 = 2
                · rw [if_pos c25] at H
                  have c25b0 : (t172 == 2) = true := beq_iff_eq.mpr c25
                  have c25b1 : (t172 != 2) = false := bne_eq_false_iff_eq.mpr c25
                  clear c25
                  obtain rfl := Option.some.inj H
                  go_wp2_with (first | ((with_reducible refine gate_callee (f := 15) rfl ?_); refine goesL_ (some 82) rfl rfl Try.func15 (by kernel_rfl) rfl #[.int .u64 (Go.bits .xor .u64 t167 (IntKind.u64.wrap ((IntKind.u64.wrap (a4)) * 281474976710656)))] rfl (by (try simp only [List.map_toArray, List.map_cons, List.map_nil]); first | done | rfl | (simp only [List.length_drop, List.length_take]; rfl)) ?_; (with_reducible refine (slot_Decode.calls k1 (Go.bits .xor .u64 t167 (IntKind.u64.wrap ((IntKind.u64.wrap (a4)) * 281474976710656))) t169 t170 t171 t172 _ A24.out).mono ?_); rintro e w26 ⟨rfl, hb⟩; refine ⟨_, rfl, ?_⟩; have n0_ := Aside0.mk (blk_below (g := gb166) (o := .cells #[.int .i64 (Int.tmod (wrap64 (a0)) 60000), .int .i64 (wrap64 (1 + (Int.tmod (wrap64 (a1)) 5000))), .int .i64 (wrap64 ((Int.tmod (wrap64 (a2)) 65535) - 1))] 25 (0, 0)) (by (with_reducible repeat (first | refine blk_drewN ?_ _ | refine blk_drew ?_ | refine blk_alloc ?_ _)); exact BK166.out) hb); have n1_ := Aside0.mk (below_step (by repeat (first | (with_reducible first | exact HB.out | apply below_alloc | apply pw_below_drewN | apply below_drew1 | refine below_set ?_ GE166.out) | exact HB.out)) hb); clear BK166; clear HB; have BK166 := n0_; have HB := n1_; clear n0_ n1_; (try clear hb); (try clear hb2); (try clear hk); (try clear hi)) | ((with_reducible refine gate_dst (N := 17) rfl ?_); refine box_event ?hg (N := 17) ?hd (cs := #[.int .i64 0, .int .i64 0, .int .i64 0]) (t := 25) ?hr ?_; (case hd => rfl); (case hg => rfl); (case hr => first | (go_simp; done) | (go_simp; rfl)); intro gb173 hg w27 hbox hb; have n0_ := Aside0.mk (blk_below (g := gb166) (o := .cells #[.int .i64 (Int.tmod (wrap64 (a0)) 60000), .int .i64 (wrap64 (1 + (Int.tmod (wrap64 (a1)) 5000))), .int .i64 (wrap64 ((Int.tmod (wrap64 (a2)) 65535) - 1))] 25 (0, 0)) (by (with_reducible repeat (first | refine blk_drewN ?_ _ | refine blk_drew ?_ | refine blk_alloc ?_ _)); exact BK166.out) hb); have n1_ := Aside0.mk (below_step (by repeat (first | (with_reducible first | exact HB.out | apply below_alloc | apply pw_below_drewN | apply below_drew1 | refine below_set ?_ GE166.out) | exact HB.out)) hb); have n2_ := Aside0.mk (hbox); have n3_ := Aside0.mk ((by rw [hg]; exact (below_size (by repeat (first | (with_reducible first | exact HB.out | apply below_alloc | apply pw_below_drewN | apply below_drew1 | refine below_set ?_ GE166.out) | exact HB.out))) : w.heap.size ≤ gb173)); have n4_ := Aside0.mk ((by rw [hg]; exact (below_size (by repeat (first | (with_reducible first | exact HB.out | apply below_alloc | apply pw_below_drewN | apply below_drew1 | refine below_set ?_ GE166.out) | exact HB.out))) : w.heap.size ≤ gb173)); have n5_ := Aside0.mk ((by rw [hg]; exact Nat.ne_of_lt (blk_lt (g := gb166) (o := .cells #[.int .i64 (Int.tmod (wrap64 (a0)) 60000), .int .i64 (wrap64 (1 + (Int.tmod (wrap64 (a1)) 5000))), .int .i64 (wrap64 ((Int.tmod (wrap64 (a2)) 65535) - 1))] 25 (0, 0)) (by (with_reducible repeat (first | refine blk_drewN ?_ _ | refine blk_drew ?_ | refine blk_alloc ?_ _)); exact BK166.out)) : gb166 ≠ gb173)); have n6_ := Aside0.mk ((by rw [hg]; exact Nat.ne_of_gt (blk_lt (g := gb166) (o := .cells #[.int .i64 (Int.tmod (wrap64 (a0)) 60000), .int .i64 (wrap64 (1 + (Int.tmod (wrap64 (a1)) 5000))), .int .i64 (wrap64 ((Int.tmod (wrap64 (a2)) 65535) - 1))] 25 (0, 0)) (by (with_reducible repeat (first | refine blk_drewN ?_ _ | refine blk_drew ?_ | refine blk_alloc ?_ _)); exact BK166.out)) : gb173 ≠ gb166)); clear BK166; clear HB; have BK166 := n0_; have HB := n1_; have BK173 := n2_; have GW173 := n3_; have GE173 := n4_; have NB166_173 := n5_; have NB173_166 := n6_; clear n0_ n1_ n2_ n3_ n4_ n5_ n6_; clear hb hbox hg; have hnb28 := NB173_166.out; have hnc28 := NB166_173.out; have hcz29_0 : w27.cell? ⟨gb173, 0, none⟩ = some (.int .i64 0) := (blk_cell BK173.out 0).trans rfl; have hcz29_1 : w27.cell? ⟨gb173, 1, none⟩ = some (.int .i64 0) := (blk_cell BK173.out 1).trans rfl; have hcz29_2 : w27.cell? ⟨gb173, 2, none⟩ = some (.int .i64 0) := (blk_cell BK173.out 2).trans rfl; have hfz29_0 := blk_frozen BK173.out 0; have hfz29_1 := blk_frozen BK173.out 1; have hfz29_2 := blk_frozen BK173.out 2))
                  go_ret
                  exact ⟨by first | rfl | (simp [errW_none, errW_some] <;> rfl) | (simp [*, errW_none, errW_some] <;> rfl), by repeat (first | (with_reducible first | exact HB.out | apply below_alloc | apply pw_below_drewN | apply below_drew1 | refine below_set ?_ GE166.out | refine below_set ?_ GE173.out) | exact HB.out)⟩
                · rw [if_neg c25] at H
                  have c25b0 : (t172 == 2) = false := beq_eq_false_iff_ne.mpr c25
                  have c25b1 : (t172 != 2) = true := bne_iff_ne.mpr c25
                  obtain rfl := Option.some.inj H
                  go_wp2_with (first | ((with_reducible refine gate_callee (f := 15) rfl ?_); refine goesL_ (some 82) rfl rfl Try.func15 (by kernel_rfl) rfl #[.int .u64 (Go.bits .xor .u64 t167 (IntKind.u64.wrap ((IntKind.u64.wrap (a4)) * 281474976710656)))] rfl (by (try simp only [List.map_toArray, List.map_cons, List.map_nil]); first | done | rfl | (simp only [List.length_drop, List.length_take]; rfl)) ?_; (with_reducible refine (slot_Decode.calls k1 (Go.bits .xor .u64 t167 (IntKind.u64.wrap ((IntKind.u64.wrap (a4)) * 281474976710656))) t169 t170 t171 t172 _ A24.out).mono ?_); rintro e w30 ⟨rfl, hb⟩; refine ⟨_, rfl, ?_⟩; have n0_ := Aside0.mk (blk_below (g := gb166) (o := .cells #[.int .i64 (Int.tmod (wrap64 (a0)) 60000), .int .i64 (wrap64 (1 + (Int.tmod (wrap64 (a1)) 5000))), .int .i64 (wrap64 ((Int.tmod (wrap64 (a2)) 65535) - 1))] 25 (0, 0)) (by (with_reducible repeat (first | refine blk_drewN ?_ _ | refine blk_drew ?_ | refine blk_alloc ?_ _)); exact BK166.out) hb); have n1_ := Aside0.mk (below_step (by repeat (first | (with_reducible first | exact HB.out | apply below_alloc | apply pw_below_drewN | apply below_drew1 | refine below_set ?_ GE166.out) | exact HB.out)) hb); clear BK166; clear HB; have BK166 := n0_; have HB := n1_; clear n0_ n1_; (try clear hb); (try clear hb2); (try clear hk); (try clear hi)) | ((with_reducible refine gate_dst (N := 17) rfl ?_); refine box_event ?hg (N := 17) ?hd (cs := #[.int .i64 0, .int .i64 0, .int .i64 0]) (t := 25) ?hr ?_; (case hd => rfl); (case hg => rfl); (case hr => first | (go_simp; done) | (go_simp; rfl)); intro gb173 hg w31 hbox hb; have n0_ := Aside0.mk (blk_below (g := gb166) (o := .cells #[.int .i64 (Int.tmod (wrap64 (a0)) 60000), .int .i64 (wrap64 (1 + (Int.tmod (wrap64 (a1)) 5000))), .int .i64 (wrap64 ((Int.tmod (wrap64 (a2)) 65535) - 1))] 25 (0, 0)) (by (with_reducible repeat (first | refine blk_drewN ?_ _ | refine blk_drew ?_ | refine blk_alloc ?_ _)); exact BK166.out) hb); have n1_ := Aside0.mk (below_step (by repeat (first | (with_reducible first | exact HB.out | apply below_alloc | apply pw_below_drewN | apply below_drew1 | refine below_set ?_ GE166.out) | exact HB.out)) hb); have n2_ := Aside0.mk (hbox); have n3_ := Aside0.mk ((by rw [hg]; exact (below_size (by repeat (first | (with_reducible first | exact HB.out | apply below_alloc | apply pw_below_drewN | apply below_drew1 | refine below_set ?_ GE166.out) | exact HB.out))) : w.heap.size ≤ gb173)); have n4_ := Aside0.mk ((by rw [hg]; exact (below_size (by repeat (first | (with_reducible first | exact HB.out | apply below_alloc | apply pw_below_drewN | apply below_drew1 | refine below_set ?_ GE166.out) | exact HB.out))) : w.heap.size ≤ gb173)); have n5_ := Aside0.mk ((by rw [hg]; exact Nat.ne_of_lt (blk_lt (g := gb166) (o := .cells #[.int .i64 (Int.tmod (wrap64 (a0)) 60000), .int .i64 (wrap64 (1 + (Int.tmod (wrap64 (a1)) 5000))), .int .i64 (wrap64 ((Int.tmod (wrap64 (a2)) 65535) - 1))] 25 (0, 0)) (by (with_reducible repeat (first | refine blk_drewN ?_ _ | refine blk_drew ?_ | refine blk_alloc ?_ _)); exact BK166.out)) : gb166 ≠ gb173)); have n6_ := Aside0.mk ((by rw [hg]; exact Nat.ne_of_gt (blk_lt (g := gb166) (o := .cells #[.int .i64 (Int.tmod (wrap64 (a0)) 60000), .int .i64 (wrap64 (1 + (Int.tmod (wrap64 (a1)) 5000))), .int .i64 (wrap64 ((Int.tmod (wrap64 (a2)) 65535) - 1))] 25 (0, 0)) (by (with_reducible repeat (first | refine blk_drewN ?_ _ | refine blk_drew ?_ | refine blk_alloc ?_ _)); exact BK166.out)) : gb173 ≠ gb166)); clear BK166; clear HB; have BK166 := n0_; have HB := n1_; have BK173 := n2_; have GW173 := n3_; have GE173 := n4_; have NB166_173 := n5_; have NB173_166 := n6_; clear n0_ n1_ n2_ n3_ n4_ n5_ n6_; clear hb hbox hg; have hnb32 := NB173_166.out; have hnc32 := NB166_173.out; have hcz33_0 : w31.cell? ⟨gb173, 0, none⟩ = some (.int .i64 0) := (blk_cell BK173.out 0).trans rfl; have hcz33_1 : w31.cell? ⟨gb173, 1, none⟩ = some (.int .i64 0) := (blk_cell BK173.out 1).trans rfl; have hcz33_2 : w31.cell? ⟨gb173, 2, none⟩ = some (.int .i64 0) := (blk_cell BK173.out 2).trans rfl; have hfz33_0 := blk_frozen BK173.out 0; have hfz33_1 := blk_frozen BK173.out 1; have hfz33_2 := blk_frozen BK173.out 2))
                  go_ret
                  exact ⟨by first | rfl | (simp [errW_none, errW_some] <;> rfl) | (simp [*, errW_none, errW_some] <;> rfl), by repeat (first | (with_reducible first | exact HB.out | apply below_alloc | apply pw_below_drewN | apply below_drew1 | refine below_set ?_ GE166.out | refine below_set ?_ GE173.out) | exact HB.out)⟩
            · rw [if_neg c22] at H
              have c22b0 : decide (48 ≤ (Int.tmod a3 64)) = false := decide_eq_false c22
              clear c22
              by_cases c34 : x14_1 = t167
              · rw [if_pos c34] at H
                have c34b0 : (x14_1 == t167) = true := beq_iff_eq.mpr c34
                have c34b1 : (x14_1 != t167) = false := bne_eq_false_iff_eq.mpr c34
                clear c34
                obtain rfl := Option.some.inj H
                go_wp2
                go_ret
                exact ⟨by first | rfl | (simp [errW_none, errW_some] <;> rfl) | (simp [*, errW_none, errW_some] <;> rfl), by repeat (first | (with_reducible first | exact HB.out | apply below_alloc | apply pw_below_drewN | apply below_drew1 | refine below_set ?_ GE166.out) | exact HB.out)⟩
              · rw [if_neg c34] at H
                have c34b0 : (x14_1 == t167) = false := beq_eq_false_iff_ne.mpr c34
                have c34b1 : (x14_1 != t167) = true := bne_iff_ne.mpr c34
                replace H := Option.bind_eq_some_iff.mp H
                obtain ⟨⟨t174, t175, t176, t177⟩, A350, H⟩ := H
                replace H : (if t177 = 2 then (some (t174 == 0 && (t175 == 0 && (t176 == 0)))) else (some false)) = some r := H
                have A35 := Aside0.mk A350
                clear A350
                by_cases c36 : t177 = 2
                · rw [if_pos c36] at H
                  have c36b0 : (t177 == 2) = true := beq_iff_eq.mpr c36
                  have c36b1 : (t177 != 2) = false := bne_eq_false_iff_eq.mpr c36
                  clear c36
                  obtain rfl := Option.some.inj H
                  go_wp2_with (first | ((with_reducible refine gate_callee (f := 15) rfl ?_); refine goesL_ (some 82) rfl rfl Try.func15 (by kernel_rfl) rfl #[.int .u64 x14_1] rfl (by (try simp only [List.map_toArray, List.map_cons, List.map_nil]); first | done | rfl | (simp only [List.length_drop, List.length_take]; rfl)) ?_; (with_reducible refine (slot_Decode.calls k1 x14_1 t174 t175 t176 t177 _ A35.out).mono ?_); rintro e w37 ⟨rfl, hb⟩; refine ⟨_, rfl, ?_⟩; have n0_ := Aside0.mk (blk_below (g := gb166) (o := .cells #[.int .i64 (Int.tmod (wrap64 (a0)) 60000), .int .i64 (wrap64 (1 + (Int.tmod (wrap64 (a1)) 5000))), .int .i64 (wrap64 ((Int.tmod (wrap64 (a2)) 65535) - 1))] 25 (0, 0)) (by (with_reducible repeat (first | refine blk_drewN ?_ _ | refine blk_drew ?_ | refine blk_alloc ?_ _)); exact BK166.out) hb); have n1_ := Aside0.mk (below_step (by repeat (first | (with_reducible first | exact HB.out | apply below_alloc | apply pw_below_drewN | apply below_drew1 | refine below_set ?_ GE166.out) | exact HB.out)) hb); clear BK166; clear HB; have BK166 := n0_; have HB := n1_; clear n0_ n1_; (try clear hb); (try clear hb2); (try clear hk); (try clear hi)) | ((with_reducible refine gate_dst (N := 17) rfl ?_); refine box_event ?hg (N := 17) ?hd (cs := #[.int .i64 0, .int .i64 0, .int .i64 0]) (t := 25) ?hr ?_; (case hd => rfl); (case hg => rfl); (case hr => first | (go_simp; done) | (go_simp; rfl)); intro gb178 hg w38 hbox hb; have n0_ := Aside0.mk (blk_below (g := gb166) (o := .cells #[.int .i64 (Int.tmod (wrap64 (a0)) 60000), .int .i64 (wrap64 (1 + (Int.tmod (wrap64 (a1)) 5000))), .int .i64 (wrap64 ((Int.tmod (wrap64 (a2)) 65535) - 1))] 25 (0, 0)) (by (with_reducible repeat (first | refine blk_drewN ?_ _ | refine blk_drew ?_ | refine blk_alloc ?_ _)); exact BK166.out) hb); have n1_ := Aside0.mk (below_step (by repeat (first | (with_reducible first | exact HB.out | apply below_alloc | apply pw_below_drewN | apply below_drew1 | refine below_set ?_ GE166.out) | exact HB.out)) hb); have n2_ := Aside0.mk (hbox); have n3_ := Aside0.mk ((by rw [hg]; exact (below_size (by repeat (first | (with_reducible first | exact HB.out | apply below_alloc | apply pw_below_drewN | apply below_drew1 | refine below_set ?_ GE166.out) | exact HB.out))) : w.heap.size ≤ gb178)); have n4_ := Aside0.mk ((by rw [hg]; exact (below_size (by repeat (first | (with_reducible first | exact HB.out | apply below_alloc | apply pw_below_drewN | apply below_drew1 | refine below_set ?_ GE166.out) | exact HB.out))) : w.heap.size ≤ gb178)); have n5_ := Aside0.mk ((by rw [hg]; exact Nat.ne_of_lt (blk_lt (g := gb166) (o := .cells #[.int .i64 (Int.tmod (wrap64 (a0)) 60000), .int .i64 (wrap64 (1 + (Int.tmod (wrap64 (a1)) 5000))), .int .i64 (wrap64 ((Int.tmod (wrap64 (a2)) 65535) - 1))] 25 (0, 0)) (by (with_reducible repeat (first | refine blk_drewN ?_ _ | refine blk_drew ?_ | refine blk_alloc ?_ _)); exact BK166.out)) : gb166 ≠ gb178)); have n6_ := Aside0.mk ((by rw [hg]; exact Nat.ne_of_gt (blk_lt (g := gb166) (o := .cells #[.int .i64 (Int.tmod (wrap64 (a0)) 60000), .int .i64 (wrap64 (1 + (Int.tmod (wrap64 (a1)) 5000))), .int .i64 (wrap64 ((Int.tmod (wrap64 (a2)) 65535) - 1))] 25 (0, 0)) (by (with_reducible repeat (first | refine blk_drewN ?_ _ | refine blk_drew ?_ | refine blk_alloc ?_ _)); exact BK166.out)) : gb178 ≠ gb166)); clear BK166; clear HB; have BK166 := n0_; have HB := n1_; have BK178 := n2_; have GW178 := n3_; have GE178 := n4_; have NB166_178 := n5_; have NB178_166 := n6_; clear n0_ n1_ n2_ n3_ n4_ n5_ n6_; clear hb hbox hg; have hnb39 := NB178_166.out; have hnc39 := NB166_178.out; have hcz40_0 : w38.cell? ⟨gb178, 0, none⟩ = some (.int .i64 0) := (blk_cell BK178.out 0).trans rfl; have hcz40_1 : w38.cell? ⟨gb178, 1, none⟩ = some (.int .i64 0) := (blk_cell BK178.out 1).trans rfl; have hcz40_2 : w38.cell? ⟨gb178, 2, none⟩ = some (.int .i64 0) := (blk_cell BK178.out 2).trans rfl; have hfz40_0 := blk_frozen BK178.out 0; have hfz40_1 := blk_frozen BK178.out 1; have hfz40_2 := blk_frozen BK178.out 2))
                  go_ret
                  exact ⟨by first | rfl | (simp [errW_none, errW_some] <;> rfl) | (simp [*, errW_none, errW_some] <;> rfl), by repeat (first | (with_reducible first | exact HB.out | apply below_alloc | apply pw_below_drewN | apply below_drew1 | refine below_set ?_ GE166.out | refine below_set ?_ GE178.out) | exact HB.out)⟩
                · rw [if_neg c36] at H
                  have c36b0 : (t177 == 2) = false := beq_eq_false_iff_ne.mpr c36
                  have c36b1 : (t177 != 2) = true := bne_iff_ne.mpr c36
                  obtain rfl := Option.some.inj H
                  go_wp2_with (first | ((with_reducible refine gate_callee (f := 15) rfl ?_); refine goesL_ (some 82) rfl rfl Try.func15 (by kernel_rfl) rfl #[.int .u64 x14_1] rfl (by (try simp only [List.map_toArray, List.map_cons, List.map_nil]); first | done | rfl | (simp only [List.length_drop, List.length_take]; rfl)) ?_; (with_reducible refine (slot_Decode.calls k1 x14_1 t174 t175 t176 t177 _ A35.out).mono ?_); rintro e w41 ⟨rfl, hb⟩; refine ⟨_, rfl, ?_⟩; have n0_ := Aside0.mk (blk_below (g := gb166) (o := .cells #[.int .i64 (Int.tmod (wrap64 (a0)) 60000), .int .i64 (wrap64 (1 + (Int.tmod (wrap64 (a1)) 5000))), .int .i64 (wrap64 ((Int.tmod (wrap64 (a2)) 65535) - 1))] 25 (0, 0)) (by (with_reducible repeat (first | refine blk_drewN ?_ _ | refine blk_drew ?_ | refine blk_alloc ?_ _)); exact BK166.out) hb); have n1_ := Aside0.mk (below_step (by repeat (first | (with_reducible first | exact HB.out | apply below_alloc | apply pw_below_drewN | apply below_drew1 | refine below_set ?_ GE166.out) | exact HB.out)) hb); clear BK166; clear HB; have BK166 := n0_; have HB := n1_; clear n0_ n1_; (try clear hb); (try clear hb2); (try clear hk); (try clear hi)) | ((with_reducible refine gate_dst (N := 17) rfl ?_); refine box_event ?hg (N := 17) ?hd (cs := #[.int .i64 0, .int .i64 0, .int .i64 0]) (t := 25) ?hr ?_; (case hd => rfl); (case hg => rfl); (case hr => first | (go_simp; done) | (go_simp; rfl)); intro gb178 hg w42 hbox hb; have n0_ := Aside0.mk (blk_below (g := gb166) (o := .cells #[.int .i64 (Int.tmod (wrap64 (a0)) 60000), .int .i64 (wrap64 (1 + (Int.tmod (wrap64 (a1)) 5000))), .int .i64 (wrap64 ((Int.tmod (wrap64 (a2)) 65535) - 1))] 25 (0, 0)) (by (with_reducible repeat (first | refine blk_drewN ?_ _ | refine blk_drew ?_ | refine blk_alloc ?_ _)); exact BK166.out) hb); have n1_ := Aside0.mk (below_step (by repeat (first | (with_reducible first | exact HB.out | apply below_alloc | apply pw_below_drewN | apply below_drew1 | refine below_set ?_ GE166.out) | exact HB.out)) hb); have n2_ := Aside0.mk (hbox); have n3_ := Aside0.mk ((by rw [hg]; exact (below_size (by repeat (first | (with_reducible first | exact HB.out | apply below_alloc | apply pw_below_drewN | apply below_drew1 | refine below_set ?_ GE166.out) | exact HB.out))) : w.heap.size ≤ gb178)); have n4_ := Aside0.mk ((by rw [hg]; exact (below_size (by repeat (first | (with_reducible first | exact HB.out | apply below_alloc | apply pw_below_drewN | apply below_drew1 | refine below_set ?_ GE166.out) | exact HB.out))) : w.heap.size ≤ gb178)); have n5_ := Aside0.mk ((by rw [hg]; exact Nat.ne_of_lt (blk_lt (g := gb166) (o := .cells #[.int .i64 (Int.tmod (wrap64 (a0)) 60000), .int .i64 (wrap64 (1 + (Int.tmod (wrap64 (a1)) 5000))), .int .i64 (wrap64 ((Int.tmod (wrap64 (a2)) 65535) - 1))] 25 (0, 0)) (by (with_reducible repeat (first | refine blk_drewN ?_ _ | refine blk_drew ?_ | refine blk_alloc ?_ _)); exact BK166.out)) : gb166 ≠ gb178)); have n6_ := Aside0.mk ((by rw [hg]; exact Nat.ne_of_gt (blk_lt (g := gb166) (o := .cells #[.int .i64 (Int.tmod (wrap64 (a0)) 60000), .int .i64 (wrap64 (1 + (Int.tmod (wrap64 (a1)) 5000))), .int .i64 (wrap64 ((Int.tmod (wrap64 (a2)) 65535) - 1))] 25 (0, 0)) (by (with_reducible repeat (first | refine blk_drewN ?_ _ | refine blk_drew ?_ | refine blk_alloc ?_ _)); exact BK166.out)) : gb178 ≠ gb166)); clear BK166; clear HB; have BK166 := n0_; have HB := n1_; have BK178 := n2_; have GW178 := n3_; have GE178 := n4_; have NB166_178 := n5_; have NB178_166 := n6_; clear n0_ n1_ n2_ n3_ n4_ n5_ n6_; clear hb hbox hg; have hnb43 := NB178_166.out; have hnc43 := NB166_178.out; have hcz44_0 : w42.cell? ⟨gb178, 0, none⟩ = some (.int .i64 0) := (blk_cell BK178.out 0).trans rfl; have hcz44_1 : w42.cell? ⟨gb178, 1, none⟩ = some (.int .i64 0) := (blk_cell BK178.out 1).trans rfl; have hcz44_2 : w42.cell? ⟨gb178, 2, none⟩ = some (.int .i64 0) := (blk_cell BK178.out 2).trans rfl; have hfz44_0 := blk_frozen BK178.out 0; have hfz44_1 := blk_frozen BK178.out 1; have hfz44_2 := blk_frozen BK178.out 2))
                  go_ret
                  exact ⟨by first | rfl | (simp [errW_none, errW_some] <;> rfl) | (simp [*, errW_none, errW_some] <;> rfl), by repeat (first | (with_reducible first | exact HB.out | apply below_alloc | apply pw_below_drewN | apply below_drew1 | refine below_set ?_ GE166.out | refine below_set ?_ GE178.out) | exact HB.out)⟩
    · rw [if_neg c9] at H
      have c9b0 : (t168 == 0) = false := beq_eq_false_iff_ne.mpr c9
      have c9b1 : (t168 != 0) = true := bne_iff_ne.mpr c9
      obtain rfl := Option.some.inj H
      go_enter Try.func4, Try.ntmps4
      go_wp2_with (first | ((with_reducible refine gate_callee (f := 14) rfl ?_); refine goesL_ (some 19) rfl rfl Try.func14 (by kernel_rfl) rfl #[] rfl (by (try simp only [List.map_toArray, List.map_cons, List.map_nil]); first | done | rfl | (simp only [List.length_drop, List.length_take]; rfl)) ?_; (with_reducible refine (cantlelaw07_Lives.calls k  true _ A6.out).mono ?_); rintro e w45 ⟨rfl, hb⟩; refine ⟨_, rfl, ?_⟩; have n0_ := Aside0.mk (below_step (by repeat (first | (with_reducible first | exact HB.out | apply below_alloc | apply pw_below_drewN | apply below_drew1) | exact HB.out)) hb); clear HB; have HB := n0_; clear n0_; (try clear hb); (try clear hb2); (try clear hk); (try clear hi)) | ((with_reducible refine gate_dst (N := 11) rfl ?_); refine box_event ?hg (N := 11) ?hd (cs := #[.int .i64 0, .int .i64 0, .int .i64 0]) (t := 25) ?hr ?_; (case hd => rfl); (case hg => rfl); (case hr => first | (go_simp; done) | (go_simp; rfl)); intro gb166 hg w46 hbox hb; have n0_ := Aside0.mk (below_step (by repeat (first | (with_reducible first | exact HB.out | apply below_alloc | apply pw_below_drewN | apply below_drew1) | exact HB.out)) hb); have n1_ := Aside0.mk (hbox); have n2_ := Aside0.mk ((by rw [hg]; exact (below_size (by repeat (first | (with_reducible first | exact HB.out | apply below_alloc | apply pw_below_drewN | apply below_drew1) | exact HB.out))) : w.heap.size ≤ gb166)); have n3_ := Aside0.mk ((by rw [hg]; exact (below_size (by repeat (first | (with_reducible first | exact HB.out | apply below_alloc | apply pw_below_drewN | apply below_drew1) | exact HB.out))) : w.heap.size ≤ gb166)); clear HB; have HB := n0_; have BK166 := n1_; have GW166 := n2_; have GE166 := n3_; clear n0_ n1_ n2_ n3_; clear hb hbox hg; have hcz47_0 : w46.cell? ⟨gb166, 0, none⟩ = some (.int .i64 0) := (blk_cell BK166.out 0).trans rfl; have hcz47_1 : w46.cell? ⟨gb166, 1, none⟩ = some (.int .i64 0) := (blk_cell BK166.out 1).trans rfl; have hcz47_2 : w46.cell? ⟨gb166, 2, none⟩ = some (.int .i64 0) := (blk_cell BK166.out 2).trans rfl; have hfz47_0 := blk_frozen BK166.out 0; have hfz47_1 := blk_frozen BK166.out 1; have hfz47_2 := blk_frozen BK166.out 2) | ((with_reducible refine gate_callee (f := 17) rfl ?_); refine goesL_ (some 35) rfl rfl Try.func17 (by kernel_rfl) rfl #[.agg #[.int .i64 (Int.tmod (wrap64 (a0)) 60000), .int .i64 (wrap64 (1 + (Int.tmod (wrap64 (a1)) 5000))), .int .i64 (wrap64 ((Int.tmod (wrap64 (a2)) 65535) - 1))]] rfl (by (try simp only [List.map_toArray, List.map_cons, List.map_nil]); first | done | rfl | (simp only [List.length_drop, List.length_take]; rfl)) ?_; (with_reducible refine (slot_Encode.calls k (Int.tmod (wrap64 (a0)) 60000) (wrap64 (1 + (Int.tmod (wrap64 (a1)) 5000))) (wrap64 ((Int.tmod (wrap64 (a2)) 65535) - 1)) t167 t168 _ A8.out).mono ?_); rintro e w48 ⟨rfl, hb⟩; refine ⟨_, rfl, ?_⟩; have n0_ := Aside0.mk (blk_below (g := gb166) (o := .cells #[.int .i64 (Int.tmod (wrap64 (a0)) 60000), .int .i64 (wrap64 (1 + (Int.tmod (wrap64 (a1)) 5000))), .int .i64 (wrap64 ((Int.tmod (wrap64 (a2)) 65535) - 1))] 25 (0, 0)) (by (with_reducible repeat (first | refine blk_drewN ?_ _ | refine blk_drew ?_ | refine blk_alloc ?_ _)); refine blk_put (cs := #[.int .i64 (Int.tmod (wrap64 (a0)) 60000), .int .i64 (wrap64 (1 + (Int.tmod (wrap64 (a1)) 5000))), .int .i64 0]) ?_ 2 _ rfl; (with_reducible repeat (first | refine blk_drewN ?_ _ | refine blk_drew ?_ | refine blk_alloc ?_ _)); refine blk_put (cs := #[.int .i64 (Int.tmod (wrap64 (a0)) 60000), .int .i64 0, .int .i64 0]) ?_ 1 _ rfl; (with_reducible repeat (first | refine blk_drewN ?_ _ | refine blk_drew ?_ | refine blk_alloc ?_ _)); refine blk_put (cs := #[.int .i64 0, .int .i64 0, .int .i64 0]) ?_ 0 _ rfl; (with_reducible repeat (first | refine blk_drewN ?_ _ | refine blk_drew ?_ | refine blk_alloc ?_ _)); exact BK166.out) hb); have n1_ := Aside0.mk (below_step (by repeat (first | (with_reducible first | exact HB.out | apply below_alloc | apply pw_below_drewN | apply below_drew1 | refine below_set ?_ GE166.out) | exact HB.out)) hb); clear BK166; clear HB; have BK166 := n0_; have HB := n1_; clear n0_ n1_; (try clear hb); (try clear hb2); (try clear hk); (try clear hi)))
      go_ret
      exact ⟨by first | rfl | (simp [errW_none, errW_some] <;> rfl) | (simp [*, errW_none, errW_some] <;> rfl), by repeat (first | (with_reducible first | exact HB.out | apply below_alloc | apply pw_below_drewN | apply below_drew1 | refine below_set ?_ GE166.out) | exact HB.out)⟩
  · replace c7 := Bool.eq_false_iff.mpr c7
    subst c7
    have H1 : (some false) = some r := by rw [if_neg (show ¬ (false = true) by decide)] at H; exact H
    clear H
    have H := H1
    clear H1
    obtain rfl := Option.some.inj H
    go_enter Try.func4, Try.ntmps4
    go_wp2_with (first | ((with_reducible refine gate_callee (f := 14) rfl ?_); refine goesL_ (some 19) rfl rfl Try.func14 (by kernel_rfl) rfl #[] rfl (by (try simp only [List.map_toArray, List.map_cons, List.map_nil]); first | done | rfl | (simp only [List.length_drop, List.length_take]; rfl)) ?_; (with_reducible refine (cantlelaw07_Lives.calls k  false _ A6.out).mono ?_); rintro e w49 ⟨rfl, hb⟩; refine ⟨_, rfl, ?_⟩; have n0_ := Aside0.mk (below_step (by repeat (first | (with_reducible first | exact HB.out | apply below_alloc | apply pw_below_drewN | apply below_drew1) | exact HB.out)) hb); clear HB; have HB := n0_; clear n0_; (try clear hb); (try clear hb2); (try clear hk); (try clear hi)))
    go_ret
    exact ⟨by first | rfl | (simp [errW_none, errW_some] <;> rfl) | (simp [*, errW_none, errW_some] <;> rfl), by repeat (first | (with_reducible first | exact HB.out | apply below_alloc | apply pw_below_drewN | apply below_drew1) | exact HB.out)⟩

/-- THE ONE PURE STATEMENT of cantlelaw07_SlotTurned: yours. -/
def cantlelaw07_SlotTurned.Pure : Prop := ∀ (a0 : Int) (a1 : Int) (a2 : Int) (a3 : Int) (a4 : Int), (Lit.int .u16 a0).wf = true → (Lit.int .u16 a1).wf = true → (Lit.int .u16 a2).wf = true → (Lit.int .u8 a3).wf = true → (Lit.int .u16 a4).wf = true → ∃ k, cantlelaw07_SlotTurned.f k a0 a1 a2 a3 a4 = some true
theorem cantlelaw07_SlotTurned.walk (P : cantlelaw07_SlotTurned.Pure) (a0 : Int) (a1 : Int) (a2 : Int) (a3 : Int) (a4 : Int) (w : World) (w0 : (Lit.int .u16 a0).wf = true) (w1 : (Lit.int .u16 a1).wf = true) (w2 : (Lit.int .u16 a2).wf = true) (w3 : (Lit.int .u8 a3).wf = true) (w4 : (Lit.int .u16 a4).wf = true) :
    Calls Try.prog 4 #[.int .u16 a0, .int .u16 a1, .int .u16 a2, .int .u8 a3, .int .u16 a4] w fun e w' => e = .returned (.bool true) ∧ Below w.heap.size w w' := by
  obtain ⟨k, h⟩ := P a0 a1 a2 a3 a4 w0 w1 w2 w3 w4
  refine (cantlelaw07_SlotTurned.calls k a0 a1 a2 a3 a4 true w h).mono ?_
  rintro e w' ⟨rfl, hd⟩
  exact ⟨rfl, hd⟩

end Go.Proofs.Ytdccgedbgajidaa.PSlotTurned
