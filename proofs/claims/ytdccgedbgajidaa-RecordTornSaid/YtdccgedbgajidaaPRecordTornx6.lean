-- Laid by a program of this session (wip/tools), out of the translation; proved by Lean.
import Derived.Test.YtdccgedbgajidaaPRecordTornx0
import Derived.Test.YtdccgedbgajidaaPRecordTornx1
import Derived.Test.YtdccgedbgajidaaPRecordTornx3
import Derived.Test.YtdccgedbgajidaaPRecordTornx4
import Derived.Test.YtdccgedbgajidaaPRecordTornx5
namespace Go.Proofs.Ytdccgedbgajidaa.PRecordTorn
open Go.RowKit Go.Proofs.YtdccgedbgajidaaW.PrintWords Go.Proofs.YtdccgedbgajidaaW.PrintLast Go.Proofs.YtdccgedbgajidaaW.PrintMore
attribute [local go_sem] max2_int min2_int max_two min_two max_three min_three max_four min_four   -- for this text's walks alone
set_option linter.unusedVariables false
set_option linter.unusedSimpArgs false

attribute [local go_sem high] eqA65
/-! ### cantlelaw09_RecordTorn: function 12 -/
mutual
def cantlelaw09_RecordTorn.j0 : Nat → Int → List Int → Bool → Int → Int → Int → Int → Option (Bool)
  | 0, _, _, _, _, _, _, _ => none
  | k + 1, x4, x12, x48, x200000, x200001, x200002, x200003 => if x48 = true then (some false) else (if 8 ≤ 35184372088832 then (cantlelaw09_RecordTorn.l0 k x4 (List.replicate 8 0) true false x12 (x12.length : Int) 0 x200000 x200001 x200002 x200003) else (none))
def cantlelaw09_RecordTorn.l0 : Nat → Int → List Int → Bool → Bool → List Int → Int → Int → Int → Int → Int → Int → Option (Bool)
  | 0, _, _, _, _, _, _, _, _, _, _, _ => none
  | k + 1, x4, x14, x15, x16, x50, x51, x52, x200000, x200001, x200002, x200003 => if x52 < x51 then (if 0 ≤ x52 then (if x52 < (x50.length : Int) then (if (Go.bits .and .u8 (shr .u8 x4 x52) 1) = 1 then (if x52 < (x14.length : Int) then ((some (x14.set (x52 : Int).toNat (rd x50 x52) : List Int)).bind fun y208 => (if x16 = true then (cantlelaw09_RecordTorn.l0 k x4 y208 x15 true x50 x51 (wrap64 (x52 + 1)) x200000 x200001 x200002 x200003) else (cantlelaw09_RecordTorn.l0 k x4 y208 x15 ((rd x50 x52) != 0) x50 x51 (wrap64 (x52 + 1)) x200000 x200001 x200002 x200003))) else (none)) else (if x15 = true then (cantlelaw09_RecordTorn.l0 k x4 x14 ((rd x50 x52) == 0) x16 x50 x51 (wrap64 (x52 + 1)) x200000 x200001 x200002 x200003) else (cantlelaw09_RecordTorn.l0 k x4 x14 false x16 x50 x51 (wrap64 (x52 + 1)) x200000 x200001 x200002 x200003))) else (none)) else (none)) else ((record_Decode.f k x14).bind fun bt209 => (if x15 = true then (if bt209.2.2.2.2 = 1 then (some (bt209.1 == x200000 && (bt209.2.1 == x200001 && (bt209.2.2.1 == x200002 && (bt209.2.2.2.1 == x200003))))) else (some false)) else (if x16 = true then (if bt209.2.2.2.2 = 2 then (some (bt209.1 == 0 && (bt209.2.1 == 0 && (bt209.2.2.1 == 0 && (bt209.2.2.2.1 == 0))))) else (some false)) else (if bt209.2.2.2.2 = 0 then (some (bt209.1 == 0 && (bt209.2.1 == 0 && (bt209.2.2.1 == 0 && (bt209.2.2.2.1 == 0))))) else (some false)))))
end
def cantlelaw09_RecordTorn.f (k : Nat) (a0 : Int) (a1 : Int) (a2 : Int) (a3 : Int) (a4 : Int) : Option (Bool) := (cantlelaw09_Lives.f k).bind fun t198 => (if t198 = true then ((record_Encode.f k (Int.tmod (wrap64 (a0)) 65534) (Int.tmod (wrap64 (a1)) 65534) (Int.tmod (wrap64 (a2)) 65534) (wrap64 (1 + (Int.tmod (wrap64 (a3)) 65534)))).bind fun bt200 => (if bt200.2 = 0 then (cantlelaw09_RecordTorn.j0 k a4 bt200.1 ((bt200.1.length : Int) != 8) (Int.tmod (wrap64 (a0)) 65534) (Int.tmod (wrap64 (a1)) 65534) (Int.tmod (wrap64 (a2)) 65534) (wrap64 (1 + (Int.tmod (wrap64 (a3)) 65534)))) else (cantlelaw09_RecordTorn.j0 k a4 bt200.1 true (Int.tmod (wrap64 (a0)) 65534) (Int.tmod (wrap64 (a1)) 65534) (Int.tmod (wrap64 (a2)) 65534) (wrap64 (1 + (Int.tmod (wrap64 (a3)) 65534)))))) else (some false))
theorem cantlelaw09_RecordTorn.mono_l : ∀ k, (∀ y0 y1 y2 y3 y4 y5 y6, LeO (cantlelaw09_RecordTorn.j0 k y0 y1 y2 y3 y4 y5 y6) (cantlelaw09_RecordTorn.j0 (k + 1) y0 y1 y2 y3 y4 y5 y6)) ∧ (∀ y0 y1 y2 y3 y4 y5 y6 y7 y8 y9 y10, LeO (cantlelaw09_RecordTorn.l0 k y0 y1 y2 y3 y4 y5 y6 y7 y8 y9 y10) (cantlelaw09_RecordTorn.l0 (k + 1) y0 y1 y2 y3 y4 y5 y6 y7 y8 y9 y10))
  | 0 => ⟨fun _ _ _ _ _ _ _ r h => by simp [cantlelaw09_RecordTorn.j0] at h, fun _ _ _ _ _ _ _ _ _ _ _ r h => by simp [cantlelaw09_RecordTorn.l0] at h⟩
  | k + 1 => by
    obtain ⟨ih0, ih1⟩ := cantlelaw09_RecordTorn.mono_l k
    refine ⟨?_, ?_⟩
    · intro y0 y1 y2 y3 y4 y5 y6
      unfold cantlelaw09_RecordTorn.j0
      repeat' first
      | (with_reducible exact ih0 _ _ _ _ _ _ _)
      | (with_reducible exact ih1 _ _ _ _ _ _ _ _ _ _ _)
      | (with_reducible exact cantlelaw09_Lives.mono _)
      | (with_reducible exact record_Decode.mono _ _)
      | (with_reducible exact record_Encode.mono _ _ _ _ _)
      | (with_reducible exact LeO.refl _)
      | (with_reducible exact LeO.none _)
      | (with_reducible refine LeO.ite ?_ ?_)
      | (with_reducible refine LeO.bind ?_ (fun _ => ?_))
      | exact ih0 _ _ _ _ _ _ _
      | exact ih1 _ _ _ _ _ _ _ _ _ _ _
      | exact cantlelaw09_Lives.mono _
      | exact record_Decode.mono _ _
      | exact record_Encode.mono _ _ _ _ _
      | exact LeO.none _
      | refine LeO.ite ?_ ?_
      | refine LeO.bind ?_ (fun _ => ?_)
    · intro y0 y1 y2 y3 y4 y5 y6 y7 y8 y9 y10
      unfold cantlelaw09_RecordTorn.l0
      repeat' first
      | (with_reducible exact ih0 _ _ _ _ _ _ _)
      | (with_reducible exact ih1 _ _ _ _ _ _ _ _ _ _ _)
      | (with_reducible exact cantlelaw09_Lives.mono _)
      | (with_reducible exact record_Decode.mono _ _)
      | (with_reducible exact record_Encode.mono _ _ _ _ _)
      | (with_reducible exact LeO.refl _)
      | (with_reducible exact LeO.none _)
      | (with_reducible refine LeO.ite ?_ ?_)
      | (with_reducible refine LeO.bind ?_ (fun _ => ?_))
      | exact ih0 _ _ _ _ _ _ _
      | exact ih1 _ _ _ _ _ _ _ _ _ _ _
      | exact cantlelaw09_Lives.mono _
      | exact record_Decode.mono _ _
      | exact record_Encode.mono _ _ _ _ _
      | exact LeO.none _
      | refine LeO.ite ?_ ?_
      | refine LeO.bind ?_ (fun _ => ?_)
theorem cantlelaw09_RecordTorn.mono : ∀ a0 a1 a2 a3 a4 k, LeO (cantlelaw09_RecordTorn.f k a0 a1 a2 a3 a4) (cantlelaw09_RecordTorn.f (k + 1) a0 a1 a2 a3 a4) := by
  intro a0 a1 a2 a3 a4 k
  obtain ⟨ih0, ih1⟩ := cantlelaw09_RecordTorn.mono_l k
  unfold cantlelaw09_RecordTorn.f
  repeat' first
      | (with_reducible exact ih0 _ _ _ _ _ _ _)
      | (with_reducible exact ih1 _ _ _ _ _ _ _ _ _ _ _)
      | (with_reducible exact cantlelaw09_Lives.mono _)
      | (with_reducible exact record_Decode.mono _ _)
      | (with_reducible exact record_Encode.mono _ _ _ _ _)
      | (with_reducible exact LeO.refl _)
      | (with_reducible exact LeO.none _)
      | (with_reducible refine LeO.ite ?_ ?_)
      | (with_reducible refine LeO.bind ?_ (fun _ => ?_))
      | exact ih0 _ _ _ _ _ _ _
      | exact ih1 _ _ _ _ _ _ _ _ _ _ _
      | exact cantlelaw09_Lives.mono _
      | exact record_Decode.mono _ _
      | exact record_Encode.mono _ _ _ _ _
      | exact LeO.none _
      | refine LeO.ite ?_ ?_
      | refine LeO.bind ?_ (fun _ => ?_)
set_option maxHeartbeats 8000000 in
set_option maxRecDepth 100000 in
theorem cantlelaw09_RecordTorn.calls (k : Nat) (a0 : Int) (a1 : Int) (a2 : Int) (a3 : Int) (a4 : Int) (r : Bool) (w : World) (h : cantlelaw09_RecordTorn.f k a0 a1 a2 a3 a4 = some r) :
    Calls Try.prog 12 #[.int .u16 a0, .int .u16 a1, .int .u16 a2, .int .u16 a3, .int .u8 a4] w fun e w' => e = .returned (.bool r) ∧ Below w.heap.size w w' := by
  have hu65 := Try.underlying65
  have HB := Aside0.mk (Below.refl w.heap.size w)
  have H : ((cantlelaw09_Lives.f k).bind fun t198 => (if t198 = true then ((record_Encode.f k (Int.tmod (wrap64 (a0)) 65534) (Int.tmod (wrap64 (a1)) 65534) (Int.tmod (wrap64 (a2)) 65534) (wrap64 (1 + (Int.tmod (wrap64 (a3)) 65534)))).bind fun bt200 => (if bt200.2 = 0 then (cantlelaw09_RecordTorn.j0 k a4 bt200.1 ((bt200.1.length : Int) != 8) (Int.tmod (wrap64 (a0)) 65534) (Int.tmod (wrap64 (a1)) 65534) (Int.tmod (wrap64 (a2)) 65534) (wrap64 (1 + (Int.tmod (wrap64 (a3)) 65534)))) else (cantlelaw09_RecordTorn.j0 k a4 bt200.1 true (Int.tmod (wrap64 (a0)) 65534) (Int.tmod (wrap64 (a1)) 65534) (Int.tmod (wrap64 (a2)) 65534) (wrap64 (1 + (Int.tmod (wrap64 (a3)) 65534)))))) else (some false))) = some r := h
  clear h
  replace H := Option.bind_eq_some_iff.mp H
  obtain ⟨t198, A60, H⟩ := H
  replace H : (if t198 = true then ((record_Encode.f k (Int.tmod (wrap64 (a0)) 65534) (Int.tmod (wrap64 (a1)) 65534) (Int.tmod (wrap64 (a2)) 65534) (wrap64 (1 + (Int.tmod (wrap64 (a3)) 65534)))).bind fun bt200 => (if bt200.2 = 0 then (cantlelaw09_RecordTorn.j0 k a4 bt200.1 ((bt200.1.length : Int) != 8) (Int.tmod (wrap64 (a0)) 65534) (Int.tmod (wrap64 (a1)) 65534) (Int.tmod (wrap64 (a2)) 65534) (wrap64 (1 + (Int.tmod (wrap64 (a3)) 65534)))) else (cantlelaw09_RecordTorn.j0 k a4 bt200.1 true (Int.tmod (wrap64 (a0)) 65534) (Int.tmod (wrap64 (a1)) 65534) (Int.tmod (wrap64 (a2)) 65534) (wrap64 (1 + (Int.tmod (wrap64 (a3)) 65534)))))) else (some false)) = some r := H
  have A6 := Aside0.mk A60
  clear A60
  by_cases c7 : t198 = true
  · subst c7
    have H1 : ((record_Encode.f k (Int.tmod (wrap64 (a0)) 65534) (Int.tmod (wrap64 (a1)) 65534) (Int.tmod (wrap64 (a2)) 65534) (wrap64 (1 + (Int.tmod (wrap64 (a3)) 65534)))).bind fun bt200 => (if bt200.2 = 0 then (cantlelaw09_RecordTorn.j0 k a4 bt200.1 ((bt200.1.length : Int) != 8) (Int.tmod (wrap64 (a0)) 65534) (Int.tmod (wrap64 (a1)) 65534) (Int.tmod (wrap64 (a2)) 65534) (wrap64 (1 + (Int.tmod (wrap64 (a3)) 65534)))) else (cantlelaw09_RecordTorn.j0 k a4 bt200.1 true (Int.tmod (wrap64 (a0)) 65534) (Int.tmod (wrap64 (a1)) 65534) (Int.tmod (wrap64 (a2)) 65534) (wrap64 (1 + (Int.tmod (wrap64 (a3)) 65534)))))) = some r := by rw [if_pos rfl] at H; exact H
    clear H
    have H := H1
    clear H1
    replace H := Option.bind_eq_some_iff.mp H
    obtain ⟨⟨t200, t203⟩, A80, H⟩ := H
    replace H : (if t203 = 0 then (cantlelaw09_RecordTorn.j0 k a4 t200 ((t200.length : Int) != 8) (Int.tmod (wrap64 (a0)) 65534) (Int.tmod (wrap64 (a1)) 65534) (Int.tmod (wrap64 (a2)) 65534) (wrap64 (1 + (Int.tmod (wrap64 (a3)) 65534)))) else (cantlelaw09_RecordTorn.j0 k a4 t200 true (Int.tmod (wrap64 (a0)) 65534) (Int.tmod (wrap64 (a1)) 65534) (Int.tmod (wrap64 (a2)) 65534) (wrap64 (1 + (Int.tmod (wrap64 (a3)) 65534))))) = some r := H
    have A8 := Aside0.mk A80
    clear A80
    have HC9 := Aside0.mk H
    clear H
    go_enter Try.func12, Try.ntmps12
    go_upto_region 5 with (first | ((with_reducible refine gate_callee (f := 30) rfl ?_); refine goesL_ (some 21) rfl rfl Try.func30 (by kernel_rfl) rfl #[] rfl (by (try simp only [List.map_toArray, List.map_cons, List.map_nil]); first | done | rfl | (simp only [List.length_drop, List.length_take]; rfl)) ?_; (with_reducible refine (cantlelaw09_Lives.calls k  true _ A6.out).mono ?_); rintro e w10 ⟨rfl, hb⟩; refine ⟨_, rfl, ?_⟩; have n0_ := Aside0.mk (below_step (by repeat (first | (with_reducible first | exact HB.out | apply below_alloc | apply pw_below_drewN | apply below_drew1) | exact HB.out)) hb); clear HB; have HB := n0_; clear n0_; (try clear hb); (try clear hb2); (try clear hk); (try clear hi)) | ((with_reducible refine gate_dst (N := 11) rfl ?_); (try (refine gate_guard (by rfl) ?_; dsimp only)); refine box_event ?hg (N := 11) ?hd (cs := #[.int .i64 0, .int .i64 0, .int .i64 0, .int .i64 0]) (t := 65) ?hr ?_; (case hd => rfl); (case hg => rfl); (case hr => first | (go_simp; done) | (go_simp; rfl)); intro gb199 hg w11 hbox hb; have n0_ := Aside0.mk (below_step (by repeat (first | (with_reducible first | exact HB.out | apply below_alloc | apply pw_below_drewN | apply below_drew1) | exact HB.out)) hb); have n1_ := Aside0.mk (hbox); have n2_ := Aside0.mk ((by rw [hg]; exact (below_size (by repeat (first | (with_reducible first | exact HB.out | apply below_alloc | apply pw_below_drewN | apply below_drew1) | exact HB.out))) : w.heap.size ≤ gb199)); have n3_ := Aside0.mk ((by rw [hg]; exact (below_size (by repeat (first | (with_reducible first | exact HB.out | apply below_alloc | apply pw_below_drewN | apply below_drew1) | exact HB.out))) : w.heap.size ≤ gb199)); clear HB; have HB := n0_; have BK199 := n1_; have GW199 := n2_; have GE199 := n3_; clear n0_ n1_ n2_ n3_; clear hb hbox hg; have hcz12_0 : w11.cell? ⟨gb199, 0, none⟩ = some (.int .i64 0) := (blk_cell BK199.out 0).trans rfl; have hcz12_1 : w11.cell? ⟨gb199, 1, none⟩ = some (.int .i64 0) := (blk_cell BK199.out 1).trans rfl; have hcz12_2 : w11.cell? ⟨gb199, 2, none⟩ = some (.int .i64 0) := (blk_cell BK199.out 2).trans rfl; have hcz12_3 : w11.cell? ⟨gb199, 3, none⟩ = some (.int .i64 0) := (blk_cell BK199.out 3).trans rfl; have hfz12_0 := blk_frozen BK199.out 0; have hfz12_1 := blk_frozen BK199.out 1; have hfz12_2 := blk_frozen BK199.out 2; have hfz12_3 := blk_frozen BK199.out 3) | ((with_reducible refine gate_callee (f := 31) rfl ?_); refine goesL_ (some 39) rfl rfl Try.func31 (by kernel_rfl) rfl #[.agg #[.int .i64 (Int.tmod (wrap64 (a0)) 65534), .int .i64 (Int.tmod (wrap64 (a1)) 65534), .int .i64 (Int.tmod (wrap64 (a2)) 65534), .int .i64 (wrap64 (1 + (Int.tmod (wrap64 (a3)) 65534)))]] rfl (by (try simp only [List.map_toArray, List.map_cons, List.map_nil]); first | done | rfl | (simp only [List.length_drop, List.length_take]; rfl)) ?_; (with_reducible refine (record_Encode.calls k (Int.tmod (wrap64 (a0)) 65534) (Int.tmod (wrap64 (a1)) 65534) (Int.tmod (wrap64 (a2)) 65534) (wrap64 (1 + (Int.tmod (wrap64 (a3)) 65534))) t200 t203 _ A8.out).mono ?_); rintro e w13 ⟨v201, rfl, ho0, hb⟩; refine ⟨_, rfl, ?_⟩; have n0_ := Aside0.mk (Kd.R_lower ho0 (below_size (by repeat (first | (with_reducible first | exact HB.out | apply below_alloc | apply pw_below_drewN | apply below_drew1 | refine below_set ?_ GE199.out) | exact HB.out)))); have n1_ := Aside0.mk (blk_below (g := gb199) (o := .cells #[.int .i64 (Int.tmod (wrap64 (a0)) 65534), .int .i64 (Int.tmod (wrap64 (a1)) 65534), .int .i64 (Int.tmod (wrap64 (a2)) 65534), .int .i64 (wrap64 (1 + (Int.tmod (wrap64 (a3)) 65534)))] 65 (0, 0)) (by (with_reducible repeat (first | refine blk_drewN ?_ _ | refine blk_drew ?_ | refine blk_alloc ?_ _)); refine blk_put (cs := #[.int .i64 (Int.tmod (wrap64 (a0)) 65534), .int .i64 (Int.tmod (wrap64 (a1)) 65534), .int .i64 (Int.tmod (wrap64 (a2)) 65534), .int .i64 0]) ?_ 3 _ rfl; (with_reducible repeat (first | refine blk_drewN ?_ _ | refine blk_drew ?_ | refine blk_alloc ?_ _)); refine blk_put (cs := #[.int .i64 (Int.tmod (wrap64 (a0)) 65534), .int .i64 (Int.tmod (wrap64 (a1)) 65534), .int .i64 0, .int .i64 0]) ?_ 2 _ rfl; (with_reducible repeat (first | refine blk_drewN ?_ _ | refine blk_drew ?_ | refine blk_alloc ?_ _)); refine blk_put (cs := #[.int .i64 (Int.tmod (wrap64 (a0)) 65534), .int .i64 0, .int .i64 0, .int .i64 0]) ?_ 1 _ rfl; (with_reducible repeat (first | refine blk_drewN ?_ _ | refine blk_drew ?_ | refine blk_alloc ?_ _)); refine blk_put (cs := #[.int .i64 0, .int .i64 0, .int .i64 0, .int .i64 0]) ?_ 0 _ rfl; (with_reducible repeat (first | refine blk_drewN ?_ _ | refine blk_drew ?_ | refine blk_alloc ?_ _)); exact BK199.out) hb); have n2_ := Aside0.mk (below_step (by repeat (first | (with_reducible first | exact HB.out | apply below_alloc | apply pw_below_drewN | apply below_drew1 | refine below_set ?_ GE199.out) | exact HB.out)) hb); clear BK199; clear HB; have HO202 := n0_; have BK199 := n1_; have HB := n2_; clear n0_ n1_ n2_; (try clear hb); (try clear hb2); (try clear hk); (try clear hi); (try clear ho0)))
    (try simp only [Act.put, List.setIfInBounds_toArray, List.set_cons_zero, List.set_cons_succ])
    go_cut [48] (fun v48 wc => ∃ (kq : Nat) (x48_8 : Bool), v48 = .bool x48_8 ∧ Aside0 (cantlelaw09_RecordTorn.j0 kq a4 t200 x48_8 (Int.tmod (wrap64 (a0)) 65534) (Int.tmod (wrap64 (a1)) 65534) (Int.tmod (wrap64 (a2)) 65534) (wrap64 (1 + (Int.tmod (wrap64 (a3)) 65534))) = some r) ∧ Aside0 (kq ≤ k) ∧ Aside0 (Kd.R (Kd.int .u64) 22 wc w.heap.size (fun _ => True) v201 t200) ∧ Aside0 (wc.heap[gb199]? = some (.cells #[.int .i64 (Int.tmod (wrap64 (a0)) 65534), .int .i64 (Int.tmod (wrap64 (a1)) 65534), .int .i64 (Int.tmod (wrap64 (a2)) 65534), .int .i64 (wrap64 (1 + (Int.tmod (wrap64 (a3)) 65534)))] 65 (0, 0))) ∧ Aside0 (Below w.heap.size w wc))
    case first =>
      have H := HC9.out
      clear HC9
      by_cases c14 : t203 = 0
      · rw [if_pos c14] at H
        have c14b0 : (t203 == 0) = true := beq_iff_eq.mpr c14
        have c14b1 : (t203 != 0) = false := bne_eq_false_iff_eq.mpr c14
        clear c14
        (first | rw [c14b0] | (simp only [i64_w, i32_w]; rw [c14b0]) | skip)
        have H' := Aside0.mk H
        clear H
        obtain ⟨Ao15, co15, eo15⟩ := Kd.R_slice HO202.out
        subst eo15
        go_wp2
        go_meet
        case rel => exact ⟨_, (((t200.length : Int) != 8)), (by first | rfl | (simp; done) | (simp [*]; done)), H', ⟨by first | omega | exact Nat.le_refl _⟩, ⟨by (with_reducible repeat (first | apply Kd.R_alloc | apply Kd.R_drewN | apply Kd.R_drew)); exact HO202.out⟩, ⟨by (with_reducible repeat (first | refine blk_drewN ?_ _ | refine blk_drew ?_ | refine blk_alloc ?_ _)); exact BK199.out⟩, ⟨by repeat (first | (with_reducible first | exact HB.out | apply below_alloc | apply pw_below_drewN | apply below_drew1 | refine below_set ?_ GE199.out) | exact HB.out)⟩⟩
      · rw [if_neg c14] at H
        have c14b0 : (t203 == 0) = false := beq_eq_false_iff_ne.mpr c14
        have c14b1 : (t203 != 0) = true := bne_iff_ne.mpr c14
        (first | rw [c14b0] | (simp only [i64_w, i32_w]; rw [c14b0]) | skip)
        have H' := Aside0.mk H
        clear H
        go_wp2
        go_meet
        case rel => exact ⟨_, (true), (by first | rfl | (simp; done) | (simp [*]; done)), H', ⟨by first | omega | exact Nat.le_refl _⟩, ⟨by (with_reducible repeat (first | apply Kd.R_alloc | apply Kd.R_drewN | apply Kd.R_drew)); exact HO202.out⟩, ⟨by (with_reducible repeat (first | refine blk_drewN ?_ _ | refine blk_drew ?_ | refine blk_alloc ?_ _)); exact BK199.out⟩, ⟨by repeat (first | (with_reducible first | exact HB.out | apply below_alloc | apply pw_below_drewN | apply below_drew1 | refine below_set ?_ GE199.out) | exact HB.out)⟩⟩
    case rest =>
      clear HC9
      try clear c1
      try clear p2
      try clear c3
      try clear p6
      try clear c7
      try clear c12
      try clear c14
      try clear c14b0
      try clear c14b1
      try clear hcz12_0
      try clear hcz12_1
      try clear hcz12_2
      try clear hcz12_3
      try clear hfz12_0
      try clear hfz12_1
      try clear hfz12_2
      try clear hfz12_3
      obtain ⟨kq, x48_8, rfl, HA, HJ8, HO_12, BK199, HB⟩ := hcut
      cases kq with
      | zero => exact absurd HA.out (by simp [cantlelaw09_RecordTorn.j0])
      | succ kj8 =>
        have H := HA.out
        clear HA
        simp only [cantlelaw09_RecordTorn.j0] at H
        by_cases c16 : x48_8 = true
        · subst c16
          have H1 : (some false) = some r := by rw [if_pos rfl] at H; exact H
          clear H
          have H := H1
          clear H1
          obtain rfl := Option.some.inj H
          go_wp2
          go_ret
          exact ⟨by first | rfl | (simp [errW_none, errW_some] <;> rfl) | (simp [*, errW_none, errW_some] <;> rfl), by repeat (first | (with_reducible first | exact HB.out | apply below_alloc | apply pw_below_drewN | apply below_drew1 | refine below_set ?_ GE199.out) | exact HB.out)⟩
        · replace c16 := Bool.eq_false_iff.mpr c16
          subst c16
          have H1 : (if 8 ≤ 35184372088832 then (cantlelaw09_RecordTorn.l0 kj8 a4 (List.replicate 8 0) true false t200 (t200.length : Int) 0 (Int.tmod (wrap64 (a0)) 65534) (Int.tmod (wrap64 (a1)) 65534) (Int.tmod (wrap64 (a2)) 65534) (wrap64 (1 + (Int.tmod (wrap64 (a3)) 65534)))) else (none)) = some r := by rw [if_neg (show ¬ (false = true) by decide)] at H; exact H
          clear H
          have H := H1
          clear H1
          by_cases c17 : 8 ≤ 35184372088832
          · rw [if_pos c17] at H
            have c17b0 := eq_true c17
            have c17b1 : decide (8 ≤ 35184372088832) = true := decide_eq_true c17
            clear c17
            obtain ⟨y204, hy204⟩ : ∃ y_ : List Int, y_ = (List.replicate 8 0) := ⟨_, rfl⟩
            replace H : (cantlelaw09_RecordTorn.l0 kj8 a4 y204 true false t200 (t200.length : Int) 0 (Int.tmod (wrap64 (a0)) 65534) (Int.tmod (wrap64 (a1)) 65534) (Int.tmod (wrap64 (a2)) 65534) (wrap64 (1 + (Int.tmod (wrap64 (a3)) 65534)))) = some r := by first | (rw [hy204]; with_reducible exact H) | (have H2_ := (Option.bind_some _ _).symm.trans H; rw [hy204]; with_reducible exact H2_) | (have H2_ := (Option.bind_some _ _).symm.trans H; with_reducible exact H2_) | with_reducible exact H | (rw [hy204]; exact H) | exact H
            have Ny204 := Aside0.mk hy204
            clear hy204
            have H' := Aside0.mk H
            clear H
            go_wp2_with (first | ((with_reducible refine gate_dst (N := 49) rfl ?_); (try (refine gate_guard (by rfl) ?_; dsimp only)); refine Kd.R_make (Kd.int .u64) _ 22 rfl (N := 49) rfl 45 _ _ rfl 8 rfl rfl Try.underlying45 (.int .u64 0) 8 info22 rfl (by decide) (by omega) 0 (ok := fun _ => True) (okp := fun _ => True) rfl (fun _ hk => hk) trivial (by omega) (by omega) (Below.refl _ _) (Nat.le_refl _) ?_; intro v205 w18 ho19 hb hg_ hnew_; clear hg_ hnew_; (first | rw [← Ny204.out] at ho19 | (simp only [Int.reduceToNat] at ho19; rw [← Ny204.out] at ho19)); have n0_ := Aside0.mk (Kd.R_elder' (by (with_reducible repeat (first | apply Kd.R_alloc | apply Kd.R_drewN | apply Kd.R_drew)); exact HO_12.out) (Kd.R_base ho19) hb); have n1_ := Aside0.mk (Kd.R_lower (Kd.R_new' ho19 (Kd.R_lt (by (with_reducible repeat (first | apply Kd.R_alloc | apply Kd.R_drewN | apply Kd.R_drew)); exact HO_12.out))) (below_size (by repeat (first | (with_reducible first | exact HB.out | apply below_alloc | apply pw_below_drewN | apply below_drew1 | refine below_set ?_ GE199.out) | exact HB.out)))); have n2_ := Aside0.mk (blk_below (g := gb199) (o := .cells #[.int .i64 (Int.tmod (wrap64 (a0)) 65534), .int .i64 (Int.tmod (wrap64 (a1)) 65534), .int .i64 (Int.tmod (wrap64 (a2)) 65534), .int .i64 (wrap64 (1 + (Int.tmod (wrap64 (a3)) 65534)))] 65 (0, 0)) (by (with_reducible repeat (first | refine blk_drewN ?_ _ | refine blk_drew ?_ | refine blk_alloc ?_ _)); exact BK199.out) hb); have n3_ := Aside0.mk (below_step (by repeat (first | (with_reducible first | exact HB.out | apply below_alloc | apply pw_below_drewN | apply below_drew1 | refine below_set ?_ GE199.out) | exact HB.out)) hb); clear HO_12; clear BK199; clear HB; have HO_12 := n0_; have HO206 := n1_; have BK199 := n2_; have HB := n3_; clear n0_ n1_ n2_ n3_; clear hb ho19; obtain ⟨Ao20, co20, eo20⟩ := Kd.R_slice HO_12.out; subst eo20))
            go_loopg [15, 16, 52] kj8 (fun kq v15 v16 v52 w' => ∃ (x14_2 : List Int) (x15_2 : Bool) (x16_2 : Bool) (x52_2 : Int), v15 = .bool x15_2 ∧ v16 = .bool x16_2 ∧ v52 = .int .i64 x52_2 ∧ Aside0 (cantlelaw09_RecordTorn.l0 kq a4 x14_2 x15_2 x16_2 t200 (t200.length : Int) x52_2 (Int.tmod (wrap64 (a0)) 65534) (Int.tmod (wrap64 (a1)) 65534) (Int.tmod (wrap64 (a2)) 65534) (wrap64 (1 + (Int.tmod (wrap64 (a3)) 65534))) = some r) ∧ Aside0 (kq ≤ kj8) ∧ Aside0 (Kd.R (Kd.int .u64) 22 w' w.heap.size (fun k_ => some k_ ≠ ((.slice Ao20 t200.length co20) : Value).ownBlock) v205 x14_2) ∧ Aside0 (Kd.R (Kd.int .u64) 22 w' w.heap.size (fun k_ => some k_ ≠ (v205 : Value).ownBlock) (.slice Ao20 t200.length co20) t200) ∧ Aside0 (w'.heap[gb199]? = some (.cells #[.int .i64 (Int.tmod (wrap64 (a0)) 65534), .int .i64 (Int.tmod (wrap64 (a1)) 65534), .int .i64 (Int.tmod (wrap64 (a2)) 65534), .int .i64 (wrap64 (1 + (Int.tmod (wrap64 (a3)) 65534)))] 65 (0, 0))) ∧ Aside0 (Below w.heap.size w w'))
            case atStart => exact ⟨(y204), (true), (false), (0), (by first | rfl | (simp; done) | (simp [*]; done)), (by first | rfl | (simp; done) | (simp [*]; done)), (by first | rfl | (simp; done) | (simp [*]; done)), H', ⟨Nat.le_refl _⟩, ⟨by (with_reducible repeat (first | apply Kd.R_alloc | apply Kd.R_drewN | apply Kd.R_drew)); exact Kd.R_mono HO206.out (fun _ hk => hk.2)⟩, ⟨by (with_reducible repeat (first | apply Kd.R_alloc | apply Kd.R_drewN | apply Kd.R_drew)); exact Kd.R_mono HO_12.out (fun _ hk => hk.2)⟩, ⟨by (with_reducible repeat (first | refine blk_drewN ?_ _ | refine blk_drew ?_ | refine blk_alloc ?_ _)); exact BK199.out⟩, ⟨by repeat (first | (with_reducible first | exact HB.out | apply below_alloc | apply pw_below_drewN | apply below_drew1 | refine below_set ?_ GE199.out) | exact HB.out)⟩⟩
            case round =>
              clear H'
              try clear c1
              try clear p2
              try clear c3
              try clear p6
              try clear c7
              try clear c12
              try clear c14
              try clear c14b0
              try clear c14b1
              try clear c16
              try clear c17
              try clear c17b0
              try clear c17b1
              try clear hcz12_0
              try clear hcz12_1
              try clear hcz12_2
              try clear hcz12_3
              try clear hfz12_0
              try clear hfz12_1
              try clear hfz12_2
              try clear hfz12_3
              try clear p2
              try clear p6
              obtain ⟨x14_2, x15_2, x16_2, x52_2, rfl, rfl, rfl, HA, HK2, HO_14, HO_50, BK199, HB⟩ := hrel
              cases gk with
              | zero => exact absurd HA.out (by simp [cantlelaw09_RecordTorn.l0])
              | succ k2 =>
                have H := HA.out
                clear HA
                simp only [cantlelaw09_RecordTorn.l0] at H
                by_cases c21 : x52_2 < (t200.length : Int)
                · rw [if_pos c21] at H
                  have c21b0 : decide (x52_2 < (t200.length : Int)) = true := decide_eq_true c21
                  clear c21
                  by_cases c22 : 0 ≤ x52_2
                  · rw [if_pos c22] at H
                    have c22b0 : decide (0 ≤ x52_2) = true := decide_eq_true c22
                    clear c22
                    by_cases c23 : x52_2 < (t200.length : Int)
                    · rw [if_pos c23] at H
                      have c23b0 : decide (x52_2 < (t200.length : Int)) = true := decide_eq_true c23
                      clear c23
                      have c24b0 := eq_true (of_decide_eq_true (by first | (with_reducible assumption) | assumption) : 0 ≤ x52_2)
                      obtain ⟨ji25, hji25⟩ : ∃ j_ : Int, (shr .u8 a4 x52_2) = j_ := ⟨_, rfl⟩
                      replace H : (if (Go.bits .and .u8 (ji25) 1) = 1 then (if x52_2 < (x14_2.length : Int) then ((some (x14_2.set (x52_2 : Int).toNat (rd t200 x52_2) : List Int)).bind fun y208 => (if x16_2 = true then (cantlelaw09_RecordTorn.l0 k2 a4 y208 x15_2 true t200 (t200.length : Int) (wrap64 (x52_2 + 1)) (Int.tmod (wrap64 (a0)) 65534) (Int.tmod (wrap64 (a1)) 65534) (Int.tmod (wrap64 (a2)) 65534) (wrap64 (1 + (Int.tmod (wrap64 (a3)) 65534)))) else (cantlelaw09_RecordTorn.l0 k2 a4 y208 x15_2 ((rd t200 x52_2) != 0) t200 (t200.length : Int) (wrap64 (x52_2 + 1)) (Int.tmod (wrap64 (a0)) 65534) (Int.tmod (wrap64 (a1)) 65534) (Int.tmod (wrap64 (a2)) 65534) (wrap64 (1 + (Int.tmod (wrap64 (a3)) 65534)))))) else (none)) else (if x15_2 = true then (cantlelaw09_RecordTorn.l0 k2 a4 x14_2 ((rd t200 x52_2) == 0) x16_2 t200 (t200.length : Int) (wrap64 (x52_2 + 1)) (Int.tmod (wrap64 (a0)) 65534) (Int.tmod (wrap64 (a1)) 65534) (Int.tmod (wrap64 (a2)) 65534) (wrap64 (1 + (Int.tmod (wrap64 (a3)) 65534)))) else (cantlelaw09_RecordTorn.l0 k2 a4 x14_2 false x16_2 t200 (t200.length : Int) (wrap64 (x52_2 + 1)) (Int.tmod (wrap64 (a0)) 65534) (Int.tmod (wrap64 (a1)) 65534) (Int.tmod (wrap64 (a2)) 65534) (wrap64 (1 + (Int.tmod (wrap64 (a3)) 65534)))))) = some r := by first | (rw [hji25] at H; exact H) | (simp only [hji25] at H ⊢; exact H)
                      have hji25_ : (a4 / 2 ^ min x52_2.toNat 8) = ji25 := hji25
                      have hji25z : x52_2 ≤ 8 → (a4 / 2 ^ x52_2.toNat) = ji25 := shr_small hji25
                      by_cases c26 : (Go.bits .and .u8 (ji25) 1) = 1
                      · rw [if_pos c26] at H
                        have c26b0 : ((Go.bits .and .u8 (ji25) 1) == 1) = true := beq_iff_eq.mpr c26
                        have c26b1 : ((Go.bits .and .u8 (ji25) 1) != 1) = false := bne_eq_false_iff_eq.mpr c26
                        clear c26
                        by_cases c27 : x52_2 < (x14_2.length : Int)
                        · rw [if_pos c27] at H
                          have c27b0 : decide (x52_2 < (x14_2.length : Int)) = true := decide_eq_true c27
                          clear c27
                          obtain ⟨y208, hy208⟩ : ∃ y_ : List Int, y_ = (x14_2.set (x52_2 : Int).toNat (rd t200 x52_2)) := ⟨_, rfl⟩
                          replace H : (if x16_2 = true then (cantlelaw09_RecordTorn.l0 k2 a4 y208 x15_2 true t200 (t200.length : Int) (wrap64 (x52_2 + 1)) (Int.tmod (wrap64 (a0)) 65534) (Int.tmod (wrap64 (a1)) 65534) (Int.tmod (wrap64 (a2)) 65534) (wrap64 (1 + (Int.tmod (wrap64 (a3)) 65534)))) else (cantlelaw09_RecordTorn.l0 k2 a4 y208 x15_2 ((rd t200 x52_2) != 0) t200 (t200.length : Int) (wrap64 (x52_2 + 1)) (Int.tmod (wrap64 (a0)) 65534) (Int.tmod (wrap64 (a1)) 65534) (Int.tmod (wrap64 (a2)) 65534) (wrap64 (1 + (Int.tmod (wrap64 (a3)) 65534))))) = some r := by first | (rw [hy208]; with_reducible exact H) | (have H2_ := (Option.bind_some _ _).symm.trans H; rw [hy208]; with_reducible exact H2_) | (have H2_ := (Option.bind_some _ _).symm.trans H; with_reducible exact H2_) | with_reducible exact H | (rw [hy208]; exact H) | exact H
                          have Ny208 := Aside0.mk hy208
                          clear hy208
                          by_cases c29 : x16_2 = true
                          · subst c29
                            have H1 : (cantlelaw09_RecordTorn.l0 k2 a4 y208 x15_2 true t200 (t200.length : Int) (wrap64 (x52_2 + 1)) (Int.tmod (wrap64 (a0)) 65534) (Int.tmod (wrap64 (a1)) 65534) (Int.tmod (wrap64 (a2)) 65534) (wrap64 (1 + (Int.tmod (wrap64 (a3)) 65534)))) = some r := by rw [if_pos rfl] at H; exact H
                            clear H
                            have H := H1
                            clear H1
                            have H' := Aside0.mk H
                            clear H
                            have p207 : 0 ≤ (x52_2 : Int) := of_decide_eq_true (by first | (with_reducible assumption) | assumption)
                            have q207 : x52_2 < (t200.length : Int) := of_decide_eq_true (by first | (with_reducible assumption) | assumption)
                            obtain ⟨ad207, e207, hx207_0⟩ := Kd.at_int (Kd.R_reads' HO_50.out).2.2 x52_2 p207 q207
                            cases e207
                            replace p207 := eq_true p207
                            replace q207 := eq_true q207
                            have p28 : 0 ≤ (x52_2 : Int) := of_decide_eq_true (by first | (with_reducible assumption) | assumption)
                            have q28 : (x52_2 : Int) < ((x14_2.length : Int) : Int) := of_decide_eq_true (by first | (with_reducible assumption) | assumption)
                            obtain ⟨go28, co28, eo28, gb28, gl28, cl28, HG28⟩ := Kd.R_form HO_14.out (by omega)
                            (first | cases eo28 | (injection eo28 with ea_ en_ ec_; (first | subst ea_ | (injection ea_ with ea_; subst ea_)); subst ec_; clear en_))
                            have GB28 := Aside0.mk gb28
                            have GG28 := Aside0.mk HG28
                            clear gb28 gl28 HG28
                            obtain ⟨hx28_0, hf28_0⟩ := Kd.R_celln 0 HO_14.out (x52_2 : Int) p28 q28
                            replace p28 := eq_true p28
                            replace q28 := eq_true q28
                            have HP30 := Kd.R_putg HO_14.out (x52_2 : Int) (rd t200 x52_2)
                            go_wp2_with (first | ((with_reducible refine gate_store (t := 22) (p := 65) rfl ?_); refine store_event (t := 22) (p := 65) (v := ?vo_w31) (w1 := (wr.setCell ⟨go28, (x52_2 : Int).toNat, none⟩ (.int .u64 (rd t200 x52_2)))) ?hg ?ho ?hn ?hr ?_; (case ho => rfl); (case hg => rfl); (case hn => rfl); (case hr => first | (go_simp; done) | (go_simp; rfl)); intro w31 hw; have hg : wr.grownBy w31 (some go28) := (by rw [hw]; exact HP30.2); have hp_ : Kd.R (Kd.int .u64) 22 w31 w.heap.size (fun k_ => some k_ ≠ (.slice (some ad207) t200.length co20 : Value).ownBlock) (.slice (some ⟨go28, 0, none⟩) x14_2.length co28) y208 := (by rw [hw, Ny208.out]; exact HP30.1); clear HP30; have n0_ := Aside0.mk (hp_); have n1_ := Aside0.mk (Kd.R_after (v := (.slice (some ⟨go28, 0, none⟩) x14_2.length co28)) (v1 := (.slice (some ⟨go28, 0, none⟩) x14_2.length co28)) (ok := (fun _ => True)) (by (with_reducible repeat (first | apply Kd.R_alloc | apply Kd.R_drewN | apply Kd.R_drew)); exact Kd.R_mono HO_50.out (fun _ hk => ⟨trivial, hk⟩)) hg (.inl rfl)); have n2_ := Aside0.mk (blk_grown (g := gb199) (o := .cells #[.int .i64 (Int.tmod (wrap64 (a0)) 65534), .int .i64 (Int.tmod (wrap64 (a1)) 65534), .int .i64 (Int.tmod (wrap64 (a2)) 65534), .int .i64 (wrap64 (1 + (Int.tmod (wrap64 (a3)) 65534)))] 65 (0, 0)) (by (with_reducible repeat (first | refine blk_drewN ?_ _ | refine blk_drew ?_ | refine blk_alloc ?_ _)); exact BK199.out) hg (Kd.R_ne HO_14.out BK199.out (by decide))); have n3_ := Aside0.mk ((by rw [hw]; exact below_set (HB.out) GB28.out : Below w.heap.size w w31)); clear HO_14; clear HO_50; clear BK199; clear HB; have HO_14 := n0_; have HO_50 := n1_; have BK199 := n2_; have HB := n3_; clear n0_ n1_ n2_ n3_; clear hg hw hp_))
                            go_roundg k2
                            case measure => have := HJ8.out; have := HK2.out; omega
                            case rel => exact ⟨(y208), (x15_2), (true), (wrap64 (x52_2 + 1)), (by first | rfl | (simp; done) | (simp [*]; done)), (by first | rfl | (simp; done) | (simp [*]; done)), (by first | rfl | (simp; done) | (simp [*]; done)), H', ⟨by have := HJ8.out; have := HK2.out; omega⟩, ⟨by (with_reducible repeat (first | apply Kd.R_alloc | apply Kd.R_drewN | apply Kd.R_drew)); exact HO_14.out⟩, ⟨by (with_reducible repeat (first | apply Kd.R_alloc | apply Kd.R_drewN | apply Kd.R_drew)); exact Kd.R_mono HO_50.out (fun _ hk => hk.2)⟩, ⟨by (with_reducible repeat (first | refine blk_drewN ?_ _ | refine blk_drew ?_ | refine blk_alloc ?_ _)); exact BK199.out⟩, ⟨by repeat (first | (with_reducible first | exact HB.out | apply below_alloc | apply pw_below_drewN | apply below_drew1 | refine below_set ?_ GE199.out) | exact HB.out)⟩⟩
                          · replace c29 := Bool.eq_false_iff.mpr c29
                            subst c29
                            have H1 : (cantlelaw09_RecordTorn.l0 k2 a4 y208 x15_2 ((rd t200 x52_2) != 0) t200 (t200.length : Int) (wrap64 (x52_2 + 1)) (Int.tmod (wrap64 (a0)) 65534) (Int.tmod (wrap64 (a1)) 65534) (Int.tmod (wrap64 (a2)) 65534) (wrap64 (1 + (Int.tmod (wrap64 (a3)) 65534)))) = some r := by rw [if_neg (show ¬ (false = true) by decide)] at H; exact H
                            clear H
                            have H := H1
                            clear H1
                            have H' := Aside0.mk H
                            clear H
                            have p207 : 0 ≤ (x52_2 : Int) := of_decide_eq_true (by first | (with_reducible assumption) | assumption)
                            have q207 : x52_2 < (t200.length : Int) := of_decide_eq_true (by first | (with_reducible assumption) | assumption)
                            obtain ⟨ad207, e207, hx207_0⟩ := Kd.at_int (Kd.R_reads' HO_50.out).2.2 x52_2 p207 q207
                            cases e207
                            replace p207 := eq_true p207
                            replace q207 := eq_true q207
                            have p28 : 0 ≤ (x52_2 : Int) := of_decide_eq_true (by first | (with_reducible assumption) | assumption)
                            have q28 : (x52_2 : Int) < ((x14_2.length : Int) : Int) := of_decide_eq_true (by first | (with_reducible assumption) | assumption)
                            obtain ⟨go28, co28, eo28, gb28, gl28, cl28, HG28⟩ := Kd.R_form HO_14.out (by omega)
                            (first | cases eo28 | (injection eo28 with ea_ en_ ec_; (first | subst ea_ | (injection ea_ with ea_; subst ea_)); subst ec_; clear en_))
                            have GB28 := Aside0.mk gb28
                            have GG28 := Aside0.mk HG28
                            clear gb28 gl28 HG28
                            obtain ⟨hx28_0, hf28_0⟩ := Kd.R_celln 0 HO_14.out (x52_2 : Int) p28 q28
                            replace p28 := eq_true p28
                            replace q28 := eq_true q28
                            have HP32 := Kd.R_putg HO_14.out (x52_2 : Int) (rd t200 x52_2)
                            go_wp2_with (first | ((with_reducible refine gate_store (t := 22) (p := 65) rfl ?_); refine store_event (t := 22) (p := 65) (v := ?vo_w33) (w1 := (wr.setCell ⟨go28, (x52_2 : Int).toNat, none⟩ (.int .u64 (rd t200 x52_2)))) ?hg ?ho ?hn ?hr ?_; (case ho => rfl); (case hg => rfl); (case hn => rfl); (case hr => first | (go_simp; done) | (go_simp; rfl)); intro w33 hw; have hg : wr.grownBy w33 (some go28) := (by rw [hw]; exact HP32.2); have hp_ : Kd.R (Kd.int .u64) 22 w33 w.heap.size (fun k_ => some k_ ≠ (.slice (some ad207) t200.length co20 : Value).ownBlock) (.slice (some ⟨go28, 0, none⟩) x14_2.length co28) y208 := (by rw [hw, Ny208.out]; exact HP32.1); clear HP32; have n0_ := Aside0.mk (hp_); have n1_ := Aside0.mk (Kd.R_after (v := (.slice (some ⟨go28, 0, none⟩) x14_2.length co28)) (v1 := (.slice (some ⟨go28, 0, none⟩) x14_2.length co28)) (ok := (fun _ => True)) (by (with_reducible repeat (first | apply Kd.R_alloc | apply Kd.R_drewN | apply Kd.R_drew)); exact Kd.R_mono HO_50.out (fun _ hk => ⟨trivial, hk⟩)) hg (.inl rfl)); have n2_ := Aside0.mk (blk_grown (g := gb199) (o := .cells #[.int .i64 (Int.tmod (wrap64 (a0)) 65534), .int .i64 (Int.tmod (wrap64 (a1)) 65534), .int .i64 (Int.tmod (wrap64 (a2)) 65534), .int .i64 (wrap64 (1 + (Int.tmod (wrap64 (a3)) 65534)))] 65 (0, 0)) (by (with_reducible repeat (first | refine blk_drewN ?_ _ | refine blk_drew ?_ | refine blk_alloc ?_ _)); exact BK199.out) hg (Kd.R_ne HO_14.out BK199.out (by decide))); have n3_ := Aside0.mk ((by rw [hw]; exact below_set (HB.out) GB28.out : Below w.heap.size w w33)); clear HO_14; clear HO_50; clear BK199; clear HB; have HO_14 := n0_; have HO_50 := n1_; have BK199 := n2_; have HB := n3_; clear n0_ n1_ n2_ n3_; clear hg hw hp_))
                            go_roundg k2
                            case measure => have := HJ8.out; have := HK2.out; omega
                            case rel => exact ⟨(y208), (x15_2), (((rd t200 x52_2) != 0)), (wrap64 (x52_2 + 1)), (by first | rfl | (simp; done) | (simp [*]; done)), (by first | rfl | (simp; done) | (simp [*]; done)), (by first | rfl | (simp; done) | (simp [*]; done)), H', ⟨by have := HJ8.out; have := HK2.out; omega⟩, ⟨by (with_reducible repeat (first | apply Kd.R_alloc | apply Kd.R_drewN | apply Kd.R_drew)); exact HO_14.out⟩, ⟨by (with_reducible repeat (first | apply Kd.R_alloc | apply Kd.R_drewN | apply Kd.R_drew)); exact Kd.R_mono HO_50.out (fun _ hk => hk.2)⟩, ⟨by (with_reducible repeat (first | refine blk_drewN ?_ _ | refine blk_drew ?_ | refine blk_alloc ?_ _)); exact BK199.out⟩, ⟨by repeat (first | (with_reducible first | exact HB.out | apply below_alloc | apply pw_below_drewN | apply below_drew1 | refine below_set ?_ GE199.out) | exact HB.out)⟩⟩
                        · rw [if_neg c27] at H
                          exact absurd H (by simp)
                      · rw [if_neg c26] at H
                        have c26b0 : ((Go.bits .and .u8 (ji25) 1) == 1) = false := beq_eq_false_iff_ne.mpr c26
                        have c26b1 : ((Go.bits .and .u8 (ji25) 1) != 1) = true := bne_iff_ne.mpr c26
                        by_cases c34 : x15_2 = true
                        · subst c34
                          have H1 : (cantlelaw09_RecordTorn.l0 k2 a4 x14_2 ((rd t200 x52_2) == 0) x16_2 t200 (t200.length : Int) (wrap64 (x52_2 + 1)) (Int.tmod (wrap64 (a0)) 65534) (Int.tmod (wrap64 (a1)) 65534) (Int.tmod (wrap64 (a2)) 65534) (wrap64 (1 + (Int.tmod (wrap64 (a3)) 65534)))) = some r := by rw [if_pos rfl] at H; exact H
                          clear H
                          have H := H1
                          clear H1
                          have H' := Aside0.mk H
                          clear H
                          have p207 : 0 ≤ (x52_2 : Int) := of_decide_eq_true (by first | (with_reducible assumption) | assumption)
                          have q207 : x52_2 < (t200.length : Int) := of_decide_eq_true (by first | (with_reducible assumption) | assumption)
                          obtain ⟨ad207, e207, hx207_0⟩ := Kd.at_int (Kd.R_reads' HO_50.out).2.2 x52_2 p207 q207
                          cases e207
                          replace p207 := eq_true p207
                          replace q207 := eq_true q207
                          go_wp2
                          go_roundg k2
                          case measure => have := HJ8.out; have := HK2.out; omega
                          case rel => exact ⟨(x14_2), (((rd t200 x52_2) == 0)), (x16_2), (wrap64 (x52_2 + 1)), (by first | rfl | (simp; done) | (simp [*]; done)), (by first | rfl | (simp; done) | (simp [*]; done)), (by first | rfl | (simp; done) | (simp [*]; done)), H', ⟨by have := HJ8.out; have := HK2.out; omega⟩, ⟨by (with_reducible repeat (first | apply Kd.R_alloc | apply Kd.R_drewN | apply Kd.R_drew)); exact HO_14.out⟩, ⟨by (with_reducible repeat (first | apply Kd.R_alloc | apply Kd.R_drewN | apply Kd.R_drew)); exact HO_50.out⟩, ⟨by (with_reducible repeat (first | refine blk_drewN ?_ _ | refine blk_drew ?_ | refine blk_alloc ?_ _)); exact BK199.out⟩, ⟨by repeat (first | (with_reducible first | exact HB.out | apply below_alloc | apply pw_below_drewN | apply below_drew1 | refine below_set ?_ GE199.out) | exact HB.out)⟩⟩
                        · replace c34 := Bool.eq_false_iff.mpr c34
                          subst c34
                          have H1 : (cantlelaw09_RecordTorn.l0 k2 a4 x14_2 false x16_2 t200 (t200.length : Int) (wrap64 (x52_2 + 1)) (Int.tmod (wrap64 (a0)) 65534) (Int.tmod (wrap64 (a1)) 65534) (Int.tmod (wrap64 (a2)) 65534) (wrap64 (1 + (Int.tmod (wrap64 (a3)) 65534)))) = some r := by rw [if_neg (show ¬ (false = true) by decide)] at H; exact H
                          clear H
                          have H := H1
                          clear H1
                          have H' := Aside0.mk H
                          clear H
                          have p207 : 0 ≤ (x52_2 : Int) := of_decide_eq_true (by first | (with_reducible assumption) | assumption)
                          have q207 : x52_2 < (t200.length : Int) := of_decide_eq_true (by first | (with_reducible assumption) | assumption)
                          obtain ⟨ad207, e207, hx207_0⟩ := Kd.at_int (Kd.R_reads' HO_50.out).2.2 x52_2 p207 q207
                          cases e207
                          replace p207 := eq_true p207
                          replace q207 := eq_true q207
                          go_wp2
                          go_roundg k2
                          case measure => have := HJ8.out; have := HK2.out; omega
                          case rel => exact ⟨(x14_2), (false), (x16_2), (wrap64 (x52_2 + 1)), (by first | rfl | (simp; done) | (simp [*]; done)), (by first | rfl | (simp; done) | (simp [*]; done)), (by first | rfl | (simp; done) | (simp [*]; done)), H', ⟨by have := HJ8.out; have := HK2.out; omega⟩, ⟨by (with_reducible repeat (first | apply Kd.R_alloc | apply Kd.R_drewN | apply Kd.R_drew)); exact HO_14.out⟩, ⟨by (with_reducible repeat (first | apply Kd.R_alloc | apply Kd.R_drewN | apply Kd.R_drew)); exact HO_50.out⟩, ⟨by (with_reducible repeat (first | refine blk_drewN ?_ _ | refine blk_drew ?_ | refine blk_alloc ?_ _)); exact BK199.out⟩, ⟨by repeat (first | (with_reducible first | exact HB.out | apply below_alloc | apply pw_below_drewN | apply below_drew1 | refine below_set ?_ GE199.out) | exact HB.out)⟩⟩
                    · rw [if_neg c23] at H
                      exact absurd H (by simp)
                  · rw [if_neg c22] at H
                    exact absurd H (by simp)
                · rw [if_neg c21] at H
                  have c21b0 : decide (x52_2 < (t200.length : Int)) = false := decide_eq_false c21
                  clear c21
                  replace H := Option.bind_eq_some_iff.mp H
                  obtain ⟨⟨t209, t210, t211, t212, t213⟩, A350, H⟩ := H
                  replace H : (if x15_2 = true then (if t213 = 1 then (some (t209 == (Int.tmod (wrap64 (a0)) 65534) && (t210 == (Int.tmod (wrap64 (a1)) 65534) && (t211 == (Int.tmod (wrap64 (a2)) 65534) && (t212 == (wrap64 (1 + (Int.tmod (wrap64 (a3)) 65534)))))))) else (some false)) else (if x16_2 = true then (if t213 = 2 then (some (t209 == 0 && (t210 == 0 && (t211 == 0 && (t212 == 0))))) else (some false)) else (if t213 = 0 then (some (t209 == 0 && (t210 == 0 && (t211 == 0 && (t212 == 0))))) else (some false)))) = some r := H
                  have A35 := Aside0.mk A350
                  clear A350
                  by_cases c36 : x15_2 = true
                  · subst c36
                    have H1 : (if t213 = 1 then (some (t209 == (Int.tmod (wrap64 (a0)) 65534) && (t210 == (Int.tmod (wrap64 (a1)) 65534) && (t211 == (Int.tmod (wrap64 (a2)) 65534) && (t212 == (wrap64 (1 + (Int.tmod (wrap64 (a3)) 65534)))))))) else (some false)) = some r := by rw [if_pos rfl] at H; exact H
                    clear H
                    have H := H1
                    clear H1
                    by_cases c37 : t213 = 1
                    · rw [if_pos c37] at H
                      have c37b0 : (t213 == 1) = true := beq_iff_eq.mpr c37
                      have c37b1 : (t213 != 1) = false := bne_eq_false_iff_eq.mpr c37
                      clear c37
                      obtain rfl := Option.some.inj H
                      obtain ⟨Ao38, co38, eo38⟩ := Kd.R_slice HO_14.out
                      subst eo38
                      go_wp2_with (first | ((with_reducible refine gate_callee (f := 34) rfl ?_); refine goesL_ (some 79) rfl rfl Try.func34 (by kernel_rfl) rfl #[.slice Ao38 x14_2.length co38] rfl (by (try simp only [List.map_toArray, List.map_cons, List.map_nil]); first | done | rfl | (simp only [List.length_drop, List.length_take]; rfl)) ?_; (with_reducible refine (record_Decode.calls k2 _ _ x14_2 t209 t210 t211 t212 t213 _ ?side1 ?side2 A35.out).mono ?_); (case side1 => repeat (first | exact (Kd.R_reads' HO_14.out).2.2 | (with_reducible refine Kd.C_alloc ?_ _) | (with_reducible refine Kd.C_drewN ?_ _) | (with_reducible refine Kd.C_drew ?_))); (case side2 => exact (Kd.R_reads' HO_14.out).2.1); rintro e w39 ⟨rfl, hb⟩; refine ⟨_, rfl, ?_⟩; have n0_ := Aside0.mk (Kd.R_below (by (with_reducible repeat (first | apply Kd.R_alloc | apply Kd.R_drewN | apply Kd.R_drew)); exact HO_14.out) hb); have n1_ := Aside0.mk (Kd.R_below (by (with_reducible repeat (first | apply Kd.R_alloc | apply Kd.R_drewN | apply Kd.R_drew)); exact HO_50.out) hb); have n2_ := Aside0.mk (blk_below (g := gb199) (o := .cells #[.int .i64 (Int.tmod (wrap64 (a0)) 65534), .int .i64 (Int.tmod (wrap64 (a1)) 65534), .int .i64 (Int.tmod (wrap64 (a2)) 65534), .int .i64 (wrap64 (1 + (Int.tmod (wrap64 (a3)) 65534)))] 65 (0, 0)) (by (with_reducible repeat (first | refine blk_drewN ?_ _ | refine blk_drew ?_ | refine blk_alloc ?_ _)); exact BK199.out) hb); have n3_ := Aside0.mk (below_step (by repeat (first | (with_reducible first | exact HB.out | apply below_alloc | apply pw_below_drewN | apply below_drew1 | refine below_set ?_ GE199.out) | exact HB.out)) hb); clear HO_14; clear HO_50; clear BK199; clear HB; have HO_14 := n0_; have HO_50 := n1_; have BK199 := n2_; have HB := n3_; clear n0_ n1_ n2_ n3_; (try clear hb); (try clear hb2); (try clear hk); (try clear hi)) | ((with_reducible refine gate_dst (N := 19) rfl ?_); (try (refine gate_guard (by rfl) ?_; dsimp only)); refine box_event ?hg (N := 19) ?hd (cs := #[.int .i64 0, .int .i64 0, .int .i64 0, .int .i64 0]) (t := 65) ?hr ?_; (case hd => rfl); (case hg => rfl); (case hr => first | (go_simp; done) | (go_simp; rfl)); intro gb214 hg w40 hbox hb; have n0_ := Aside0.mk (Kd.R_below (by (with_reducible repeat (first | apply Kd.R_alloc | apply Kd.R_drewN | apply Kd.R_drew)); exact HO_14.out) hb); have n1_ := Aside0.mk (Kd.R_below (by (with_reducible repeat (first | apply Kd.R_alloc | apply Kd.R_drewN | apply Kd.R_drew)); exact HO_50.out) hb); have n2_ := Aside0.mk (blk_below (g := gb199) (o := .cells #[.int .i64 (Int.tmod (wrap64 (a0)) 65534), .int .i64 (Int.tmod (wrap64 (a1)) 65534), .int .i64 (Int.tmod (wrap64 (a2)) 65534), .int .i64 (wrap64 (1 + (Int.tmod (wrap64 (a3)) 65534)))] 65 (0, 0)) (by (with_reducible repeat (first | refine blk_drewN ?_ _ | refine blk_drew ?_ | refine blk_alloc ?_ _)); exact BK199.out) hb); have n3_ := Aside0.mk (below_step (by repeat (first | (with_reducible first | exact HB.out | apply below_alloc | apply pw_below_drewN | apply below_drew1 | refine below_set ?_ GE199.out) | exact HB.out)) hb); have n4_ := Aside0.mk (hbox); have n5_ := Aside0.mk ((by rw [hg]; exact (below_size (by repeat (first | (with_reducible first | exact HB.out | apply below_alloc | apply pw_below_drewN | apply below_drew1 | refine below_set ?_ GE199.out) | exact HB.out))) : w.heap.size ≤ gb214)); have n6_ := Aside0.mk ((by rw [hg]; exact (below_size (by repeat (first | (with_reducible first | exact HB.out | apply below_alloc | apply pw_below_drewN | apply below_drew1 | refine below_set ?_ GE199.out) | exact HB.out))) : w.heap.size ≤ gb214)); have n7_ := Aside0.mk ((by rw [hg]; exact Nat.ne_of_lt (blk_lt (g := gb199) (o := .cells #[.int .i64 (Int.tmod (wrap64 (a0)) 65534), .int .i64 (Int.tmod (wrap64 (a1)) 65534), .int .i64 (Int.tmod (wrap64 (a2)) 65534), .int .i64 (wrap64 (1 + (Int.tmod (wrap64 (a3)) 65534)))] 65 (0, 0)) (by (with_reducible repeat (first | refine blk_drewN ?_ _ | refine blk_drew ?_ | refine blk_alloc ?_ _)); exact BK199.out)) : gb199 ≠ gb214)); have n8_ := Aside0.mk ((by rw [hg]; exact Nat.ne_of_gt (blk_lt (g := gb199) (o := .cells #[.int .i64 (Int.tmod (wrap64 (a0)) 65534), .int .i64 (Int.tmod (wrap64 (a1)) 65534), .int .i64 (Int.tmod (wrap64 (a2)) 65534), .int .i64 (wrap64 (1 + (Int.tmod (wrap64 (a3)) 65534)))] 65 (0, 0)) (by (with_reducible repeat (first | refine blk_drewN ?_ _ | refine blk_drew ?_ | refine blk_alloc ?_ _)); exact BK199.out)) : gb214 ≠ gb199)); clear HO_14; clear HO_50; clear BK199; clear HB; have HO_14 := n0_; have HO_50 := n1_; have BK199 := n2_; have HB := n3_; have BK214 := n4_; have GW214 := n5_; have GE214 := n6_; have NB199_214 := n7_; have NB214_199 := n8_; clear n0_ n1_ n2_ n3_ n4_ n5_ n6_ n7_ n8_; clear hb hbox hg; have hnb41 := NB214_199.out; have hnc41 := NB199_214.out; have hcz42_0 : w40.cell? ⟨gb214, 0, none⟩ = some (.int .i64 0) := (blk_cell BK214.out 0).trans rfl; have hcz42_1 : w40.cell? ⟨gb214, 1, none⟩ = some (.int .i64 0) := (blk_cell BK214.out 1).trans rfl; have hcz42_2 : w40.cell? ⟨gb214, 2, none⟩ = some (.int .i64 0) := (blk_cell BK214.out 2).trans rfl; have hcz42_3 : w40.cell? ⟨gb214, 3, none⟩ = some (.int .i64 0) := (blk_cell BK214.out 3).trans rfl; have hfz42_0 := blk_frozen BK214.out 0; have hfz42_1 := blk_frozen BK214.out 1; have hfz42_2 := blk_frozen BK214.out 2; have hfz42_3 := blk_frozen BK214.out 3; have hcz43_0 : w40.cell? ⟨gb199, 0, none⟩ = some (.int .i64 (Int.tmod (wrap64 (a0)) 65534)) := (blk_cell BK199.out 0).trans rfl; have hcz43_1 : w40.cell? ⟨gb199, 1, none⟩ = some (.int .i64 (Int.tmod (wrap64 (a1)) 65534)) := (blk_cell BK199.out 1).trans rfl; have hcz43_2 : w40.cell? ⟨gb199, 2, none⟩ = some (.int .i64 (Int.tmod (wrap64 (a2)) 65534)) := (blk_cell BK199.out 2).trans rfl; have hcz43_3 : w40.cell? ⟨gb199, 3, none⟩ = some (.int .i64 (wrap64 (1 + (Int.tmod (wrap64 (a3)) 65534)))) := (blk_cell BK199.out 3).trans rfl; have hfz43_0 := blk_frozen BK199.out 0; have hfz43_1 := blk_frozen BK199.out 1; have hfz43_2 := blk_frozen BK199.out 2; have hfz43_3 := blk_frozen BK199.out 3))
                      go_ret
                      exact ⟨by first | rfl | (simp [errW_none, errW_some] <;> rfl) | (simp [*, errW_none, errW_some] <;> rfl), by repeat (first | (with_reducible first | exact HB.out | apply below_alloc | apply pw_below_drewN | apply below_drew1 | refine below_set ?_ GE199.out | refine below_set ?_ GE214.out) | exact HB.out)⟩
                    · rw [if_neg c37] at H
                      have c37b0 : (t213 == 1) = false := beq_eq_false_iff_ne.mpr c37
                      have c37b1 : (t213 != 1) = true := bne_iff_ne.mpr c37
                      obtain rfl := Option.some.inj H
                      obtain ⟨Ao44, co44, eo44⟩ := Kd.R_slice HO_14.out
                      subst eo44
                      go_wp2_with (first | ((with_reducible refine gate_callee (f := 34) rfl ?_); refine goesL_ (some 79) rfl rfl Try.func34 (by kernel_rfl) rfl #[.slice Ao44 x14_2.length co44] rfl (by (try simp only [List.map_toArray, List.map_cons, List.map_nil]); first | done | rfl | (simp only [List.length_drop, List.length_take]; rfl)) ?_; (with_reducible refine (record_Decode.calls k2 _ _ x14_2 t209 t210 t211 t212 t213 _ ?side1 ?side2 A35.out).mono ?_); (case side1 => repeat (first | exact (Kd.R_reads' HO_14.out).2.2 | (with_reducible refine Kd.C_alloc ?_ _) | (with_reducible refine Kd.C_drewN ?_ _) | (with_reducible refine Kd.C_drew ?_))); (case side2 => exact (Kd.R_reads' HO_14.out).2.1); rintro e w45 ⟨rfl, hb⟩; refine ⟨_, rfl, ?_⟩; have n0_ := Aside0.mk (Kd.R_below (by (with_reducible repeat (first | apply Kd.R_alloc | apply Kd.R_drewN | apply Kd.R_drew)); exact HO_14.out) hb); have n1_ := Aside0.mk (Kd.R_below (by (with_reducible repeat (first | apply Kd.R_alloc | apply Kd.R_drewN | apply Kd.R_drew)); exact HO_50.out) hb); have n2_ := Aside0.mk (blk_below (g := gb199) (o := .cells #[.int .i64 (Int.tmod (wrap64 (a0)) 65534), .int .i64 (Int.tmod (wrap64 (a1)) 65534), .int .i64 (Int.tmod (wrap64 (a2)) 65534), .int .i64 (wrap64 (1 + (Int.tmod (wrap64 (a3)) 65534)))] 65 (0, 0)) (by (with_reducible repeat (first | refine blk_drewN ?_ _ | refine blk_drew ?_ | refine blk_alloc ?_ _)); exact BK199.out) hb); have n3_ := Aside0.mk (below_step (by repeat (first | (with_reducible first | exact HB.out | apply below_alloc | apply pw_below_drewN | apply below_drew1 | refine below_set ?_ GE199.out) | exact HB.out)) hb); clear HO_14; clear HO_50; clear BK199; clear HB; have HO_14 := n0_; have HO_50 := n1_; have BK199 := n2_; have HB := n3_; clear n0_ n1_ n2_ n3_; (try clear hb); (try clear hb2); (try clear hk); (try clear hi)) | ((with_reducible refine gate_dst (N := 19) rfl ?_); (try (refine gate_guard (by rfl) ?_; dsimp only)); refine box_event ?hg (N := 19) ?hd (cs := #[.int .i64 0, .int .i64 0, .int .i64 0, .int .i64 0]) (t := 65) ?hr ?_; (case hd => rfl); (case hg => rfl); (case hr => first | (go_simp; done) | (go_simp; rfl)); intro gb214 hg w46 hbox hb; have n0_ := Aside0.mk (Kd.R_below (by (with_reducible repeat (first | apply Kd.R_alloc | apply Kd.R_drewN | apply Kd.R_drew)); exact HO_14.out) hb); have n1_ := Aside0.mk (Kd.R_below (by (with_reducible repeat (first | apply Kd.R_alloc | apply Kd.R_drewN | apply Kd.R_drew)); exact HO_50.out) hb); have n2_ := Aside0.mk (blk_below (g := gb199) (o := .cells #[.int .i64 (Int.tmod (wrap64 (a0)) 65534), .int .i64 (Int.tmod (wrap64 (a1)) 65534), .int .i64 (Int.tmod (wrap64 (a2)) 65534), .int .i64 (wrap64 (1 + (Int.tmod (wrap64 (a3)) 65534)))] 65 (0, 0)) (by (with_reducible repeat (first | refine blk_drewN ?_ _ | refine blk_drew ?_ | refine blk_alloc ?_ _)); exact BK199.out) hb); have n3_ := Aside0.mk (below_step (by repeat (first | (with_reducible first | exact HB.out | apply below_alloc | apply pw_below_drewN | apply below_drew1 | refine below_set ?_ GE199.out) | exact HB.out)) hb); have n4_ := Aside0.mk (hbox); have n5_ := Aside0.mk ((by rw [hg]; exact (below_size (by repeat (first | (with_reducible first | exact HB.out | apply below_alloc | apply pw_below_drewN | apply below_drew1 | refine below_set ?_ GE199.out) | exact HB.out))) : w.heap.size ≤ gb214)); have n6_ := Aside0.mk ((by rw [hg]; exact (below_size (by repeat (first | (with_reducible first | exact HB.out | apply below_alloc | apply pw_below_drewN | apply below_drew1 | refine below_set ?_ GE199.out) | exact HB.out))) : w.heap.size ≤ gb214)); have n7_ := Aside0.mk ((by rw [hg]; exact Nat.ne_of_lt (blk_lt (g := gb199) (o := .cells #[.int .i64 (Int.tmod (wrap64 (a0)) 65534), .int .i64 (Int.tmod (wrap64 (a1)) 65534), .int .i64 (Int.tmod (wrap64 (a2)) 65534), .int .i64 (wrap64 (1 + (Int.tmod (wrap64 (a3)) 65534)))] 65 (0, 0)) (by (with_reducible repeat (first | refine blk_drewN ?_ _ | refine blk_drew ?_ | refine blk_alloc ?_ _)); exact BK199.out)) : gb199 ≠ gb214)); have n8_ := Aside0.mk ((by rw [hg]; exact Nat.ne_of_gt (blk_lt (g := gb199) (o := .cells #[.int .i64 (Int.tmod (wrap64 (a0)) 65534), .int .i64 (Int.tmod (wrap64 (a1)) 65534), .int .i64 (Int.tmod (wrap64 (a2)) 65534), .int .i64 (wrap64 (1 + (Int.tmod (wrap64 (a3)) 65534)))] 65 (0, 0)) (by (with_reducible repeat (first | refine blk_drewN ?_ _ | refine blk_drew ?_ | refine blk_alloc ?_ _)); exact BK199.out)) : gb214 ≠ gb199)); clear HO_14; clear HO_50; clear BK199; clear HB; have HO_14 := n0_; have HO_50 := n1_; have BK199 := n2_; have HB := n3_; have BK214 := n4_; have GW214 := n5_; have GE214 := n6_; have NB199_214 := n7_; have NB214_199 := n8_; clear n0_ n1_ n2_ n3_ n4_ n5_ n6_ n7_ n8_; clear hb hbox hg; have hnb47 := NB214_199.out; have hnc47 := NB199_214.out; have hcz48_0 : w46.cell? ⟨gb214, 0, none⟩ = some (.int .i64 0) := (blk_cell BK214.out 0).trans rfl; have hcz48_1 : w46.cell? ⟨gb214, 1, none⟩ = some (.int .i64 0) := (blk_cell BK214.out 1).trans rfl; have hcz48_2 : w46.cell? ⟨gb214, 2, none⟩ = some (.int .i64 0) := (blk_cell BK214.out 2).trans rfl; have hcz48_3 : w46.cell? ⟨gb214, 3, none⟩ = some (.int .i64 0) := (blk_cell BK214.out 3).trans rfl; have hfz48_0 := blk_frozen BK214.out 0; have hfz48_1 := blk_frozen BK214.out 1; have hfz48_2 := blk_frozen BK214.out 2; have hfz48_3 := blk_frozen BK214.out 3))
                      go_ret
                      exact ⟨by first | rfl | (simp [errW_none, errW_some] <;> rfl) | (simp [*, errW_none, errW_some] <;> rfl), by repeat (first | (with_reducible first | exact HB.out | apply below_alloc | apply pw_below_drewN | apply below_drew1 | refine below_set ?_ GE199.out | refine below_set ?_ GE214.out) | exact HB.out)⟩
                  · replace c36 := Bool.eq_false_iff.mpr c36
                    subst c36
                    have H1 : (if x16_2 = true then (if t213 = 2 then (some (t209 == 0 && (t210 == 0 && (t211 == 0 && (t212 == 0))))) else (some false)) else (if t213 = 0 then (some (t209 == 0 && (t210 == 0 && (t211 == 0 && (t212 == 0))))) else (some false))) = some r := by rw [if_neg (show ¬ (false = true) by decide)] at H; exact H
                    clear H
                    have H := H1
                    clear H1
                    by_cases c49 : x16_2 = true
                    · subst c49
                      have H1 : (if t213 = 2 then (some (t209 == 0 && (t210 == 0 && (t211 == 0 && (t212 == 0))))) else (some false)) = some r := by rw [if_pos rfl] at H; exact H
                      clear H
                      have H := H1
                      clear H1
                      by_cases c50 : t213 = 2
                      · rw [if_pos c50] at H
                        have c50b0 : (t213 == 2) = true := beq_iff_eq.mpr c50
                        have c50b1 : (t213 != 2) = false := bne_eq_false_iff_eq.mpr c50
                        clear c50
                        obtain rfl := Option.some.inj H
                        obtain ⟨Ao51, co51, eo51⟩ := Kd.R_slice HO_14.out
                        subst eo51
                        go_wp2_with (first | ((with_reducible refine gate_callee (f := 34) rfl ?_); refine goesL_ (some 79) rfl rfl Try.func34 (by kernel_rfl) rfl #[.slice Ao51 x14_2.length co51] rfl (by (try simp only [List.map_toArray, List.map_cons, List.map_nil]); first | done | rfl | (simp only [List.length_drop, List.length_take]; rfl)) ?_; (with_reducible refine (record_Decode.calls k2 _ _ x14_2 t209 t210 t211 t212 t213 _ ?side1 ?side2 A35.out).mono ?_); (case side1 => repeat (first | exact (Kd.R_reads' HO_14.out).2.2 | (with_reducible refine Kd.C_alloc ?_ _) | (with_reducible refine Kd.C_drewN ?_ _) | (with_reducible refine Kd.C_drew ?_))); (case side2 => exact (Kd.R_reads' HO_14.out).2.1); rintro e w52 ⟨rfl, hb⟩; refine ⟨_, rfl, ?_⟩; have n0_ := Aside0.mk (Kd.R_below (by (with_reducible repeat (first | apply Kd.R_alloc | apply Kd.R_drewN | apply Kd.R_drew)); exact HO_14.out) hb); have n1_ := Aside0.mk (Kd.R_below (by (with_reducible repeat (first | apply Kd.R_alloc | apply Kd.R_drewN | apply Kd.R_drew)); exact HO_50.out) hb); have n2_ := Aside0.mk (blk_below (g := gb199) (o := .cells #[.int .i64 (Int.tmod (wrap64 (a0)) 65534), .int .i64 (Int.tmod (wrap64 (a1)) 65534), .int .i64 (Int.tmod (wrap64 (a2)) 65534), .int .i64 (wrap64 (1 + (Int.tmod (wrap64 (a3)) 65534)))] 65 (0, 0)) (by (with_reducible repeat (first | refine blk_drewN ?_ _ | refine blk_drew ?_ | refine blk_alloc ?_ _)); exact BK199.out) hb); have n3_ := Aside0.mk (below_step (by repeat (first | (with_reducible first | exact HB.out | apply below_alloc | apply pw_below_drewN | apply below_drew1 | refine below_set ?_ GE199.out) | exact HB.out)) hb); clear HO_14; clear HO_50; clear BK199; clear HB; have HO_14 := n0_; have HO_50 := n1_; have BK199 := n2_; have HB := n3_; clear n0_ n1_ n2_ n3_; (try clear hb); (try clear hb2); (try clear hk); (try clear hi)) | ((with_reducible refine gate_dst (N := 19) rfl ?_); (try (refine gate_guard (by rfl) ?_; dsimp only)); refine box_event ?hg (N := 19) ?hd (cs := #[.int .i64 0, .int .i64 0, .int .i64 0, .int .i64 0]) (t := 65) ?hr ?_; (case hd => rfl); (case hg => rfl); (case hr => first | (go_simp; done) | (go_simp; rfl)); intro gb214 hg w53 hbox hb; have n0_ := Aside0.mk (Kd.R_below (by (with_reducible repeat (first | apply Kd.R_alloc | apply Kd.R_drewN | apply Kd.R_drew)); exact HO_14.out) hb); have n1_ := Aside0.mk (Kd.R_below (by (with_reducible repeat (first | apply Kd.R_alloc | apply Kd.R_drewN | apply Kd.R_drew)); exact HO_50.out) hb); have n2_ := Aside0.mk (blk_below (g := gb199) (o := .cells #[.int .i64 (Int.tmod (wrap64 (a0)) 65534), .int .i64 (Int.tmod (wrap64 (a1)) 65534), .int .i64 (Int.tmod (wrap64 (a2)) 65534), .int .i64 (wrap64 (1 + (Int.tmod (wrap64 (a3)) 65534)))] 65 (0, 0)) (by (with_reducible repeat (first | refine blk_drewN ?_ _ | refine blk_drew ?_ | refine blk_alloc ?_ _)); exact BK199.out) hb); have n3_ := Aside0.mk (below_step (by repeat (first | (with_reducible first | exact HB.out | apply below_alloc | apply pw_below_drewN | apply below_drew1 | refine below_set ?_ GE199.out) | exact HB.out)) hb); have n4_ := Aside0.mk (hbox); have n5_ := Aside0.mk ((by rw [hg]; exact (below_size (by repeat (first | (with_reducible first | exact HB.out | apply below_alloc | apply pw_below_drewN | apply below_drew1 | refine below_set ?_ GE199.out) | exact HB.out))) : w.heap.size ≤ gb214)); have n6_ := Aside0.mk ((by rw [hg]; exact (below_size (by repeat (first | (with_reducible first | exact HB.out | apply below_alloc | apply pw_below_drewN | apply below_drew1 | refine below_set ?_ GE199.out) | exact HB.out))) : w.heap.size ≤ gb214)); have n7_ := Aside0.mk ((by rw [hg]; exact Nat.ne_of_lt (blk_lt (g := gb199) (o := .cells #[.int .i64 (Int.tmod (wrap64 (a0)) 65534), .int .i64 (Int.tmod (wrap64 (a1)) 65534), .int .i64 (Int.tmod (wrap64 (a2)) 65534), .int .i64 (wrap64 (1 + (Int.tmod (wrap64 (a3)) 65534)))] 65 (0, 0)) (by (with_reducible repeat (first | refine blk_drewN ?_ _ | refine blk_drew ?_ | refine blk_alloc ?_ _)); exact BK199.out)) : gb199 ≠ gb214)); have n8_ := Aside0.mk ((by rw [hg]; exact Nat.ne_of_gt (blk_lt (g := gb199) (o := .cells #[.int .i64 (Int.tmod (wrap64 (a0)) 65534), .int .i64 (Int.tmod (wrap64 (a1)) 65534), .int .i64 (Int.tmod (wrap64 (a2)) 65534), .int .i64 (wrap64 (1 + (Int.tmod (wrap64 (a3)) 65534)))] 65 (0, 0)) (by (with_reducible repeat (first | refine blk_drewN ?_ _ | refine blk_drew ?_ | refine blk_alloc ?_ _)); exact BK199.out)) : gb214 ≠ gb199)); clear HO_14; clear HO_50; clear BK199; clear HB; have HO_14 := n0_; have HO_50 := n1_; have BK199 := n2_; have HB := n3_; have BK214 := n4_; have GW214 := n5_; have GE214 := n6_; have NB199_214 := n7_; have NB214_199 := n8_; clear n0_ n1_ n2_ n3_ n4_ n5_ n6_ n7_ n8_; clear hb hbox hg; have hnb54 := NB214_199.out; have hnc54 := NB199_214.out; have hcz55_0 : w53.cell? ⟨gb214, 0, none⟩ = some (.int .i64 0) := (blk_cell BK214.out 0).trans rfl; have hcz55_1 : w53.cell? ⟨gb214, 1, none⟩ = some (.int .i64 0) := (blk_cell BK214.out 1).trans rfl; have hcz55_2 : w53.cell? ⟨gb214, 2, none⟩ = some (.int .i64 0) := (blk_cell BK214.out 2).trans rfl; have hcz55_3 : w53.cell? ⟨gb214, 3, none⟩ = some (.int .i64 0) := (blk_cell BK214.out 3).trans rfl; have hfz55_0 := blk_frozen BK214.out 0; have hfz55_1 := blk_frozen BK214.out 1; have hfz55_2 := blk_frozen BK214.out 2; have hfz55_3 := blk_frozen BK214.out 3))
                        go_ret
                        exact ⟨by first | rfl | (simp [errW_none, errW_some] <;> rfl) | (simp [*, errW_none, errW_some] <;> rfl), by repeat (first | (with_reducible first | exact HB.out | apply below_alloc | apply pw_below_drewN | apply below_drew1 | refine below_set ?_ GE199.out | refine below_set ?_ GE214.out) | exact HB.out)⟩
                      · rw [if_neg c50] at H
                        have c50b0 : (t213 == 2) = false := beq_eq_false_iff_ne.mpr c50
                        have c50b1 : (t213 != 2) = true := bne_iff_ne.mpr c50
                        obtain rfl := Option.some.inj H
                        obtain ⟨Ao56, co56, eo56⟩ := Kd.R_slice HO_14.out
                        subst eo56
                        go_wp2_with (first | ((with_reducible refine gate_callee (f := 34) rfl ?_); refine goesL_ (some 79) rfl rfl Try.func34 (by kernel_rfl) rfl #[.slice Ao56 x14_2.length co56] rfl (by (try simp only [List.map_toArray, List.map_cons, List.map_nil]); first | done | rfl | (simp only [List.length_drop, List.length_take]; rfl)) ?_; (with_reducible refine (record_Decode.calls k2 _ _ x14_2 t209 t210 t211 t212 t213 _ ?side1 ?side2 A35.out).mono ?_); (case side1 => repeat (first | exact (Kd.R_reads' HO_14.out).2.2 | (with_reducible refine Kd.C_alloc ?_ _) | (with_reducible refine Kd.C_drewN ?_ _) | (with_reducible refine Kd.C_drew ?_))); (case side2 => exact (Kd.R_reads' HO_14.out).2.1); rintro e w57 ⟨rfl, hb⟩; refine ⟨_, rfl, ?_⟩; have n0_ := Aside0.mk (Kd.R_below (by (with_reducible repeat (first | apply Kd.R_alloc | apply Kd.R_drewN | apply Kd.R_drew)); exact HO_14.out) hb); have n1_ := Aside0.mk (Kd.R_below (by (with_reducible repeat (first | apply Kd.R_alloc | apply Kd.R_drewN | apply Kd.R_drew)); exact HO_50.out) hb); have n2_ := Aside0.mk (blk_below (g := gb199) (o := .cells #[.int .i64 (Int.tmod (wrap64 (a0)) 65534), .int .i64 (Int.tmod (wrap64 (a1)) 65534), .int .i64 (Int.tmod (wrap64 (a2)) 65534), .int .i64 (wrap64 (1 + (Int.tmod (wrap64 (a3)) 65534)))] 65 (0, 0)) (by (with_reducible repeat (first | refine blk_drewN ?_ _ | refine blk_drew ?_ | refine blk_alloc ?_ _)); exact BK199.out) hb); have n3_ := Aside0.mk (below_step (by repeat (first | (with_reducible first | exact HB.out | apply below_alloc | apply pw_below_drewN | apply below_drew1 | refine below_set ?_ GE199.out) | exact HB.out)) hb); clear HO_14; clear HO_50; clear BK199; clear HB; have HO_14 := n0_; have HO_50 := n1_; have BK199 := n2_; have HB := n3_; clear n0_ n1_ n2_ n3_; (try clear hb); (try clear hb2); (try clear hk); (try clear hi)) | ((with_reducible refine gate_dst (N := 19) rfl ?_); (try (refine gate_guard (by rfl) ?_; dsimp only)); refine box_event ?hg (N := 19) ?hd (cs := #[.int .i64 0, .int .i64 0, .int .i64 0, .int .i64 0]) (t := 65) ?hr ?_; (case hd => rfl); (case hg => rfl); (case hr => first | (go_simp; done) | (go_simp; rfl)); intro gb214 hg w58 hbox hb; have n0_ := Aside0.mk (Kd.R_below (by (with_reducible repeat (first | apply Kd.R_alloc | apply Kd.R_drewN | apply Kd.R_drew)); exact HO_14.out) hb); have n1_ := Aside0.mk (Kd.R_below (by (with_reducible repeat (first | apply Kd.R_alloc | apply Kd.R_drewN | apply Kd.R_drew)); exact HO_50.out) hb); have n2_ := Aside0.mk (blk_below (g := gb199) (o := .cells #[.int .i64 (Int.tmod (wrap64 (a0)) 65534), .int .i64 (Int.tmod (wrap64 (a1)) 65534), .int .i64 (Int.tmod (wrap64 (a2)) 65534), .int .i64 (wrap64 (1 + (Int.tmod (wrap64 (a3)) 65534)))] 65 (0, 0)) (by (with_reducible repeat (first | refine blk_drewN ?_ _ | refine blk_drew ?_ | refine blk_alloc ?_ _)); exact BK199.out) hb); have n3_ := Aside0.mk (below_step (by repeat (first | (with_reducible first | exact HB.out | apply below_alloc | apply pw_below_drewN | apply below_drew1 | refine below_set ?_ GE199.out) | exact HB.out)) hb); have n4_ := Aside0.mk (hbox); have n5_ := Aside0.mk ((by rw [hg]; exact (below_size (by repeat (first | (with_reducible first | exact HB.out | apply below_alloc | apply pw_below_drewN | apply below_drew1 | refine below_set ?_ GE199.out) | exact HB.out))) : w.heap.size ≤ gb214)); have n6_ := Aside0.mk ((by rw [hg]; exact (below_size (by repeat (first | (with_reducible first | exact HB.out | apply below_alloc | apply pw_below_drewN | apply below_drew1 | refine below_set ?_ GE199.out) | exact HB.out))) : w.heap.size ≤ gb214)); have n7_ := Aside0.mk ((by rw [hg]; exact Nat.ne_of_lt (blk_lt (g := gb199) (o := .cells #[.int .i64 (Int.tmod (wrap64 (a0)) 65534), .int .i64 (Int.tmod (wrap64 (a1)) 65534), .int .i64 (Int.tmod (wrap64 (a2)) 65534), .int .i64 (wrap64 (1 + (Int.tmod (wrap64 (a3)) 65534)))] 65 (0, 0)) (by (with_reducible repeat (first | refine blk_drewN ?_ _ | refine blk_drew ?_ | refine blk_alloc ?_ _)); exact BK199.out)) : gb199 ≠ gb214)); have n8_ := Aside0.mk ((by rw [hg]; exact Nat.ne_of_gt (blk_lt (g := gb199) (o := .cells #[.int .i64 (Int.tmod (wrap64 (a0)) 65534), .int .i64 (Int.tmod (wrap64 (a1)) 65534), .int .i64 (Int.tmod (wrap64 (a2)) 65534), .int .i64 (wrap64 (1 + (Int.tmod (wrap64 (a3)) 65534)))] 65 (0, 0)) (by (with_reducible repeat (first | refine blk_drewN ?_ _ | refine blk_drew ?_ | refine blk_alloc ?_ _)); exact BK199.out)) : gb214 ≠ gb199)); clear HO_14; clear HO_50; clear BK199; clear HB; have HO_14 := n0_; have HO_50 := n1_; have BK199 := n2_; have HB := n3_; have BK214 := n4_; have GW214 := n5_; have GE214 := n6_; have NB199_214 := n7_; have NB214_199 := n8_; clear n0_ n1_ n2_ n3_ n4_ n5_ n6_ n7_ n8_; clear hb hbox hg; have hnb59 := NB214_199.out; have hnc59 := NB199_214.out; have hcz60_0 : w58.cell? ⟨gb214, 0, none⟩ = some (.int .i64 0) := (blk_cell BK214.out 0).trans rfl; have hcz60_1 : w58.cell? ⟨gb214, 1, none⟩ = some (.int .i64 0) := (blk_cell BK214.out 1).trans rfl; have hcz60_2 : w58.cell? ⟨gb214, 2, none⟩ = some (.int .i64 0) := (blk_cell BK214.out 2).trans rfl; have hcz60_3 : w58.cell? ⟨gb214, 3, none⟩ = some (.int .i64 0) := (blk_cell BK214.out 3).trans rfl; have hfz60_0 := blk_frozen BK214.out 0; have hfz60_1 := blk_frozen BK214.out 1; have hfz60_2 := blk_frozen BK214.out 2; have hfz60_3 := blk_frozen BK214.out 3))
                        go_ret
                        exact ⟨by first | rfl | (simp [errW_none, errW_some] <;> rfl) | (simp [*, errW_none, errW_some] <;> rfl), by repeat (first | (with_reducible first | exact HB.out | apply below_alloc | apply pw_below_drewN | apply below_drew1 | refine below_set ?_ GE199.out | refine below_set ?_ GE214.out) | exact HB.out)⟩
                    · replace c49 := Bool.eq_false_iff.mpr c49
                      subst c49
                      have H1 : (if t213 = 0 then (some (t209 == 0 && (t210 == 0 && (t211 == 0 && (t212 == 0))))) else (some false)) = some r := by rw [if_neg (show ¬ (false = true) by decide)] at H; exact H
                      clear H
                      have H := H1
                      clear H1
                      by_cases c61 : t213 = 0
                      · rw [if_pos c61] at H
                        have c61b0 : (t213 == 0) = true := beq_iff_eq.mpr c61
                        have c61b1 : (t213 != 0) = false := bne_eq_false_iff_eq.mpr c61
                        clear c61
                        obtain rfl := Option.some.inj H
                        obtain ⟨Ao62, co62, eo62⟩ := Kd.R_slice HO_14.out
                        subst eo62
                        go_wp2_with (first | ((with_reducible refine gate_callee (f := 34) rfl ?_); refine goesL_ (some 79) rfl rfl Try.func34 (by kernel_rfl) rfl #[.slice Ao62 x14_2.length co62] rfl (by (try simp only [List.map_toArray, List.map_cons, List.map_nil]); first | done | rfl | (simp only [List.length_drop, List.length_take]; rfl)) ?_; (with_reducible refine (record_Decode.calls k2 _ _ x14_2 t209 t210 t211 t212 t213 _ ?side1 ?side2 A35.out).mono ?_); (case side1 => repeat (first | exact (Kd.R_reads' HO_14.out).2.2 | (with_reducible refine Kd.C_alloc ?_ _) | (with_reducible refine Kd.C_drewN ?_ _) | (with_reducible refine Kd.C_drew ?_))); (case side2 => exact (Kd.R_reads' HO_14.out).2.1); rintro e w63 ⟨rfl, hb⟩; refine ⟨_, rfl, ?_⟩; have n0_ := Aside0.mk (Kd.R_below (by (with_reducible repeat (first | apply Kd.R_alloc | apply Kd.R_drewN | apply Kd.R_drew)); exact HO_14.out) hb); have n1_ := Aside0.mk (Kd.R_below (by (with_reducible repeat (first | apply Kd.R_alloc | apply Kd.R_drewN | apply Kd.R_drew)); exact HO_50.out) hb); have n2_ := Aside0.mk (blk_below (g := gb199) (o := .cells #[.int .i64 (Int.tmod (wrap64 (a0)) 65534), .int .i64 (Int.tmod (wrap64 (a1)) 65534), .int .i64 (Int.tmod (wrap64 (a2)) 65534), .int .i64 (wrap64 (1 + (Int.tmod (wrap64 (a3)) 65534)))] 65 (0, 0)) (by (with_reducible repeat (first | refine blk_drewN ?_ _ | refine blk_drew ?_ | refine blk_alloc ?_ _)); exact BK199.out) hb); have n3_ := Aside0.mk (below_step (by repeat (first | (with_reducible first | exact HB.out | apply below_alloc | apply pw_below_drewN | apply below_drew1 | refine below_set ?_ GE199.out) | exact HB.out)) hb); clear HO_14; clear HO_50; clear BK199; clear HB; have HO_14 := n0_; have HO_50 := n1_; have BK199 := n2_; have HB := n3_; clear n0_ n1_ n2_ n3_; (try clear hb); (try clear hb2); (try clear hk); (try clear hi)) | ((with_reducible refine gate_dst (N := 19) rfl ?_); (try (refine gate_guard (by rfl) ?_; dsimp only)); refine box_event ?hg (N := 19) ?hd (cs := #[.int .i64 0, .int .i64 0, .int .i64 0, .int .i64 0]) (t := 65) ?hr ?_; (case hd => rfl); (case hg => rfl); (case hr => first | (go_simp; done) | (go_simp; rfl)); intro gb214 hg w64 hbox hb; have n0_ := Aside0.mk (Kd.R_below (by (with_reducible repeat (first | apply Kd.R_alloc | apply Kd.R_drewN | apply Kd.R_drew)); exact HO_14.out) hb); have n1_ := Aside0.mk (Kd.R_below (by (with_reducible repeat (first | apply Kd.R_alloc | apply Kd.R_drewN | apply Kd.R_drew)); exact HO_50.out) hb); have n2_ := Aside0.mk (blk_below (g := gb199) (o := .cells #[.int .i64 (Int.tmod (wrap64 (a0)) 65534), .int .i64 (Int.tmod (wrap64 (a1)) 65534), .int .i64 (Int.tmod (wrap64 (a2)) 65534), .int .i64 (wrap64 (1 + (Int.tmod (wrap64 (a3)) 65534)))] 65 (0, 0)) (by (with_reducible repeat (first | refine blk_drewN ?_ _ | refine blk_drew ?_ | refine blk_alloc ?_ _)); exact BK199.out) hb); have n3_ := Aside0.mk (below_step (by repeat (first | (with_reducible first | exact HB.out | apply below_alloc | apply pw_below_drewN | apply below_drew1 | refine below_set ?_ GE199.out) | exact HB.out)) hb); have n4_ := Aside0.mk (hbox); have n5_ := Aside0.mk ((by rw [hg]; exact (below_size (by repeat (first | (with_reducible first | exact HB.out | apply below_alloc | apply pw_below_drewN | apply below_drew1 | refine below_set ?_ GE199.out) | exact HB.out))) : w.heap.size ≤ gb214)); have n6_ := Aside0.mk ((by rw [hg]; exact (below_size (by repeat (first | (with_reducible first | exact HB.out | apply below_alloc | apply pw_below_drewN | apply below_drew1 | refine below_set ?_ GE199.out) | exact HB.out))) : w.heap.size ≤ gb214)); have n7_ := Aside0.mk ((by rw [hg]; exact Nat.ne_of_lt (blk_lt (g := gb199) (o := .cells #[.int .i64 (Int.tmod (wrap64 (a0)) 65534), .int .i64 (Int.tmod (wrap64 (a1)) 65534), .int .i64 (Int.tmod (wrap64 (a2)) 65534), .int .i64 (wrap64 (1 + (Int.tmod (wrap64 (a3)) 65534)))] 65 (0, 0)) (by (with_reducible repeat (first | refine blk_drewN ?_ _ | refine blk_drew ?_ | refine blk_alloc ?_ _)); exact BK199.out)) : gb199 ≠ gb214)); have n8_ := Aside0.mk ((by rw [hg]; exact Nat.ne_of_gt (blk_lt (g := gb199) (o := .cells #[.int .i64 (Int.tmod (wrap64 (a0)) 65534), .int .i64 (Int.tmod (wrap64 (a1)) 65534), .int .i64 (Int.tmod (wrap64 (a2)) 65534), .int .i64 (wrap64 (1 + (Int.tmod (wrap64 (a3)) 65534)))] 65 (0, 0)) (by (with_reducible repeat (first | refine blk_drewN ?_ _ | refine blk_drew ?_ | refine blk_alloc ?_ _)); exact BK199.out)) : gb214 ≠ gb199)); clear HO_14; clear HO_50; clear BK199; clear HB; have HO_14 := n0_; have HO_50 := n1_; have BK199 := n2_; have HB := n3_; have BK214 := n4_; have GW214 := n5_; have GE214 := n6_; have NB199_214 := n7_; have NB214_199 := n8_; clear n0_ n1_ n2_ n3_ n4_ n5_ n6_ n7_ n8_; clear hb hbox hg; have hnb65 := NB214_199.out; have hnc65 := NB199_214.out; have hcz66_0 : w64.cell? ⟨gb214, 0, none⟩ = some (.int .i64 0) := (blk_cell BK214.out 0).trans rfl; have hcz66_1 : w64.cell? ⟨gb214, 1, none⟩ = some (.int .i64 0) := (blk_cell BK214.out 1).trans rfl; have hcz66_2 : w64.cell? ⟨gb214, 2, none⟩ = some (.int .i64 0) := (blk_cell BK214.out 2).trans rfl; have hcz66_3 : w64.cell? ⟨gb214, 3, none⟩ = some (.int .i64 0) := (blk_cell BK214.out 3).trans rfl; have hfz66_0 := blk_frozen BK214.out 0; have hfz66_1 := blk_frozen BK214.out 1; have hfz66_2 := blk_frozen BK214.out 2; have hfz66_3 := blk_frozen BK214.out 3))
                        go_ret
                        exact ⟨by first | rfl | (simp [errW_none, errW_some] <;> rfl) | (simp [*, errW_none, errW_some] <;> rfl), by repeat (first | (with_reducible first | exact HB.out | apply below_alloc | apply pw_below_drewN | apply below_drew1 | refine below_set ?_ GE199.out | refine below_set ?_ GE214.out) | exact HB.out)⟩
                      · rw [if_neg c61] at H
                        have c61b0 : (t213 == 0) = false := beq_eq_false_iff_ne.mpr c61
                        have c61b1 : (t213 != 0) = true := bne_iff_ne.mpr c61
                        obtain rfl := Option.some.inj H
                        obtain ⟨Ao67, co67, eo67⟩ := Kd.R_slice HO_14.out
                        subst eo67
                        go_wp2_with (first | ((with_reducible refine gate_callee (f := 34) rfl ?_); refine goesL_ (some 79) rfl rfl Try.func34 (by kernel_rfl) rfl #[.slice Ao67 x14_2.length co67] rfl (by (try simp only [List.map_toArray, List.map_cons, List.map_nil]); first | done | rfl | (simp only [List.length_drop, List.length_take]; rfl)) ?_; (with_reducible refine (record_Decode.calls k2 _ _ x14_2 t209 t210 t211 t212 t213 _ ?side1 ?side2 A35.out).mono ?_); (case side1 => repeat (first | exact (Kd.R_reads' HO_14.out).2.2 | (with_reducible refine Kd.C_alloc ?_ _) | (with_reducible refine Kd.C_drewN ?_ _) | (with_reducible refine Kd.C_drew ?_))); (case side2 => exact (Kd.R_reads' HO_14.out).2.1); rintro e w68 ⟨rfl, hb⟩; refine ⟨_, rfl, ?_⟩; have n0_ := Aside0.mk (Kd.R_below (by (with_reducible repeat (first | apply Kd.R_alloc | apply Kd.R_drewN | apply Kd.R_drew)); exact HO_14.out) hb); have n1_ := Aside0.mk (Kd.R_below (by (with_reducible repeat (first | apply Kd.R_alloc | apply Kd.R_drewN | apply Kd.R_drew)); exact HO_50.out) hb); have n2_ := Aside0.mk (blk_below (g := gb199) (o := .cells #[.int .i64 (Int.tmod (wrap64 (a0)) 65534), .int .i64 (Int.tmod (wrap64 (a1)) 65534), .int .i64 (Int.tmod (wrap64 (a2)) 65534), .int .i64 (wrap64 (1 + (Int.tmod (wrap64 (a3)) 65534)))] 65 (0, 0)) (by (with_reducible repeat (first | refine blk_drewN ?_ _ | refine blk_drew ?_ | refine blk_alloc ?_ _)); exact BK199.out) hb); have n3_ := Aside0.mk (below_step (by repeat (first | (with_reducible first | exact HB.out | apply below_alloc | apply pw_below_drewN | apply below_drew1 | refine below_set ?_ GE199.out) | exact HB.out)) hb); clear HO_14; clear HO_50; clear BK199; clear HB; have HO_14 := n0_; have HO_50 := n1_; have BK199 := n2_; have HB := n3_; clear n0_ n1_ n2_ n3_; (try clear hb); (try clear hb2); (try clear hk); (try clear hi)) | ((with_reducible refine gate_dst (N := 19) rfl ?_); (try (refine gate_guard (by rfl) ?_; dsimp only)); refine box_event ?hg (N := 19) ?hd (cs := #[.int .i64 0, .int .i64 0, .int .i64 0, .int .i64 0]) (t := 65) ?hr ?_; (case hd => rfl); (case hg => rfl); (case hr => first | (go_simp; done) | (go_simp; rfl)); intro gb214 hg w69 hbox hb; have n0_ := Aside0.mk (Kd.R_below (by (with_reducible repeat (first | apply Kd.R_alloc | apply Kd.R_drewN | apply Kd.R_drew)); exact HO_14.out) hb); have n1_ := Aside0.mk (Kd.R_below (by (with_reducible repeat (first | apply Kd.R_alloc | apply Kd.R_drewN | apply Kd.R_drew)); exact HO_50.out) hb); have n2_ := Aside0.mk (blk_below (g := gb199) (o := .cells #[.int .i64 (Int.tmod (wrap64 (a0)) 65534), .int .i64 (Int.tmod (wrap64 (a1)) 65534), .int .i64 (Int.tmod (wrap64 (a2)) 65534), .int .i64 (wrap64 (1 + (Int.tmod (wrap64 (a3)) 65534)))] 65 (0, 0)) (by (with_reducible repeat (first | refine blk_drewN ?_ _ | refine blk_drew ?_ | refine blk_alloc ?_ _)); exact BK199.out) hb); have n3_ := Aside0.mk (below_step (by repeat (first | (with_reducible first | exact HB.out | apply below_alloc | apply pw_below_drewN | apply below_drew1 | refine below_set ?_ GE199.out) | exact HB.out)) hb); have n4_ := Aside0.mk (hbox); have n5_ := Aside0.mk ((by rw [hg]; exact (below_size (by repeat (first | (with_reducible first | exact HB.out | apply below_alloc | apply pw_below_drewN | apply below_drew1 | refine below_set ?_ GE199.out) | exact HB.out))) : w.heap.size ≤ gb214)); have n6_ := Aside0.mk ((by rw [hg]; exact (below_size (by repeat (first | (with_reducible first | exact HB.out | apply below_alloc | apply pw_below_drewN | apply below_drew1 | refine below_set ?_ GE199.out) | exact HB.out))) : w.heap.size ≤ gb214)); have n7_ := Aside0.mk ((by rw [hg]; exact Nat.ne_of_lt (blk_lt (g := gb199) (o := .cells #[.int .i64 (Int.tmod (wrap64 (a0)) 65534), .int .i64 (Int.tmod (wrap64 (a1)) 65534), .int .i64 (Int.tmod (wrap64 (a2)) 65534), .int .i64 (wrap64 (1 + (Int.tmod (wrap64 (a3)) 65534)))] 65 (0, 0)) (by (with_reducible repeat (first | refine blk_drewN ?_ _ | refine blk_drew ?_ | refine blk_alloc ?_ _)); exact BK199.out)) : gb199 ≠ gb214)); have n8_ := Aside0.mk ((by rw [hg]; exact Nat.ne_of_gt (blk_lt (g := gb199) (o := .cells #[.int .i64 (Int.tmod (wrap64 (a0)) 65534), .int .i64 (Int.tmod (wrap64 (a1)) 65534), .int .i64 (Int.tmod (wrap64 (a2)) 65534), .int .i64 (wrap64 (1 + (Int.tmod (wrap64 (a3)) 65534)))] 65 (0, 0)) (by (with_reducible repeat (first | refine blk_drewN ?_ _ | refine blk_drew ?_ | refine blk_alloc ?_ _)); exact BK199.out)) : gb214 ≠ gb199)); clear HO_14; clear HO_50; clear BK199; clear HB; have HO_14 := n0_; have HO_50 := n1_; have BK199 := n2_; have HB := n3_; have BK214 := n4_; have GW214 := n5_; have GE214 := n6_; have NB199_214 := n7_; have NB214_199 := n8_; clear n0_ n1_ n2_ n3_ n4_ n5_ n6_ n7_ n8_; clear hb hbox hg; have hnb70 := NB214_199.out; have hnc70 := NB199_214.out; have hcz71_0 : w69.cell? ⟨gb214, 0, none⟩ = some (.int .i64 0) := (blk_cell BK214.out 0).trans rfl; have hcz71_1 : w69.cell? ⟨gb214, 1, none⟩ = some (.int .i64 0) := (blk_cell BK214.out 1).trans rfl; have hcz71_2 : w69.cell? ⟨gb214, 2, none⟩ = some (.int .i64 0) := (blk_cell BK214.out 2).trans rfl; have hcz71_3 : w69.cell? ⟨gb214, 3, none⟩ = some (.int .i64 0) := (blk_cell BK214.out 3).trans rfl; have hfz71_0 := blk_frozen BK214.out 0; have hfz71_1 := blk_frozen BK214.out 1; have hfz71_2 := blk_frozen BK214.out 2; have hfz71_3 := blk_frozen BK214.out 3))
                        go_ret
                        exact ⟨by first | rfl | (simp [errW_none, errW_some] <;> rfl) | (simp [*, errW_none, errW_some] <;> rfl), by repeat (first | (with_reducible first | exact HB.out | apply below_alloc | apply pw_below_drewN | apply below_drew1 | refine below_set ?_ GE199.out | refine below_set ?_ GE214.out) | exact HB.out)⟩
          · rw [if_neg c17] at H
            exact absurd H (by simp)
  · replace c7 := Bool.eq_false_iff.mpr c7
    subst c7
    have H1 : (some false) = some r := by rw [if_neg (show ¬ (false = true) by decide)] at H; exact H
    clear H
    have H := H1
    clear H1
    obtain rfl := Option.some.inj H
    go_enter Try.func12, Try.ntmps12
    go_wp2_with (first | ((with_reducible refine gate_callee (f := 30) rfl ?_); refine goesL_ (some 21) rfl rfl Try.func30 (by kernel_rfl) rfl #[] rfl (by (try simp only [List.map_toArray, List.map_cons, List.map_nil]); first | done | rfl | (simp only [List.length_drop, List.length_take]; rfl)) ?_; (with_reducible refine (cantlelaw09_Lives.calls k  false _ A6.out).mono ?_); rintro e w72 ⟨rfl, hb⟩; refine ⟨_, rfl, ?_⟩; have n0_ := Aside0.mk (below_step (by repeat (first | (with_reducible first | exact HB.out | apply below_alloc | apply pw_below_drewN | apply below_drew1) | exact HB.out)) hb); clear HB; have HB := n0_; clear n0_; (try clear hb); (try clear hb2); (try clear hk); (try clear hi)))
    go_ret
    exact ⟨by first | rfl | (simp [errW_none, errW_some] <;> rfl) | (simp [*, errW_none, errW_some] <;> rfl), by repeat (first | (with_reducible first | exact HB.out | apply below_alloc | apply pw_below_drewN | apply below_drew1) | exact HB.out)⟩

/-- THE ONE PURE STATEMENT of cantlelaw09_RecordTorn: yours. -/
def cantlelaw09_RecordTorn.Pure : Prop := ∀ (a0 : Int) (a1 : Int) (a2 : Int) (a3 : Int) (a4 : Int), (Lit.int .u16 a0).wf = true → (Lit.int .u16 a1).wf = true → (Lit.int .u16 a2).wf = true → (Lit.int .u16 a3).wf = true → (Lit.int .u8 a4).wf = true → ∃ k, cantlelaw09_RecordTorn.f k a0 a1 a2 a3 a4 = some true
theorem cantlelaw09_RecordTorn.walk (P : cantlelaw09_RecordTorn.Pure) (a0 : Int) (a1 : Int) (a2 : Int) (a3 : Int) (a4 : Int) (w : World) (w0 : (Lit.int .u16 a0).wf = true) (w1 : (Lit.int .u16 a1).wf = true) (w2 : (Lit.int .u16 a2).wf = true) (w3 : (Lit.int .u16 a3).wf = true) (w4 : (Lit.int .u8 a4).wf = true) :
    Calls Try.prog 12 #[.int .u16 a0, .int .u16 a1, .int .u16 a2, .int .u16 a3, .int .u8 a4] w fun e w' => e = .returned (.bool true) ∧ Below w.heap.size w w' := by
  obtain ⟨k, h⟩ := P a0 a1 a2 a3 a4 w0 w1 w2 w3 w4
  refine (cantlelaw09_RecordTorn.calls k a0 a1 a2 a3 a4 true w h).mono ?_
  rintro e w' ⟨rfl, hd⟩
  exact ⟨rfl, hd⟩

end Go.Proofs.Ytdccgedbgajidaa.PRecordTorn
