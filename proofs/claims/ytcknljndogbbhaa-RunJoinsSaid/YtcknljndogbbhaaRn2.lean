/- Runs of free blocks: what run.Fit tells. Conditions: as each lemma says. -/
import Derived.Test.YtcknljndogbbhaaRn1
namespace Go.Proofs.Ytcknljndogbbhaa.Rn
open Go.RowKit Go.Proofs.Ytcknljndogbbhaa Go.Proofs.Ytcknljndogbbhaa.Bm Go.Proofs.Ytcknljndogbbhaa.PAll Go.Proofs.YtcknljndogbbhaaW.PrintWords Go.Proofs.YtcknljndogbbhaaW.PrintLast Go.Proofs.YtcknljndogbbhaaW.PrintMore
attribute [local go_sem] max2_int min2_int max_two min_two
set_option linter.unusedVariables false
/-- The first run that is long enough. -/
def findFit (c : Int) : List S60 → Int × Int × Bool
  | [] => (0, 0, false)
  | r :: rs => if c ≤ r.f1 then (r.f0, c, true) else findFit c rs
def fitOf (m : List Bool) (c : Int) : Int × Int × Bool := if c < 1 then (0, 0, false) else findFit c (runsOf m)
theorem runs_at {W : World} {A : Option Addr} {rs : List S60} (h : Kd.C k60 W A rs.length rs) (i : Nat) (hi : i < rs.length) : ∃ ad, A = some ad ∧ W.cell? (ad.add (i * 2)) = some (.int .i64 rs[i].f0) ∧ W.cell? ⟨(ad.add (i * 2)).block, (ad.add (i * 2)).off + 1, none⟩ = some (.int .i64 rs[i].f1) := by
  obtain ⟨ad, c, e, _, hK, hc⟩ := Kd.C_get h z60 (i : Int) (by omega) (by omega)
  have hg : rs.getD (i : Int).toNat z60 = rs[i] := by rw [Int.toNat_natCast]; simp [List.getD_eq_getElem?_getD, hi]
  rw [hg] at hK
  obtain rfl := k60_open hK
  have hsz : k60.sz = 2 := rfl
  rw [hsz, Int.toNat_natCast] at hc
  refine ⟨ad, e, ?_, ?_⟩
  · have := hc 0 _ rfl; rwa [Nat.add_zero] at this
  · rw [← add_field _ _ 1 (by omega)]
    exact hc 1 _ rfl
theorem set2 {W : World} {g : Nat} {x y : Value} {t : TypeId} (h : W.heap[g]? = some (.cells #[x, y] t (0, 0))) (a b : Value) : ((W.setCell ⟨g, 0, none⟩ a).setCell ⟨g, 1, none⟩ b).heap[g]? = some (.cells #[a, b] t (0, 0)) := by
  have := blk_set (blk_set h 0 a) 1 b
  simpa using this
set_option maxHeartbeats 2000000 in
theorem fitH {W : World} {g b : Nat} {m : List Bool} (h : Holds W g b m) (hn : m.length ≤ 65534) (c : Int) (hc : -9223372036854775808 ≤ c ∧ c ≤ 9223372036854775807) :
    Calls Try.prog 35 #[.pointer (some ⟨g, 0, none⟩), .int .i64 c] W fun e w' => e = .returned (.tuple #[.agg #[.int .i64 (fitOf m c).1, .int .i64 (fitOf m c).2.1], .bool (fitOf m c).2.2]) ∧ Below W.heap.size W w' := by
  have HH := Aside0.mk h
  clear h
  by_cases h1 : c < 1
  · have d : decide (c < 1) = true := decide_eq_true h1
    have e : fitOf m c = (0, 0, false) := by unfold fitOf; rw [if_pos h1]
    have HE := Aside0.mk e
    clear h1 e
    go_enter Try.func35, Try.ntmps35
    go_wp2_with fail
    rw [HE.out]
    refine bodyPost_ret (v := .tuple #[.agg #[.int .i64 0, .int .i64 0], .bool false]) (by simp [results, Try.results35, go_sem]) rfl ⟨rfl, ?_⟩
    exact below_alloc (Below.refl _ _) _
  · have d : decide (c < 1) = false := decide_eq_false h1
    have hf : fitOf m c = findFit c (runsOf m) := by unfold fitOf; rw [if_neg h1]
    have HF := Aside0.mk hf
    have hlr : (runsOf m).length ≤ m.length + 1 := freeR_length m _ _
    have HRL := Aside0.mk (show (runsOf m).length ≤ 70000 by omega)
    have HFR := Aside0.mk (fun (W1 : World) (hb : Below W.heap.size W W1) => freeRunsH (HH.out.below hb) hn)
    generalize runsOf m = rs at HF HRL HFR
    clear hlr hf h1
    go_enter Try.func35, Try.ntmps35
    go_wp2_with fail
    refine (HFR.out _ (below_alloc (Below.refl _ _) _)).mono ?_
    rintro e w1 ⟨v, rfl, ho, hb⟩
    obtain ⟨A, cc, rfl, hle, hC⟩ := OwnR.C ho (by have := HRL.out; omega)
    have HC := Aside0.mk hC
    have HB := Aside0.mk (below_then (below_alloc (Below.refl _ _) _) (by simp) hb)
    have hres : w1.heap[W.heap.size]? = some (.cells #[.int .i64 0, .int .i64 0] 60 (0, 0)) := blk_below (heap_alloc_new _ _) hb
    have HRE := Aside0.mk hres
    clear ho hb hC hle hres HFR
    go_wp2_with fail
    go_loopw [14] (fun v14 wr => ∃ k : Nat, k ≤ rs.length ∧ v14 = .int .i64 k ∧ Aside0 (findFit c (rs.drop k) = findFit c rs) ∧ Aside0 (Kd.C k60 wr A rs.length rs) ∧ Aside0 (wr.heap[W.heap.size]? = some (.cells #[.int .i64 0, .int .i64 0] 60 (0, 0))) ∧ Aside0 (Below W.heap.size W wr)) (fun v14 _ => rs.length - (intOf v14).toNat)
    case atStart => exact ⟨0, Nat.zero_le _, rfl, ⟨rfl⟩, HC, HRE, HB⟩
    case round =>
      obtain ⟨k, hk, rfl, HD, HCr, HRr, HBr⟩ := hrel
      have hl := HRL.out
      have hcell0 : wr.cell? ⟨W.heap.size, 0, none⟩ = some (.int .i64 0) := (blk_cell HRr.out 0).trans rfl
      have hcell1 : wr.cell? ⟨W.heap.size, 1, none⟩ = some (.int .i64 0) := (blk_cell HRr.out 1).trans rfl
      have hfz0 := blk_frozen HRr.out 0
      have hfz1 := blk_frozen HRr.out 1
      have qc0 : ∀ o, (wr.alloc o).cell? ⟨W.heap.size, 0, none⟩ = some (.int .i64 0) := fun o => (blk_cell (blk_alloc HRr.out o) 0).trans rfl
      have qc1 : ∀ o, (wr.alloc o).cell? ⟨W.heap.size, 1, none⟩ = some (.int .i64 0) := fun o => (blk_cell (blk_alloc HRr.out o) 1).trans rfl
      have qf0 : ∀ o, (wr.alloc o).frozen? ⟨W.heap.size, 0, none⟩ = false := fun o => blk_frozen (blk_alloc HRr.out o) 0
      have qf1 : ∀ o, (wr.alloc o).frozen? ⟨W.heap.size, 1, none⟩ = false := fun o => blk_frozen (blk_alloc HRr.out o) 1
      by_cases hlt : k < rs.length
      · obtain ⟨ad, eA, q0, q1⟩ := runs_at HCr.out k hlt
        subst eA
        have hd : findFit c (rs.drop k) = if c ≤ rs[k].f1 then (rs[k].f0, c, true) else findFit c (rs.drop (k + 1)) := by
          rw [List.drop_eq_getElem_cons hlt]; rfl
        have HDD := Aside0.mk hd
        clear hd
        generalize rs[k] = r at q0 q1 HDD
        by_cases hcf : c ≤ r.f1
        · have hcd : decide (c ≤ r.f1) = true := decide_eq_true hcf
          have HX := Aside0.mk (show fitOf m c = (r.f0, c, true) by rw [HF.out, ← HD.out, HDD.out, if_pos hcf])
          go_wp2_with fail
          refine bodyPost_ret (results_ct rfl _ _ W.heap.size 60 #[.int .i64 r.f0, .int .i64 c] (0, 0) _ rfl (set2 (blk_alloc HRr.out _) _ _) Try.underlying60 rfl (by kernel_rfl)) rfl ⟨?_, ((below_alloc HBr.out _).setCell (Nat.le_refl _) _).setCell (Nat.le_refl _) _⟩
          rw [HX.out]
          rfl
        · have hcd : decide (c ≤ r.f1) = false := decide_eq_false hcf
          have HX := Aside0.mk (show findFit c (rs.drop (k + 1)) = findFit c rs by rw [← HD.out, HDD.out, if_neg hcf])
          go_wp2_with fail
          go_roundw
          case rel => exact ⟨k + 1, by omega, by go_num, HX, ⟨Kd.C_below HCr.out (below_alloc (Below.refl _ _) _)⟩, ⟨blk_alloc HRr.out _⟩, ⟨below_alloc HBr.out _⟩⟩
          case measure => simp [intOf]; omega
      · obtain rfl : k = rs.length := by omega
        have HX := Aside0.mk (show fitOf m c = (0, 0, false) by rw [HF.out, ← HD.out, List.drop_length]; rfl)
        go_wp2_with fail
        refine bodyPost_ret (results_ct rfl _ _ W.heap.size 60 #[.int .i64 0, .int .i64 0] (0, 0) _ rfl (set2 HRr.out _ _) Try.underlying60 rfl (by kernel_rfl)) rfl ⟨?_, (HBr.out.setCell (Nat.le_refl _) _).setCell (Nat.le_refl _) _⟩
        rw [HX.out]
        rfl
end Go.Proofs.Ytcknljndogbbhaa.Rn
