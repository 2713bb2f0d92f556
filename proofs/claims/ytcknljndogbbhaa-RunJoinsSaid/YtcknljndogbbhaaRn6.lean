/- run.Join: the walk. Conditions: as each lemma says. -/
import Derived.Test.YtcknljndogbbhaaRn3
namespace Go.Proofs.Ytcknljndogbbhaa.Rn
open Go.RowKit Go.Proofs.Ytcknljndogbbhaa Go.Proofs.Ytcknljndogbbhaa.Bm Go.Proofs.Ytcknljndogbbhaa.PAll Go.Proofs.YtcknljndogbbhaaW.PrintWords Go.Proofs.YtcknljndogbbhaaW.PrintLast Go.Proofs.YtcknljndogbbhaaW.PrintMore
attribute [local go_sem] max2_int min2_int max_two min_two
set_option linter.unusedVariables false
/-- One run more: it joins the last where that ends at its start. -/
def join1 (out : List S60) (r : S60) : List S60 :=
  match out.getLast? with
  | some q => if q.f0 + q.f1 = r.f0 then out.dropLast ++ [⟨q.f0, q.f1 + r.f1⟩] else out ++ [r]
  | none => out ++ [r]
def joinOf (l : List S60) : List S60 := l.foldl join1 []
theorem join1_nil (r : S60) : join1 [] r = [r] := rfl
theorem join1_snoc (ys : List S60) (q r : S60) : join1 (ys ++ [q]) r = if q.f0 + q.f1 = r.f0 then ys ++ [⟨q.f0, q.f1 + r.f1⟩] else ys ++ [q] ++ [r] := by
  unfold join1
  rw [List.getLast?_concat]
  simp
theorem join1_length (out : List S60) (r : S60) : (join1 out r).length ≤ out.length + 1 := by
  rcases List.eq_nil_or_concat out with rfl | ⟨ys, q, rfl⟩
  · simp [join1_nil]
  · rw [List.concat_eq_append, join1_snoc]; split <;> simp
/-- The last run of a row of one's own: its two cells, and what a store into the second makes. -/
theorem OwnR.last {W : World} {base : Nat} {v : Value} {ys : List S60} {q : S60} (h : OwnR W base v (ys ++ [q])) :
    ∃ g cap, v = .slice (some ⟨g, 0, none⟩) (ys.length + 1) cap ∧ base ≤ g ∧ g < W.heap.size ∧ ys.length + 1 ≤ cap ∧ W.cell? ⟨g, ys.length * 2, none⟩ = some (.int .i64 q.f0) ∧ W.cell? ⟨g, ys.length * 2 + 1, none⟩ = some (.int .i64 q.f1) ∧ W.frozen? ⟨g, ys.length * 2 + 1, none⟩ = false ∧
      ∀ x : Int, OwnR (W.setCell ⟨g, ys.length * 2 + 1, none⟩ (.int .i64 x)) base v (ys ++ [⟨q.f0, x⟩]) := by
  obtain ⟨h1, h2⟩ := h
  rcases h2 with ⟨rfl, h0⟩ | ⟨g, cap, cur, rfl, hg, hh, hle, hmx, hsz, htake⟩
  · simp at h0
  · have hlen : (ys ++ [q]).length = ys.length + 1 := by simp
    rw [hlen] at hle htake
    have hlx : ∀ x : Int, (ys ++ [(⟨q.f0, x⟩ : S60)]).length = ys.length + 1 := fun x => by simp
    have hfl : nums .i64 (flat (ys ++ [q])) = nums .i64 (flat ys) ++ [.int .i64 q.f0, .int .i64 q.f1] := by rw [flat_append, nums_append]; rfl
    have hn : (nums .i64 (flat ys)).length = ys.length * 2 := by rw [nums_length, flat_length]
    rw [hfl] at htake
    have hc : ∀ i, i < (ys.length + 1) * 2 → cur[i]? = (nums .i64 (flat ys) ++ [Value.int .i64 q.f0, .int .i64 q.f1])[i]? := fun i hi => by
      rw [← htake, List.getElem?_take_of_lt hi, Array.getElem?_toList]
    refine ⟨g, cap, by first | rfl | rw [hlen], hg, blk_lt hh, hle, ?_, ?_, blk_frozen hh _, fun x => ⟨by rw [nums_length, flat_length], .inr ⟨g, cap, cur.setIfInBounds (ys.length * 2 + 1) (.int .i64 x), by rw [hlen, hlx], hg, blk_set hh _ _, by rw [hlx]; exact hle, hmx, by simpa using hsz, ?_⟩⟩⟩
    · rw [blk_cell hh, hc _ (by omega), List.getElem?_append_right (by omega), hn, Nat.sub_self]; rfl
    · rw [blk_cell hh, hc _ (by omega), List.getElem?_append_right (by omega), hn, show ys.length * 2 + 1 - ys.length * 2 = 1 from by omega]; rfl
    · have hfx : nums .i64 (flat (ys ++ [⟨q.f0, x⟩])) = nums .i64 (flat ys) ++ [.int .i64 q.f0, .int .i64 x] := by rw [flat_append, nums_append]; rfl
      rw [hfx, Array.toList_setIfInBounds, List.take_set, hlx, htake, List.set_append_right _ _ (by omega), hn, show ys.length * 2 + 1 - ys.length * 2 = 1 from by omega]
      rfl
theorem join_step (l : List S60) (i : Nat) (hi : i < l.length) : joinOf (l.take (i + 1)) = join1 (joinOf (l.take i)) l[i] := by
  unfold joinOf
  rw [List.take_succ_eq_append_getElem hi, List.foldl_append]; rfl
set_option maxHeartbeats 4000000 in
theorem joinH {W : World} (A : Option Addr) (c : Nat) (l : List S60) (hC : Kd.C k60 W A l.length l) (hl : l.length ≤ 1000) (hb : ∀ r ∈ l, (0 ≤ r.f0 ∧ r.f0 ≤ 1000) ∧ 0 ≤ r.f1 ∧ r.f1 ≤ 1000) :
    Calls Try.prog 43 #[.slice A l.length c] W fun e w' => ∃ v, e = .returned v ∧ OwnR w' W.heap.size v (joinOf l) ∧ Below W.heap.size W w' := by
  obtain ⟨i0, hi0⟩ := info60p
  have HI := Aside0.mk hi0
  have HC := Aside0.mk hC
  have HL := Aside0.mk hl
  have HBD := Aside0.mk hb
  clear hC hl hb hi0
  go_enter Try.func43, Try.ntmps43
  go_wp2_with fail
  go_loopw [3, 9] (fun v3 v9 wr => ∃ (i : Nat) (out : List S60), i ≤ l.length ∧ v9 = .int .i64 i ∧ Aside0 (joinOf (l.take i) = out) ∧ Aside0 (out.length ≤ i) ∧ Aside0 (∀ q ∈ out, (0 ≤ q.f0 ∧ q.f0 ≤ 1000) ∧ 0 ≤ q.f1 ∧ q.f1 ≤ 1000 * (i : Int)) ∧ Aside0 (OwnR wr W.heap.size v3 out) ∧ Aside0 (Below W.heap.size W wr)) (fun _ v9 _ => l.length - (intOf v9).toNat)
  case atStart => exact ⟨0, [], Nat.zero_le _, rfl, ⟨rfl⟩, ⟨Nat.le_refl _⟩, ⟨fun q h => by cases h⟩, ⟨own_nil _ _ _ _⟩, ⟨Below.refl _ _⟩⟩
  case round =>
    obtain ⟨i, out, hi, rfl, HJ, HOL, HOB, HOr, HBr⟩ := hrel
    have hl := HL.out
    by_cases hlt : i < l.length
    · have HCr := Aside0.mk (Kd.C_below HC.out HBr.out)
      obtain ⟨ad, eA, q0, q1⟩ := runs_at HCr.out i hlt
      subst eA
      have hst := join_step l i hlt
      have hbk := HBD.out l[i] (List.getElem_mem _)
      generalize l[i] = r at q0 q1 hst hbk
      obtain ⟨r0, r1⟩ := r
      dsimp only at q0 q1 hbk
      rw [HJ.out] at hst
      have HOa := Aside0.mk (HOr.out.below (below_alloc (Below.refl _ _) (.cells #[.int .i64 r0, .int .i64 r1] 60)))
      have HBa := Aside0.mk (below_alloc HBr.out (.cells #[.int .i64 r0, .int .i64 r1] 60))
      have HXa := Aside0.mk (heap_alloc_new wr (.cells #[.int .i64 r0, .int .i64 r1] 60))
      rcases List.eq_nil_or_concat out with rfl | ⟨ys, q, rfl⟩
      · obtain ⟨A3, c3, rfl, hc3, hC3⟩ := HOa.out.C (by simp)
        have hst' : joinOf (l.take (i + 1)) = [] ++ [⟨r0, r1⟩] := hst
        clear hst
        have hst := hst'
        go_wp2_with fail
        go_quiet (fail)
        have HOz := Aside0.mk (HOa.out.below (pw_below_drewN (Below.refl _ _) nq))
        have HBz := Aside0.mk (pw_below_drewN HBa.out nq)
        have hXz : ((wr.alloc (.cells #[.int .i64 r0, .int .i64 r1] 60)).drewN nq).heap[wr.heap.size]? = some (.cells #[.int .i64 r0, .int .i64 r1] 60 (0, 0)) := HXa.out
        generalize (wr.alloc (.cells #[.int .i64 r0, .int .i64 r1] 60)).drewN nq = wz at HOz HBz hXz ⊢
        generalize wr.heap.size = xb at hXz ⊢
        have x0 : wz.cell? ⟨xb, 0, none⟩ = some (.int .i64 r0) := (blk_cell hXz 0).trans rfl
        have x1 : wz.cell? ⟨xb, 1, none⟩ = some (.int .i64 r1) := (blk_cell hXz 1).trans rfl
        clear hXz hC3 hc3
        go_wp2_with (at_builtin; refine wpList_append_own _ rfl _ _ 68 rfl W.heap.size 60 i0 (.agg #[.int .i64 0, .int .i64 0]) 2 16 Try.underlying68 HI.out.1 HI.out.2.1 HI.out.2.2.1 HI.out.2.2.2 rfl (by decide) (.slice A3 0 c3) 0 (nums .i64 (flat [])) rfl (HOz.out.own.alloc _) ⟨wz.heap.size, 0, none⟩ 1 1 [.int .i64 r0, .int .i64 r1] rfl rfl (news2 _ _ _ _) (by simp [Value.oneCell']) (by unfold maxLen; omega) (by omega) (Nat.le_trans HBz.out.size (by simp)) ?_; intro v' w3 hown hgrow hnil)
        have HO3 := Aside0.mk (OwnR.snoc hown)
        have HB3 := Aside0.mk (pw_below_grown (below_alloc HBz.out _) (Value.slice A3 0 c3).ownBlock (Nat.le_trans HBz.out.size (by simp)) hgrow (fun k hk => own_base HOz.out.own k hk))
        go_roundw
        case rel => exact ⟨i + 1, _, by omega, by go_num, ⟨hst⟩, ⟨by simp⟩, ⟨by 
          intro z hz
          rw [List.nil_append, List.mem_singleton] at hz
          subst hz
          dsimp only; omega⟩, HO3, HB3⟩
        case measure => simp [intOf]; omega
      · rw [List.concat_eq_append] at *
        rw [join1_snoc] at hst
        have hqb := HOB.out q (by simp)
        obtain ⟨g, cap, rfl, hg, hgl, hcap, z0, z1, zf, zs⟩ := HOa.out.last
        have hyl := HOL.out
        obtain ⟨q0', q1'⟩ := q
        dsimp only at hqb z0 z1 zs hst
        have hyb : ys.length ≤ 1000 := by rw [List.length_append] at hyl; omega
        have ew : IntKind.i64.wrap (ys.length : Int) = (ys.length : Int) := by
          rw [IntKind.wrap_i64]; omega
        have hz1 : ((ys.length : Int) < (ys.length : Int) + 1) = True := by simp; omega
        have dz : decide ((0 : Int) < (ys.length : Int) + 1) = true := decide_eq_true (by omega)
        by_cases hj : q0' + q1' = r0
        · have hje : (q0' + q1' == r0) = true := by simp [hj]
          go_wp2_with fail
          go_quiet (fail)
          go_wp2_with fail
          go_region
          go_wp2_with fail
          rw [if_pos hj] at hst
          go_roundw
          case rel => exact ⟨i + 1, _, by omega, by go_num, ⟨hst⟩, ⟨by rw [List.length_append] at hyl ⊢; simp at hyl ⊢; omega⟩, ⟨by
            intro z hz
            rw [List.mem_append, List.mem_singleton] at hz
            rcases hz with hz | rfl
            · have := HOB.out z (by simp [hz]); omega
            · dsimp only; omega⟩, ⟨zs (q1' + r1)⟩, ⟨(pw_below_drewN HBa.out _).setCell hg _⟩⟩
          case measure => simp [intOf]; omega
        · have hje : (q0' + q1' == r0) = false := by simpa using hj
          rw [if_neg hj] at hst
          have h2 : (ys ++ [(⟨q0', q1'⟩ : S60)]).length = ys.length + 1 := by simp
          go_wp2_with fail
          go_quiet (fail)
          have HOz := Aside0.mk (HOa.out.below (pw_below_drewN (Below.refl _ _) nq))
          have HBz := Aside0.mk (pw_below_drewN HBa.out nq)
          have hXz : ((wr.alloc (.cells #[.int .i64 r0, .int .i64 r1] 60)).drewN nq).heap[wr.heap.size]? = some (.cells #[.int .i64 r0, .int .i64 r1] 60 (0, 0)) := HXa.out
          generalize (wr.alloc (.cells #[.int .i64 r0, .int .i64 r1] 60)).drewN nq = wz at HOz HBz hXz ⊢
          generalize wr.heap.size = xb at hXz ⊢
          have x0 : wz.cell? ⟨xb, 0, none⟩ = some (.int .i64 r0) := (blk_cell hXz 0).trans rfl
          have x1 : wz.cell? ⟨xb, 1, none⟩ = some (.int .i64 r1) := (blk_cell hXz 1).trans rfl
          clear z0 z1 zf zs hXz
          have HOw := Aside0.mk (show wz.ownsRow W.heap.size 60 2 (.slice (some ⟨g, 0, none⟩) (ys.length + 1) cap) (ys.length + 1) (nums .i64 (flat (ys ++ [⟨q0', q1'⟩]))) from by have := HOz.out.own; rwa [h2] at this)
          go_wp2_with (at_builtin; refine wpList_append_own _ rfl _ _ 68 rfl W.heap.size 60 i0 (.agg #[.int .i64 0, .int .i64 0]) 2 16 Try.underlying68 HI.out.1 HI.out.2.1 HI.out.2.2.1 HI.out.2.2.2 rfl (by decide) (.slice (some ⟨g, 0, none⟩) (ys.length + 1) cap) (ys.length + 1) (nums .i64 (flat (ys ++ [⟨q0', q1'⟩]))) rfl (HOw.out.alloc _) ⟨wz.heap.size, 0, none⟩ 1 1 [.int .i64 r0, .int .i64 r1] rfl rfl (news2 _ _ _ _) (by simp [Value.oneCell']) (by unfold maxLen; omega) (by omega) (Nat.le_trans HBz.out.size (by simp)) ?_; intro v' w3 hown hgrow hnil)
          have HO3 := Aside0.mk (OwnR.snoc (rs := ys ++ [⟨q0', q1'⟩]) (by rw [h2]; exact hown))
          have HB3 := Aside0.mk (pw_below_grown (below_alloc HBz.out _) (Value.slice (some ⟨g, 0, none⟩) (ys.length + 1) cap).ownBlock (Nat.le_trans HBz.out.size (by simp)) hgrow (fun k hk => own_base HOz.out.own k hk))
          go_roundw
          case rel => exact ⟨i + 1, _, by omega, by go_num, ⟨hst⟩, ⟨by simp at hyl ⊢; omega⟩, ⟨by 
            intro z hz
            rw [List.mem_append, List.mem_singleton] at hz
            rcases hz with hz | rfl
            · have := HOB.out z hz; omega
            · dsimp only; omega⟩, HO3, HB3⟩
          case measure => simp [intOf]; omega
    · obtain rfl : i = l.length := by omega
      go_wp2_with fail
      go_ret
      refine ⟨_, rfl, ?_, HBr.out⟩
      have := HJ.out
      rw [List.take_length] at this
      rw [this]
      exact HOr.out
end Go.Proofs.Ytcknljndogbbhaa.Rn
