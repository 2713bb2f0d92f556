/- Layer 11's example; a map drawn out of numbers, and the document's beside it. Conditions: as each lemma says. -/
import Derived.Test.YtcknljndogbbhaaRn3
import Derived.Test.YtcknljndogbbhaaBmS
namespace Go.Proofs.Ytcknljndogbbhaa.Rn
open Go.RowKit Go.Proofs.Ytcknljndogbbhaa Go.Proofs.Ytcknljndogbbhaa.Bm Go.Proofs.Ytcknljndogbbhaa.PAll Go.Proofs.YtcknljndogbbhaaW.PrintWords Go.Proofs.YtcknljndogbbhaaW.PrintLast Go.Proofs.YtcknljndogbbhaaW.PrintMore
attribute [local go_sem] max2_int min2_int max_two min_two
set_option linter.unusedVariables false
theorem eqA60 (d : Nat) (w : World) (x0 y0 : Int) (x1 y1 : Int) :
    (Op.equalIn (d + 2) 60 (.agg #[.int .i64 x0, .int .i64 x1]) (.agg #[.int .i64 y0, .int .i64 y1])).run Try.prog w = .ok (x0 == y0 && (x1 == y1)) w := by
  refine eqA_of Try.underlying60 (by kernel_rfl) ?_
  refine eqf_cons (by rfl) (by go_simp; rfl) (by go_simp; rfl) (by go_simp) ?_
  exact eqf_last (by rfl) (by go_simp; rfl) (by go_simp; rfl) (by go_simp)
theorem eq60 (x0 y0 x1 y1 : Int) (w : World) : (binOp .eql 60 (.agg #[.int .i64 x0, .int .i64 x1]) (.agg #[.int .i64 y0, .int .i64 y1])).run Try.prog w = .ok (.bool (x0 == y0 && (x1 == y1))) w := by
  simp only [binOp]
  simp [Op.equal, Op.maxDepth, eqA60 9998]
theorem lives_put : turnB false (List.replicate 6 false) [1, 4] = ([false, true, false, false, true, false], 2) := by decide +kernel
theorem lives_pick : pickOf [false, true, false, false, true, false] 3 = [⟨0, 1⟩, ⟨2, 2⟩] := by
  have h1 : fitOf [false, true, false, false, true, false] 3 = (0, 0, false) := by decide +kernel
  have h2 : runsOf [false, true, false, false, true, false] = [⟨0, 1⟩, ⟨2, 2⟩, ⟨5, 1⟩] := by rfl
  unfold pickOf
  rw [h1, h2]
  rfl
theorem lives_ok : takeOk [false, true, false, false, true, false] 3 = true := by decide +kernel
set_option maxHeartbeats 4000000 in
theorem lives11 (W : World) : Calls Try.prog 33 #[] W fun e w' => e = .returned (.bool true) ∧ Below W.heap.size W w' := by
  go_enter Try.func33, Try.ntmps33
  go_wp2_with fail
  refine (newH _ 6).mono ?_
  rintro e w1 ⟨g, b, rfl, hH, hg, hb, hB⟩
  have HH1 := Aside0.mk (show Holds w1 g b (List.replicate 6 false) from hH)
  have HB1 := Aside0.mk hB
  clear hH hB
  have hneq : ∀ w : World, (binOp .eql 25 (.pointer (some ⟨g, 0, none⟩)) (.pointer none)).run Try.prog w = .ok (.bool false) w := fun w => by go_simp
  go_wp2_with fail
  refine (lives_calls _).mono ?_
  rintro e w2 ⟨rfl, hb2⟩
  have HH2 := Aside0.mk (HH1.out.below hb2)
  have HB2 := Aside0.mk (below_then HB1.out HB1.out.size hb2)
  clear hb2 HH1 HB1
  go_wp2_with fail
  refine (putH (HH2.out.alloc _) (by simp) (some ⟨w2.heap.size, 0, none⟩) 2 [1, 4] (row_C w2 [1, 4] 3 (by simp)) (fun ad e _ => by cases e; exact Nat.ne_of_gt HH2.out.lt.2.1) (by simp) (by simp)).mono ?_
  rintro e w3 ⟨rfl, hH3, hG3, _⟩
  rw [lives_put] at hH3 ⊢
  have HH3 := Aside0.mk hH3
  have HB3 := Aside0.mk (pw_below_grown (below_alloc HB2.out (.cells (nums .i64 [1, 4]).toArray 3)) (some b) (Nat.le_trans HB2.out.size (by simp)) hG3 (fun k hk => by cases hk; exact hb))
  clear hH3 hG3 HH2 HB2
  go_wp2_with fail
  refine (take_yes HH3.out (by simp) 3 lives_ok trivial).mono ?_
  rintro e w4 ⟨A, cc, rfl, hle, hC, hH4, hG4⟩
  rw [lives_pick] at hle hC ⊢
  obtain ⟨ad, eA, p0, p1⟩ := runs_at hC 0 (by simp)
  obtain ⟨ad', eA', p2, p3⟩ := runs_at hC 1 (by simp)
  subst eA
  cases eA'
  simp only [Nat.zero_mul, Nat.one_mul, List.getElem_cons_zero, List.getElem_cons_succ] at p0 p1 p2 p3
  rw [show ad.add 0 = ad from by simp [Addr.add]] at p0 p1
  rw [show ad.add 2 = ⟨ad.block, ad.off + 2, none⟩ from by simp [Addr.add]] at p2 p3
  have HB4 := Aside0.mk (pw_below_grown HB3.out (some b) HB3.out.size hG4 (fun k hk => by cases hk; exact hb))
  have q1 := eq60 0 0 1 1
  have q2 := eq60 2 2 2 2
  clear hC hle hH4 hG4 HB3 HH3
  go_wp2_with fail
  go_ret
  exact ⟨rfl, HB4.out⟩
/-- A map drawn, and the document's beside it. -/
def Drawn (W : World) (n : Nat) (e : Ending) (w' : World) : Prop :=
  ∃ g b v m, e = .returned (.tuple #[.pointer (some ⟨g, 0, none⟩), v]) ∧ Holds w' g b m ∧ m.length = n ∧ Kd.R Kd.bool 4 w' W.heap.size (fun k => k ≠ g ∧ k ≠ b) v m ∧ W.heap.size ≤ g ∧ W.heap.size ≤ b ∧ Below W.heap.size W w'
set_option maxHeartbeats 4000000 in
theorem drawH (W : World) (n : Int) (hn : 0 ≤ n ∧ n < 65536) (A : Option Addr) (c : Nat) (l : List Int) (hl : l.length ≤ 200) (hC : Kd.C (Kd.int .u16) W A l.length l) (hr : ∀ x ∈ l, 0 ≤ x ∧ x < 65536) :
    Calls Try.prog 34 #[.int .u16 n, .slice A l.length c] W (Drawn W (1 + (n % 200).toNat)) := by
  have HC := Aside0.mk hC
  have HR := Aside0.mk hr
  have HL := Aside0.mk hl
  obtain ⟨N, hN⟩ := Int.eq_ofNat_of_zero_le (show 0 ≤ n % 200 by omega)
  have hN3 : N < 200 := by omega
  have et : Int.tmod n 200 = (N : Int) := by rw [Int.tmod_eq_emod_of_nonneg hn.1, hN]
  have ew : wrap64 (N : Int) = (N : Int) := Math.w64 (by omega) (by omega)
  have HCL := Aside0.mk (show clampN (1 + (N : Int)) = 1 + N by unfold clampN; (repeat' split) <;> omega)
  rw [hN, Int.toNat_natCast]
  clear hC hr hl
  go_enter Try.func34, Try.ntmps34
  go_wp2_with fail
  refine (newH _ _).mono ?_
  rintro e w1 ⟨g, b, rfl, hH, hg, hb, hB⟩
  rw [HCL.out] at hH
  have HH1 := Aside0.mk hH
  have HB1 := Aside0.mk hB
  clear hH hB
  go_wp2_with fail
  refine (cantleref10_New.calls (1 + (N : Int)) _ _ (new_f _)).mono ?_
  rintro e w2 ⟨v, rfl, hr2, hB2⟩
  rw [HCL.out] at hr2
  have HH2 := Aside0.mk (HH1.out.below hB2)
  have HB2 := Aside0.mk (below_then HB1.out HB1.out.size hB2)
  have HR2 := Aside0.mk (show Kd.R Kd.bool 4 w2 W.heap.size (fun k => k ≠ g ∧ k ≠ b) v (List.replicate (1 + N) false) from by
    have h3 := Kd.R_bound hr2
    refine Kd.R_lower (Kd.R_mono h3 (fun k hk => ?_)) HB1.out.size
    have := HH1.out.lt
    omega)
  clear hr2 hB2 HB1 HH1
  go_wp2_with fail
  go_loopw [8, 21] (fun v8 v21 wr => ∃ (i : Nat) (m : List Bool), i ≤ l.length ∧ v21 = .int .i64 i ∧ Aside0 (Holds wr g b m) ∧ Aside0 (m.length = 1 + N) ∧ Aside0 (Kd.R Kd.bool 4 wr W.heap.size (fun k => k ≠ g ∧ k ≠ b) v8 m) ∧ Aside0 (Below W.heap.size W wr)) (fun _ v21 _ => l.length - (intOf v21).toNat)
  case atStart => exact ⟨0, _, Nat.zero_le _, rfl, HH2, ⟨List.length_replicate⟩, HR2, HB2⟩
  case round =>
    obtain ⟨i, m, hi, rfl, HHr, HML, HRr, HBr⟩ := hrel
    have hl := HL.out
    by_cases hlt : i < l.length
    · obtain ⟨ad, eA, hcx⟩ := C_at (Kd.C_below HC.out HBr.out) i hlt
      subst eA
      have hx := HR.out l[i] (List.getElem_mem _)
      rw [show rd l (i : Int) = l[i] from by unfold rd; simp [List.getD_eq_getElem?_getD, hlt]] at hcx
      generalize l[i] = x at hx hcx
      obtain ⟨y, hy⟩ := Int.eq_ofNat_of_zero_le (show 0 ≤ x % (1 + (N : Int)) from Int.emod_nonneg _ (by omega))
      have hy2 : x % (1 + (N : Int)) < 1 + (N : Int) := Int.emod_lt_of_pos _ (by omega)
      have hyN : y < 1 + N := by omega
      have exm : Int.tmod x (1 + (N : Int)) = (y : Int) := by rw [Int.tmod_eq_emod_of_nonneg hx.1, hy]
      have ewx : wrap64 x = x := Math.w64 (by omega) (by omega)
      have HM := Aside0.mk (show m.length ≤ 65534 by have := HML.out; omega)
      go_wp2_with fail
      refine (putH (HHr.out.alloc _) HM.out (some ⟨wr.heap.size, 0, none⟩) 1 [(y : Int)] (row_C wr [(y : Int)] 3 (by simp)) (fun a e _ => by cases e; exact Nat.ne_of_gt HHr.out.lt.2.1) (by simp) (by intro z hz; simp at hz; omega)).mono ?_
      rintro e w4 ⟨rfl, hH4, hG4, hS4⟩
      have hGw : wr.grownBy w4 (some b) := grown_trans (grown_alloc (World.grownBy.refl _ _) _) hG4
      have HH4 := Aside0.mk hH4
      have HB4 := Aside0.mk (pw_below_grown HBr.out (some b) HBr.out.size hGw (fun k hk => by cases hk; exact hb))
      have HR4 := Aside0.mk (Kd.R_grown HRr.out hGw (fun k hk e => hk.2 (by cases e; rfl)))
      clear hH4 hG4 hS4 hGw
      go_wp2_with fail
      refine (cantleref10_Turn.calls (fun k => k ≠ g ∧ k ≠ b) _ m (y : Int) true _ _ W w4 HB4.out HR4.out (turn_f m HM.out (y : Int) true)).mono ?_
      rintro e w5 ⟨v5, rfl, hR5, hB5, hK5⟩
      have hlt4 := HH4.out.lt
      have hh5 : Holds w5 g b (turnB false m [(y : Int)]).1 := by
        obtain ⟨c4, cs4, hI4⟩ := HH4.out
        exact ⟨c4, cs4, hI4.keep (hK5.2 g hlt4.1 (by simp)) (hK5.2 b hlt4.2.1 (by simp))⟩
      have HH5 := Aside0.mk hh5
      have HR5 := Aside0.mk (show Kd.R Kd.bool 4 w5 W.heap.size (fun k => k ≠ g ∧ k ≠ b) v5 (turnB false m [(y : Int)]).1 from Kd.R_mono hR5 (fun k hk => by rcases hk with h | h; exact h; omega))
      have HB5 := Aside0.mk hB5
      have HL5 := Aside0.mk (show (turnB false m [(y : Int)]).1.length = 1 + N by rw [turnB_length]; exact HML.out)
      clear hR5 hB5 hK5 hh5 hlt4
      go_wp2_with fail
      go_roundw
      case rel => exact ⟨i + 1, _, by omega, by go_num, HH5, HL5, HR5, HB5⟩
      case measure => simp [intOf]; omega
    · obtain rfl : i = l.length := by omega
      go_wp2_with fail
      go_ret2
      exact ⟨g, b, _, m, rfl, HHr.out, HML.out, HRr.out, hg, hb, HBr.out⟩
end Go.Proofs.Ytcknljndogbbhaa.Rn
