/- Runs joined: the same blocks, no two neighbours touch. Conditions: as each lemma says. -/
import Derived.Test.YtcknljndogbbhaaRnP
import Derived.Test.YtcknljndogbbhaaRn4
import Derived.Test.YtcknljndogbbhaaRn6
namespace Go.Proofs.Ytcknljndogbbhaa.Rn
open Go.RowKit Go.Proofs.Ytcknljndogbbhaa Go.Proofs.Ytcknljndogbbhaa.Bm Go.Proofs.Ytcknljndogbbhaa.PAll Go.Proofs.YtcknljndogbbhaaW.PrintWords Go.Proofs.YtcknljndogbbhaaW.PrintLast Go.Proofs.YtcknljndogbbhaaW.PrintMore
set_option linter.unusedVariables false
def blk1 (r : S60) : List Int := (List.range r.f1.toNat).map fun (t : Nat) => r.f0 + (t : Int)
def blksOf (l : List S60) : List Int := l.flatMap blk1
theorem blksOf_append (a b : List S60) : blksOf (a ++ b) = blksOf a ++ blksOf b := by simp [blksOf]
theorem blksOf_one (r : S60) : blksOf [r] = blk1 r := by simp [blksOf]
theorem blk1_length (r : S60) : (blk1 r).length = r.f1.toNat := by simp [blk1]
theorem blk1_join (a b c : Int) (hb : 0 ≤ b) (hc : 0 ≤ c) : blk1 ⟨a, b + c⟩ = blk1 ⟨a, b⟩ ++ blk1 ⟨a + b, c⟩ := by
  obtain ⟨B, rfl⟩ := Int.eq_ofNat_of_zero_le hb
  obtain ⟨C, rfl⟩ := Int.eq_ofNat_of_zero_le hc
  unfold blk1
  dsimp only
  rw [show ((B : Int) + (C : Int)).toNat = B + C from by omega, Int.toNat_natCast, Int.toNat_natCast, List.range_add, List.map_append, List.map_map]
  congr 1
  apply List.map_congr_left
  intro t _
  simp; omega
/-- No two neighbours touch. -/
def Apart (l : List S60) : Prop := ∀ i (h : i + 1 < l.length), (l[i]'(by omega)).f0 + (l[i]'(by omega)).f1 ≠ (l[i + 1]).f0
theorem apart_snoc (ys : List S60) (q r : S60) (h : Apart (ys ++ [q])) (hn : q.f0 + q.f1 ≠ r.f0) : Apart (ys ++ [q] ++ [r]) := by
  intro i hi
  have hl : (ys ++ [q]).length = ys.length + 1 := by simp
  by_cases h1 : i + 1 < (ys ++ [q]).length
  · have := h i h1
    rw [List.getElem_append_left (by omega : i < (ys ++ [q]).length), List.getElem_append_left h1]
    exact this
  · have e : i = ys.length := by simp at hi h1; omega
    subst e
    simpa using hn
theorem apart_last (ys : List S60) (q : S60) (x : Int) (h : Apart (ys ++ [q])) : Apart (ys ++ [⟨q.f0, x⟩]) := by
  intro i hi
  have h0 := h i (by simpa using hi)
  have hi2 : i < ys.length := by simp at hi; omega
  rw [List.getElem_append_left hi2] at h0 ⊢
  by_cases h1 : i + 1 < ys.length
  · rw [List.getElem_append_left h1] at h0 ⊢; exact h0
  · have e : i + 1 = ys.length := by omega
    rw [List.getElem_append_right (by omega)] at h0 ⊢
    simpa [e] using h0
theorem join_all (l : List S60) (hl : ∀ r ∈ l, 1 ≤ r.f1) : ∀ i, i ≤ l.length → blksOf (joinOf (l.take i)) = blksOf (l.take i) ∧ Apart (joinOf (l.take i)) ∧ sumR (joinOf (l.take i)) = sumR (l.take i) ∧ (∀ q ∈ joinOf (l.take i), 1 ≤ q.f1) := by
  intro i
  induction i with
  | zero => intro _; exact ⟨rfl, fun i h => by simp [joinOf] at h, rfl, fun q h => by simp [joinOf] at h⟩
  | succ i ih =>
    intro hi
    obtain ⟨h1, h2, h3, h4⟩ := ih (by omega)
    have hr := hl (l[i]'(by omega)) (List.getElem_mem _)
    rw [join_step l i (by omega), List.take_succ_eq_append_getElem (by omega), blksOf_append, sumR_snoc, blksOf_one, ← h1, ← h3]
    generalize joinOf (l.take i) = out at h1 h2 h3 h4 ⊢
    generalize l[i]'(by omega) = r at hr ⊢
    rcases List.eq_nil_or_concat out with rfl | ⟨ys, q, rfl⟩
    · rw [join1_nil]
      exact ⟨by simp [blksOf], fun i h => by simp at h, by simp [sumR], fun q h => by simp at h; rw [h]; exact hr⟩
    · rw [List.concat_eq_append] at *
      rw [join1_snoc]
      have hq := h4 q (by simp)
      by_cases hj : q.f0 + q.f1 = r.f0
      · rw [if_pos hj]
        refine ⟨?_, apart_last ys q _ h2, ?_, ?_⟩
        · rw [blksOf_append, blksOf_append, blksOf_one, blksOf_one, blk1_join _ _ _ (by omega) (by omega), List.append_assoc]
          obtain ⟨r0, r1⟩ := r
          dsimp only at hj ⊢
          rw [hj]
        · rw [sumR_snoc, sumR_snoc]; dsimp only; omega
        · intro z hz
          rw [List.mem_append, List.mem_singleton] at hz
          rcases hz with hz | rfl
          · exact h4 z (by simp [hz])
          · dsimp only; omega
      · rw [if_neg hj]
        refine ⟨by rw [blksOf_append, blksOf_one], apart_snoc ys q r h2 hj, by rw [sumR_snoc], ?_⟩
        intro z hz
        rw [List.mem_append, List.mem_singleton] at hz
        rcases hz with hz | rfl
        · exact h4 z hz
        · exact hr
end Go.Proofs.Ytcknljndogbbhaa.Rn
