/- BitmapPlays: what the law needs to know of blocks and truths. Conditions: as each lemma says. -/
import Derived.Test.YtcknljndogbbhaaBmS
import Derived.Test.YtcknljndogbbhaaBmL
import Derived.Test.YtcknljndogbbhaaRn3
namespace Go.Proofs.Ytcknljndogbbhaa.Bm
open Go.RowKit Go.Proofs.Ytcknljndogbbhaa Go.Proofs.Ytcknljndogbbhaa.Rn Go.Proofs.Ytcknljndogbbhaa.PAll Go.Proofs.YtcknljndogbbhaaW.PrintWords Go.Proofs.YtcknljndogbbhaaW.PrintLast Go.Proofs.YtcknljndogbbhaaW.PrintMore
set_option linter.unusedVariables false
theorem few_ev (xs : List S48) (hl : xs.length ≤ 9223372036854775807) : ∀ d i k : Nat, i + d = xs.length → d < k → ∃ r, cantlelaw10_few.l0 k xs xs (xs.length : Int) (i : Int) = some r ∧ (r = true → xs.length ≤ 40 ∧ ∀ x ∈ xs.drop i, x.f3.length ≤ 40)
  | 0, i, k, h, hk => by
    obtain ⟨k, rfl⟩ : ∃ x, k = x + 1 := ⟨k - 1, by omega⟩
    simp only [cantlelaw10_few.l0]
    rw [if_neg (by omega)]
    refine ⟨_, rfl, fun hr => ⟨by have := of_decide_eq_true hr; omega, fun x hx => ?_⟩⟩
    rw [List.drop_of_length_le (by omega)] at hx; cases hx
  | d + 1, i, k, h, hk => by
    obtain ⟨k, rfl⟩ : ∃ x, k = x + 1 := ⟨k - 1, by omega⟩
    have hi : i < xs.length := by omega
    have e : rd_T48 xs (i : Int) = xs[i] := by unfold rd_T48; simp [List.getD_eq_getElem?_getD, hi]
    simp only [cantlelaw10_few.l0]
    rw [if_pos (by omega), if_pos (by omega), if_pos (by omega), e]
    by_cases hc : ((xs[i].f3).length : Int) > 40
    · rw [if_pos hc]; exact ⟨false, rfl, fun h => by cases h⟩
    · rw [if_neg hc, Math.w64 (n := (i : Int) + 1) (by omega) (by omega), show (i : Int) + 1 = ((i + 1 : Nat) : Int) from by omega]
      obtain ⟨r, h1, h2⟩ := few_ev xs hl d (i + 1) k (by omega) (by omega)
      refine ⟨r, h1, fun hr => ⟨(h2 hr).1, fun x hx => ?_⟩⟩
      rw [List.drop_eq_getElem_cons hi, List.mem_cons] at hx
      rcases hx with rfl | hx
      · omega
      · exact (h2 hr).2 x hx
theorem few_f (xs : List S48) (hl : xs.length ≤ 9223372036854775807) : ∃ r, cantlelaw10_few.f (xs.length + 1) xs = some r ∧ (r = true → xs.length ≤ 40 ∧ ∀ x ∈ xs, x.f3.length ≤ 40) := by
  obtain ⟨r, h1, h2⟩ := few_ev xs hl xs.length 0 (xs.length + 1) (by omega) (by omega)
  exact ⟨r, h1, fun hr => ⟨(h2 hr).1, fun x hx => (h2 hr).2 x (by rwa [List.drop_zero])⟩⟩
/-- One block more. -/
theorem turnB_snoc (was : Bool) (m : List Bool) (l : List Int) (a : Int) : turnB was m (l ++ [a]) = turnB1 was (turnB was m l) a := by unfold turnB; rw [List.foldl_append]; rfl
theorem turnB1_add (was : Bool) (m : List Bool) (n : Nat) (a : Int) : turnB1 was (m, n) a = ((turnB1 was (m, 0) a).1, n + (turnB1 was (m, 0) a).2) := by
  unfold turnB1
  dsimp only
  split <;> simp
theorem turnB1_le (was : Bool) (m : List Bool) (a : Int) : (turnB1 was (m, 0) a).2 = 0 ∨ (turnB1 was (m, 0) a).2 = 1 := by
  unfold turnB1
  dsimp only
  split <;> simp
theorem turnB_fold_le (was : Bool) (l : List Int) : ∀ s : List Bool × Nat, (l.foldl (turnB1 was) s).2 ≤ s.2 + l.length := by
  induction l with
  | nil => intro s; exact Nat.le_refl _
  | cons a l ih =>
    intro s
    have h := ih (turnB1 was s a)
    have h1 : (turnB1 was s a).2 ≤ s.2 + 1 := by unfold turnB1; split <;> simp
    show (l.foldl (turnB1 was) (turnB1 was s a)).2 ≤ _
    simp; omega
theorem turnB_le (was : Bool) (m : List Bool) (l : List Int) : (turnB was m l).2 ≤ l.length := by
  have := turnB_fold_le was l (m, 0)
  simpa [turnB] using this
/-- May blocks in a row be put? As the law asks it. -/
def rowFree (m : List Bool) (a k : Int) : Prop := 1 ≤ k ∧ k ≤ m.length ∧ 0 ≤ a ∧ a ≤ m.length - k
theorem rowB_no {m : List Bool} {a k : Int} (h : ¬ rowFree m a k) : rangeB m a k = false := by
  unfold rangeB
  unfold rowFree at h
  by_cases h1 : 1 ≤ k
  · by_cases h2 : 0 ≤ a
    · by_cases h3 : a < m.length
      · have h4 : ¬ k ≤ m.length - a := by omega
        rw [decide_eq_false h4]; simp
      · rw [decide_eq_false h3]; simp
    · rw [decide_eq_false h2]; simp
  · rw [decide_eq_false h1]; simp
theorem rowB_used {m : List Bool} {a k : Nat} (q : Nat) (h1 : a ≤ q) (h2 : q < a + k) (h3 : q < m.length) (hf : m.getD q false = true) : rangeB m a k = false := by
  unfold rangeB
  rw [Int.toNat_natCast]
  by_cases ha : a < m.length
  · rcases nextB_spec m true (m.length - a) a (by omega) with ⟨k1, k2⟩ | ⟨p, k1, k2, k3, k4, k5⟩
    · have := k2 q h1 h3
      rw [hf] at this; cases this
    · have hpq : p ≤ q := by
        rcases Nat.lt_or_ge q p with h | h
        · have := k5 q h1 h
          rw [hf] at this; cases this
        · exact h
      rw [k3, decide_eq_true (show (0 : Int) ≤ p by omega), decide_eq_true (show (p : Int) < a + k by omega)]
      simp
  · rw [decide_eq_false (show ¬ (a : Int) < m.length by omega)]; simp
theorem rowB_yes {m : List Bool} {a k : Nat} (hk : 1 ≤ k) (h : a + k ≤ m.length) (hf : ∀ q, a ≤ q → q < a + k → m.getD q false = false) : rangeB m a k = true := by
  unfold rangeB
  rw [decide_eq_true (show 1 ≤ (k : Int) by omega), decide_eq_true (by omega : 0 ≤ (a : Int)), decide_eq_true (by omega : (a : Int) < m.length), decide_eq_true (by omega : (k : Int) ≤ m.length - (a : Int)), Int.toNat_natCast]
  rcases nextB_spec m true (m.length - a) a (by omega) with ⟨k1, _⟩ | ⟨q, k1, k2, k3, k4, _⟩
  · rw [k1]; rfl
  · rw [k3]
    have : ¬ (q : Int) < a + k := fun hq => by
      have := hf q k1 (by omega)
      rw [this] at k4; cases k4
    rw [decide_eq_false this]; simp
end Go.Proofs.Ytcknljndogbbhaa.Bm
