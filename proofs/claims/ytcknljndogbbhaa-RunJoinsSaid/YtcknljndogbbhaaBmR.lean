/- What the document's functions on truths answer. Conditions: as each lemma says. -/
import Derived.Test.YtcknljndogbbhaaBmP
namespace Go.Proofs.Ytcknljndogbbhaa.Bm
open Go.RowKit Go.Proofs.Ytcknljndogbbhaa Go.Proofs.Ytcknljndogbbhaa.PAll Go.Proofs.YtcknljndogbbhaaW.PrintWords Go.Proofs.YtcknljndogbbhaaW.PrintLast Go.Proofs.YtcknljndogbbhaaW.PrintMore
set_option linter.unusedVariables false
theorem wsucc (i : Nat) (h : i ≤ 1000000000) : wrap64 ((i : Int) + 1) = ((i + 1 : Nat) : Int) := by rw [Math.w64 (by omega) (by omega)]; omega
theorem rdOf_nat (m : List Bool) (i : Nat) : rdOf false m (i : Int) = m.getD i false := by unfold rdOf; rw [Int.toNat_natCast]
theorem count_ev (m : List Bool) (hm : m.length ≤ 100000) : ∀ d k i : Nat, i + d = m.length → d < k → cantleref10_Count.l0 k ((sumB (fun j => m.getD j false) i : Nat) : Int) m (m.length : Int) (i : Int) = some ((m.count true : Nat) : Int)
  | 0, k, i, h, hk => by
    obtain ⟨k, rfl⟩ : ∃ x, k = x + 1 := ⟨k - 1, by omega⟩
    simp only [cantleref10_Count.l0]
    rw [if_neg (by omega), ← sumB_count, show m.length = i from by omega]
  | d + 1, k, i, h, hk => by
    obtain ⟨k, rfl⟩ : ∃ x, k = x + 1 := ⟨k - 1, by omega⟩
    have ih := count_ev m hm d k (i + 1) (by omega) (by omega)
    have hle := sumB_le (fun j => m.getD j false) i
    simp only [cantleref10_Count.l0]
    rw [if_pos (by omega), if_pos (by omega), if_pos (by omega), rdOf_nat, wsucc i (by omega)]
    simp only [sumB] at ih
    cases hb : m.getD i false with
    | true => rw [hb] at ih; rw [if_pos rfl, wsucc _ (by omega)]; exact ih
    | false => rw [hb] at ih; rw [if_neg (by simp)]; exact ih
theorem count_f (m : List Bool) (hm : m.length ≤ 100000) (k : Nat) (hk : m.length < k) : cantleref10_Count.f k m = some ((m.count true : Nat) : Int) := count_ev m hm m.length k 0 (by omega) hk
theorem wordN_set {f g : Nat → Bool} (k : Nat) (h0 : f k = false) (h1 : g k = true) (h : ∀ i, i ≠ k → g i = f i) : ∀ d, k < d → wordN g d = wordN f d + 2 ^ k
  | 0, hk => absurd hk (Nat.not_lt_zero _)
  | d + 1, hk => by
    simp only [wordN]
    by_cases e : k = d
    · subst e
      rw [h0, h1, wordN_congr k (fun i hi => h i (by omega))]; simp
    · rw [wordN_set k h0 h1 h d (by omega), h d (by omega)]; omega
theorem addW_of (M : List Bool) (i : Nat) (hi : i < M.length) (hb : M.getD i false = false) : (wordsOf M).set (i / 64) ((wordAt M (i / 64) + 2 ^ (i % 64) : Nat) : Int) = wordsOf (M.set i true) := by
  apply List.ext_getElem
  · simp [wordsOf]
  · intro j h1 h2
    have hj2 : j < (M.length + 63) / 64 := by simpa [wordsOf] using h1
    have er : (wordsOf (M.set i true))[j] = (wordAt (M.set i true) j : Int) := by simp [wordsOf]
    rw [List.getElem_set, er]
    split
    · rename_i hjj
      subst hjj
      congr 1
      refine (wordN_set (i % 64) ?_ ?_ ?_ 64 (Nat.mod_lt _ (by omega))).symm
      · show M.getD (64 * (i / 64) + i % 64) false = false
        rw [Nat.div_add_mod]; exact hb
      · show (M.set i true).getD (64 * (i / 64) + i % 64) false = true
        rw [Nat.div_add_mod]; simp [List.getD_eq_getElem?_getD, hi]
      · intro k hk
        show (M.set i true).getD (64 * (i / 64) + k) false = M.getD (64 * (i / 64) + k) false
        have : i ≠ 64 * (i / 64) + k := by omega
        simp [List.getD_eq_getElem?_getD, List.getElem?_set_ne this]
    · rename_i hjj
      have eo : (wordsOf M)[j]'(by simpa [wordsOf] using hj2) = (wordAt M j : Int) := by simp [wordsOf]
      rw [eo]
      congr 1
      refine wordN_congr 64 (fun k hk2 => ?_)
      have : i ≠ 64 * j + k := by omega
      simp [List.getD_eq_getElem?_getD, List.getElem?_set_ne this]
/-- The first i truths, the others false. -/
def mask (m : List Bool) (i : Nat) : List Bool := m.take i ++ List.replicate (m.length - i) false
theorem mask_length (m : List Bool) (i : Nat) (h : i ≤ m.length) : (mask m i).length = m.length := by simp [mask]; omega
theorem mask_get (m : List Bool) (i j : Nat) (h : i ≤ m.length) : (mask m i).getD j false = (decide (j < i) && m.getD j false) := by
  unfold mask
  rw [List.getD_eq_getElem?_getD]
  by_cases hj : j < i
  · rw [List.getElem?_append_left (by simp; omega), List.getElem?_take_of_lt hj, decide_eq_true hj]; simp [List.getD_eq_getElem?_getD]
  · rw [List.getElem?_append_right (by simp; omega), List.getElem?_replicate, decide_eq_false hj]
    split <;> rfl
theorem ext_getD {a b : List Bool} (hl : a.length = b.length) (h : ∀ j, a.getD j false = b.getD j false) : a = b := by
  apply List.ext_getElem hl
  intro j h1 h2
  have := h j
  simpa [List.getD_eq_getElem?_getD, h1, h2] using this
theorem mask_step (m : List Bool) (i : Nat) (h : i < m.length) : mask m (i + 1) = if m.getD i false = true then (mask m i).set i true else mask m i := by
  have hl := mask_length m i (by omega)
  apply ext_getD
  · rw [mask_length m (i + 1) (by omega)]; split <;> simp [hl]
  · intro j
    rw [mask_get m (i + 1) j (by omega)]
    split
    · rename_i hb
      by_cases e : i = j
      · subst e
        rw [hb]
        simp [List.getD_eq_getElem?_getD, hl, h]
      · have e2 : ((mask m i).set i true).getD j false = (mask m i).getD j false := by simp [List.getD_eq_getElem?_getD, List.getElem?_set_ne e]
        rw [e2, mask_get m i j (by omega)]
        have : (j < i + 1) ↔ (j < i) := by omega
        simp [this]
    · rename_i hb
      rw [mask_get m i j (by omega)]
      by_cases e : i = j
      · subst e; simp at hb; simp [hb]
      · have : (j < i + 1) ↔ (j < i) := by omega
        simp [this]
theorem mask_zero (m : List Bool) : mask m 0 = List.replicate m.length false := by simp [mask]
theorem mask_all (m : List Bool) : mask m m.length = m := by simp [mask]
theorem words_ev (m : List Bool) (hm : m.length ≤ 65534) : ∀ d k i : Nat, i + d = m.length → d < k → cantleref10_Words.l0 k (wordsOf (mask m i)) m (m.length : Int) (i : Int) = some (wordsOf m)
  | 0, k, i, h, hk => by
    obtain ⟨k, rfl⟩ : ∃ x, k = x + 1 := ⟨k - 1, by omega⟩
    simp only [cantleref10_Words.l0]
    rw [if_neg (by omega), show i = m.length from by omega, mask_all]
  | d + 1, k, i, h, hk => by
    obtain ⟨k, rfl⟩ : ∃ x, k = x + 1 := ⟨k - 1, by omega⟩
    have ih := words_ev m hm d k (i + 1) (by omega) (by omega)
    simp only [cantleref10_Words.l0]
    rw [if_pos (by omega), if_pos (by omega), if_pos (by omega), rdOf_nat, wsucc i (by omega)]
    rw [mask_step m i (by omega)] at ih
    cases hb : m.getD i false with
    | true =>
      rw [hb, if_pos rfl] at ih
      rw [if_pos rfl]
      have hl := mask_length m i (by omega)
      have e1 : wrap64 (Int.tdiv (i : Int) 64) = ((i / 64 : Nat) : Int) := by rw [Int.tdiv_eq_ediv_of_nonneg (by omega), Math.w64 (by omega) (by omega)]; omega
      have e2 : Int.tmod (i : Int) 64 = ((i % 64 : Nat) : Int) := by rw [Int.tmod_eq_emod_of_nonneg (by omega)]; omega
      have hj : i / 64 < ((mask m i).length + 63) / 64 := by rw [hl]; omega
      have hk64 : i % 64 < 64 := Nat.mod_lt _ (by omega)
      have hp : 2 ^ (i % 64) < 2 ^ 64 := Nat.pow_lt_pow_right (by decide) hk64
      have hb0 : (mask m i).getD i false = false := by rw [mask_get m i i (by omega)]; simp
      have hset := addW_of (mask m i) i (by omega) hb0
      have hlt := wordAt_lt ((mask m i).set i true) (i / 64)
      have hsum : wordAt ((mask m i).set i true) (i / 64) = wordAt (mask m i) (i / 64) + 2 ^ (i % 64) := by
        have := congrArg (fun l => rd l ((i / 64 : Nat) : Int)) hset
        rw [rd_wordsOf _ _ (by simpa using hj)] at this
        have h3 : rd ((wordsOf (mask m i)).set (i / 64) ((wordAt (mask m i) (i / 64) + 2 ^ (i % 64) : Nat) : Int)) ((i / 64 : Nat) : Int) = ((wordAt (mask m i) (i / 64) + 2 ^ (i % 64) : Nat) : Int) := by
          unfold rd; rw [Int.toNat_natCast]; simp [List.getD_eq_getElem?_getD, wordsOf_length, hj]
        rw [h3] at this
        exact_mod_cast this.symm
      have e3 : shl .u64 1 ((i % 64 : Nat) : Int) = ((2 ^ (i % 64) : Nat) : Int) := by
        have h2 : (2 : Int) ^ (i % 64) < 2 ^ 64 := Math.pow_lt' hk64
        rw [Math.shl_u64_fit 1 _ (by omega) (by omega) (by omega) (by rw [Int.toNat_natCast]; omega), Int.toNat_natCast]
        simp
      rw [e1, e2, if_pos (by omega), if_pos (by rw [wordsOf_length]; omega), if_pos (by omega), rd_wordsOf _ _ hj, e3, ← Int.natCast_add, ← hsum, uw _ hlt, hsum, Int.toNat_natCast, hset]
      exact ih
    | false =>
      rw [hb, if_neg (by simp)] at ih
      rw [if_neg (by simp)]
      exact ih
theorem words_f (m : List Bool) (hm : m.length ≤ 65534) (k : Nat) (hk : m.length < k) : cantleref10_Words.f k m = some (wordsOf m) := by
  have e : wrap64 (Int.tdiv (wrap64 ((m.length : Int) + 63)) 64) = (((m.length + 63) / 64 : Nat) : Int) := by
    rw [Math.w64 (n := (m.length : Int) + 63) (by omega) (by omega), Int.tdiv_eq_ediv_of_nonneg (by omega), Math.w64 (by omega) (by omega)]; omega
  unfold cantleref10_Words.f
  rw [e, if_pos (by omega), if_pos (by omega), Int.toNat_natCast, wordsOf_false, ← mask_zero]
  exact words_ev m hm m.length k 0 (by omega) hk
theorem same_ev (l : List Int) (hl : l.length ≤ 100000) : ∀ d k i : Nat, i + d = l.length → d < k → cantlelaw03_Same.l0 k l l (l.length : Int) (i : Int) = some true
  | 0, k, i, h, hk => by
    obtain ⟨k, rfl⟩ : ∃ x, k = x + 1 := ⟨k - 1, by omega⟩
    simp only [cantlelaw03_Same.l0]
    rw [if_neg (by omega)]
  | d + 1, k, i, h, hk => by
    obtain ⟨k, rfl⟩ : ∃ x, k = x + 1 := ⟨k - 1, by omega⟩
    simp only [cantlelaw03_Same.l0]
    rw [if_pos (by omega), if_pos (by omega), if_pos (by omega), if_pos (by omega), if_pos trivial, wsucc i (by omega)]
    exact same_ev l hl d k (i + 1) (by omega) (by omega)
theorem same_f (l : List Int) (hl : l.length ≤ 100000) (k : Nat) (hk : l.length < k) : cantlelaw03_Same.f k l l = some true := by
  unfold cantlelaw03_Same.f
  rw [if_pos rfl]
  exact same_ev l hl l.length k 0 (by omega) hk
theorem equal_ev (a b : List Int) (hab : a.length = b.length) (hl : a.length ≤ 100000) : ∀ d k i : Nat, i + d = a.length → d < k → a.take i = b.take i → slices_Equal_uint64_uint64.l0 k a b (a.length : Int) (i : Int) = some (decide (a = b))
  | 0, k, i, h, hk, ht => by
    obtain ⟨k, rfl⟩ : ∃ x, k = x + 1 := ⟨k - 1, by omega⟩
    simp only [slices_Equal_uint64_uint64.l0]
    rw [if_neg (by omega), decide_eq_true]
    rwa [List.take_of_length_le (by omega), List.take_of_length_le (by omega)] at ht
  | d + 1, k, i, h, hk, ht => by
    obtain ⟨k, rfl⟩ : ∃ x, k = x + 1 := ⟨k - 1, by omega⟩
    simp only [slices_Equal_uint64_uint64.l0]
    rw [if_pos (by omega), if_pos (by omega), if_pos (by omega), if_pos (by omega), wsucc i (by omega)]
    have ha : rd a (i : Int) = a[i] := by unfold rd; simp [List.getD_eq_getElem?_getD, show i < a.length from by omega]
    have hb : rd b (i : Int) = b[i] := by unfold rd; simp [List.getD_eq_getElem?_getD, show i < b.length from by omega]
    rw [ha, hb]
    by_cases e : a[i] = b[i]
    · rw [if_pos e]
      exact equal_ev a b hab hl d k (i + 1) (by omega) (by omega) (by rw [List.take_succ_eq_append_getElem (by omega), List.take_succ_eq_append_getElem (by omega), ht, e])
    · rw [if_neg e, decide_eq_false]
      intro h; subst h; exact e rfl
theorem equal_f (a b : List Int) (hl : a.length ≤ 100000) (hab : a.length = b.length) (k : Nat) (hk : a.length < k) : slices_Equal_uint64_uint64.f k a b = some (decide (a = b)) := by
  unfold slices_Equal_uint64_uint64.f
  rw [if_pos (by omega)]
  exact equal_ev a b hab hl a.length k 0 (by omega) hk rfl
theorem wordsOf_inj {m v : List Bool} (hl : m.length = v.length) (h : wordsOf m = wordsOf v) : m = v := by
  apply ext_getD hl
  intro j
  by_cases hj : j < m.length
  · have := congrArg (fun l => rd l ((j / 64 : Nat) : Int)) h
    rw [rd_wordsOf _ _ (by omega), rd_wordsOf _ _ (by omega)] at this
    have e : wordAt m (j / 64) = wordAt v (j / 64) := by exact_mod_cast this
    have hk : j % 64 < 64 := Nat.mod_lt _ (by omega)
    have := congrArg (fun x : Nat => x.testBit (j % 64)) e
    simp only [wordAt] at this
    rw [testBit_wordN _ _ _ hk, testBit_wordN _ _ _ hk, Nat.div_add_mod] at this
    exact this
  · rw [List.getD_eq_getElem?_getD, List.getD_eq_getElem?_getD, List.getElem?_eq_none (by omega), List.getElem?_eq_none (by omega)]
theorem next_ev (m : List Bool) (hm : m.length ≤ 65534) (a : Int) (is : Bool) : ∀ d k i : Nat, i + d = m.length → d < k →
    cantleref10_Next.l0 k m a is (m.length : Int) (i : Int) = some (nextB m is (m.length - max i a.toNat) (max i a.toNat))
  | 0, k, i, h, hk => by
    obtain ⟨k, rfl⟩ : ∃ x, k = x + 1 := ⟨k - 1, by omega⟩
    simp only [cantleref10_Next.l0]
    rw [if_neg (by omega), show m.length - max i a.toNat = 0 from by omega]; rfl
  | d + 1, k, i, h, hk => by
    obtain ⟨k, rfl⟩ : ∃ x, k = x + 1 := ⟨k - 1, by omega⟩
    have ih := next_ev m hm a is d k (i + 1) (by omega) (by omega)
    simp only [cantleref10_Next.l0]
    rw [if_pos (by omega), wsucc i (by omega)]
    by_cases ha : (i : Int) ≥ a
    · rw [if_pos ha, if_pos (by omega), if_pos (by omega), rdOf_nat, show max i a.toNat = i from by omega, show m.length - i = (m.length - (i + 1)) + 1 from by omega]
      simp only [nextB, hasAt_nat]
      rw [show max (i + 1) a.toNat = i + 1 from by omega] at ih
      split
      · rfl
      · exact ih
    · rw [if_neg ha, ih, show max (i + 1) a.toNat = max i a.toNat from by omega]
theorem next_f (m : List Bool) (hm : m.length ≤ 65534) (a : Int) (is : Bool) (k : Nat) (hk : m.length < k) : cantleref10_Next.f k m a is = some (nextB m is (m.length - a.toNat) a.toNat) := by
  have := next_ev m hm a is m.length k 0 (by omega) hk
  rwa [show max 0 a.toNat = a.toNat from by omega] at this
theorem turn_f (m : List Bool) (hm : m.length ≤ 65534) (a : Int) (is : Bool) : cantleref10_Turn.f m a is = some ((turnB1 (!is) (m, 0) a).1, decide ((turnB1 (!is) (m, 0) a).2 = 1)) := by
  unfold cantleref10_Turn.f turnB1
  by_cases h0 : a < 0
  · rw [if_pos h0, if_neg (by omega)]; rfl
  · rw [if_neg h0]
    by_cases h1 : a ≥ (m.length : Int)
    · rw [if_pos h1, if_neg (by simp only; omega)]; rfl
    · rw [if_neg h1, if_pos (by omega), if_pos (by omega)]
      obtain ⟨A, rfl⟩ := Int.eq_ofNat_of_zero_le (show 0 ≤ a by omega)
      simp only [Option.bind_some, List.nil_append, List.length_nil, Nat.zero_add]
      rw [rdOf_nat, hasAt_nat, Int.toNat_natCast]
      have hA : A < m.length := by omega
      have hB : m.length < 140737488355328 := by omega
      cases hb : m.getD A false <;> cases is <;> simp [hA, hB]
theorem new_f (a : Int) : cantleref10_New.f a = some (List.replicate (clampN a) false) := by
  unfold cantleref10_New.f clampN
  by_cases h0 : a < 0
  · rw [if_pos h0, if_neg (by omega), if_pos (by omega), if_pos (by omega)]
  · rw [if_neg h0]
    by_cases h1 : a > 65534
    · rw [if_pos h1, if_pos (by omega), if_neg (by omega), if_pos (by omega)]
    · rw [if_neg h1, if_pos (by omega), if_pos (by omega)]
      congr 2
      (repeat' split) <;> omega
end Go.Proofs.Ytcknljndogbbhaa.Bm
