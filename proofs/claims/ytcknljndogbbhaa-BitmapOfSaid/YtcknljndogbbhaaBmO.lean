/- Words as a map's: the document's answer is the program's. Conditions: as each lemma says. -/
import Derived.Test.YtcknljndogbbhaaBmR
namespace Go.Proofs.Ytcknljndogbbhaa.Bm
open Go.RowKit Go.Proofs.Ytcknljndogbbhaa Go.Proofs.Ytcknljndogbbhaa.PAll Go.Proofs.YtcknljndogbbhaaW.PrintWords Go.Proofs.YtcknljndogbbhaaW.PrintLast Go.Proofs.YtcknljndogbbhaaW.PrintMore
set_option linter.unusedVariables false
def Words64 (l : List Int) : Prop := ∀ x ∈ l, 0 ≤ x ∧ x < 18446744073709551616
/-- Bit i of words. -/
def bitL (l : List Int) (i : Nat) : Bool := (rd l ((i / 64 : Nat) : Int)).toNat.testBit (i % 64)
def bitsOf (N : Nat) (l : List Int) : List Bool := (List.range N).map (bitL l)
theorem bitsOf_length (N : Nat) (l : List Int) : (bitsOf N l).length = N := by simp [bitsOf]
theorem bitsOf_get (N : Nat) (l : List Int) (i : Nat) : (bitsOf N l).getD i false = (decide (i < N) && bitL l i) := by
  rw [List.getD_eq_getElem?_getD]
  by_cases h : i < N
  · simp [bitsOf, h]
  · rw [List.getElem?_eq_none (by rw [bitsOf_length]; omega), decide_eq_false h]; rfl
theorem rd_range {l : List Int} (h : Words64 l) (i : Int) : 0 ≤ rd l i ∧ rd l i < 18446744073709551616 := by
  unfold rd
  rw [List.getD_eq_getElem?_getD]
  rcases q : l[i.toNat]? with _ | x
  · simp
  · exact h x (List.mem_of_getElem? q)
theorem bit_at {l : List Int} (h : Words64 l) (i : Nat) : (Go.bits .and .u64 (shr .u64 (rd l ((i / 64 : Nat) : Int)) ((i % 64 : Nat) : Int)) 1 == 1) = bitL l i := by
  obtain ⟨h0, h1⟩ := rd_range h ((i / 64 : Nat) : Int)
  unfold bitL
  obtain ⟨X, hX⟩ := Int.eq_ofNat_of_zero_le h0
  rw [hX] at h1 ⊢
  rw [Math.shr_u64 _ _ (by omega) (by omega), Int.toNat_natCast, Int.toNat_natCast]
  exact bit_and X (i % 64) (by omega)
theorem bitsOf_succ (N : Nat) (l : List Int) (i : Nat) (hi : i < N) : (bitsOf N l).take i ++ [bitL l i] = (bitsOf N l).take (i + 1) := by
  rw [List.take_succ_eq_append_getElem (by rw [bitsOf_length]; exact hi)]
  simp [bitsOf]
theorem of_step (N : Nat) (l : List Int) (hl : Words64 l) (hlen : l.length ≤ 20) (k i : Nat) (acc : List Bool) (hacc : acc.length ≤ 100000) (hi : i < 64 * l.length) :
    cantleref10_Of.l0 (k + 1) (N : Int) l acc ((64 * l.length : Nat) : Int) (i : Int) =
      if N ≤ i then (if bitL l i = true then some ([], false) else cantleref10_Of.l0 k (N : Int) l acc ((64 * l.length : Nat) : Int) ((i + 1 : Nat) : Int)) else cantleref10_Of.l0 k (N : Int) l (acc ++ [bitL l i]) ((64 * l.length : Nat) : Int) ((i + 1 : Nat) : Int) := by
  have e1 : wrap64 (Int.tdiv (i : Int) 64) = ((i / 64 : Nat) : Int) := by rw [Int.tdiv_eq_ediv_of_nonneg (by omega), Math.w64 (by omega) (by omega)]; omega
  have e2 : Int.tmod (i : Int) 64 = ((i % 64 : Nat) : Int) := by rw [Int.tmod_eq_emod_of_nonneg (by omega)]; omega
  have hb := bit_at hl i
  simp only [cantleref10_Of.l0]
  rw [if_pos (by omega), e1, e2, if_pos (by omega), if_pos (by omega), if_pos (by omega), wsucc i (by omega), hb]
  by_cases hN : N ≤ i
  · rw [if_pos (by omega), if_pos hN]
    by_cases hbt : bitL l i = true
    · rw [hbt] at hb
      rw [if_pos (by simpa using hb), if_pos hbt]
    · have hbf : bitL l i = false := by simpa using hbt
      rw [hbf] at hb
      rw [if_neg (by simpa using hb), if_neg hbt]
  · rw [if_neg (by omega), if_neg hN, if_pos (by omega)]
theorem of_yes_ev (N : Nat) (l : List Int) (hl : Words64 l) (hlen : l.length ≤ 20) (hN : N ≤ 64 * l.length) (hz : ∀ i, N ≤ i → i < 64 * l.length → bitL l i = false) :
    ∀ d k i : Nat, i + d = 64 * l.length → d < k → cantleref10_Of.l0 k (N : Int) l ((bitsOf N l).take i) ((64 * l.length : Nat) : Int) (i : Int) = some (bitsOf N l, true)
  | 0, k, i, h, hk => by
    obtain ⟨k, rfl⟩ : ∃ x, k = x + 1 := ⟨k - 1, by omega⟩
    simp only [cantleref10_Of.l0]
    rw [if_neg (by omega), List.take_of_length_le (by rw [bitsOf_length]; omega)]
  | d + 1, k, i, h, hk => by
    obtain ⟨k, rfl⟩ : ∃ x, k = x + 1 := ⟨k - 1, by omega⟩
    have ih := of_yes_ev N l hl hlen hN hz d k (i + 1) (by omega) (by omega)
    rw [of_step N l hl hlen k i _ (by rw [List.length_take]; omega) (by omega)]
    by_cases hN' : N ≤ i
    · rw [if_pos hN', if_neg (by rw [hz i hN' (by omega)]; simp)]
      rw [List.take_of_length_le (by rw [bitsOf_length]; omega)] at ih ⊢
      exact ih
    · rw [if_neg hN', bitsOf_succ N l i (by omega)]
      exact ih
theorem of_no_ev (N : Nat) (l : List Int) (hl : Words64 l) (hlen : l.length ≤ 20) (hN : N ≤ 64 * l.length) (q : Nat) (hq : N ≤ q) (hq2 : q < 64 * l.length) (hb : bitL l q = true) :
    ∀ d k i : Nat, i + d = q → d < k → cantleref10_Of.l0 k (N : Int) l ((bitsOf N l).take i) ((64 * l.length : Nat) : Int) (i : Int) = some ([], false)
  | 0, k, i, h, hk => by
    obtain ⟨k, rfl⟩ : ∃ x, k = x + 1 := ⟨k - 1, by omega⟩
    obtain rfl : i = q := by omega
    rw [of_step N l hl hlen k i _ (by rw [List.length_take]; omega) (by omega), if_pos hq, if_pos hb]
  | d + 1, k, i, h, hk => by
    obtain ⟨k, rfl⟩ : ∃ x, k = x + 1 := ⟨k - 1, by omega⟩
    have ih := of_no_ev N l hl hlen hN q hq hq2 hb d k (i + 1) (by omega) (by omega)
    rw [of_step N l hl hlen k i _ (by rw [List.length_take]; omega) (by omega)]
    by_cases hN' : N ≤ i
    · rw [if_pos hN']
      split
      · rfl
      · rw [List.take_of_length_le (by rw [bitsOf_length]; omega)] at ih ⊢
        exact ih
    · rw [if_neg hN', bitsOf_succ N l i (by omega)]
      exact ih
theorem small_bits (X r k : Nat) (h : X / 2 ^ r = 0) (hk : r ≤ k) : X.testBit k = false := by
  have hp := Nat.two_pow_pos r
  have : X < 2 ^ r := by
    rcases Nat.lt_or_ge X (2 ^ r) with h1 | h1
    · exact h1
    · have := Nat.div_pos h1 hp; omega
  exact testBit_high X r k this hk
theorem ofOk_mk {N : Nat} {l : List Int} (h : ofOk (N : Int) l = true) : N ≤ 65534 ∧ l.length = (N + 63) / 64 ∧ (N % 64 = 0 ∨ rd l ((l.length : Int) - 1) / 2 ^ (N % 64) = 0) := by
  unfold ofOk at h
  simp only [Bool.and_eq_true, decide_eq_true_eq, Bool.or_eq_true] at h
  obtain ⟨_, h2, h3, h4⟩ := h
  rw [show ((N : Int) % 64).toNat = N % 64 from by omega] at h4
  exact ⟨by omega, by omega, h4.imp (fun h => by omega) id⟩
theorem ofOk_bits {N : Nat} {l : List Int} (hl : Words64 l) (h : ofOk (N : Int) l = true) : ∀ i, N ≤ i → i < 64 * l.length → bitL l i = false := by
  obtain ⟨h1, h2, h3⟩ := ofOk_mk h
  intro i hi hi2
  have h4 := h3.resolve_left (by omega)
  unfold bitL
  have ej : i / 64 = l.length - 1 := by omega
  rw [show ((i / 64 : Nat) : Int) = (l.length : Int) - 1 from by omega]
  obtain ⟨X, hX⟩ := Int.eq_ofNat_of_zero_le (rd_range hl ((l.length : Int) - 1)).1
  rw [hX] at h4 ⊢
  rw [Int.toNat_natCast]
  exact small_bits X (N % 64) (i % 64) (by exact_mod_cast h4) (by omega)
theorem wordsOf_bits {N : Nat} {l : List Int} (hl : Words64 l) (h : ofOk (N : Int) l = true) : wordsOf (bitsOf N l) = l := by
  obtain ⟨h1, h2, h3⟩ := ofOk_mk h
  have hz := ofOk_bits hl h
  apply List.ext_getElem
  · rw [wordsOf_length, bitsOf_length, h2]
  · intro j hj1 hj2
    have e : (wordsOf (bitsOf N l))[j] = (wordAt (bitsOf N l) j : Int) := by simp [wordsOf]
    have er : rd l (j : Int) = l[j] := by unfold rd; simp [List.getD_eq_getElem?_getD, hj2]
    obtain ⟨r0, r1⟩ := rd_range hl (j : Int)
    obtain ⟨X, hX⟩ := Int.eq_ofNat_of_zero_le r0
    rw [e, ← er, hX]
    congr 1
    refine (eq_wordN _ 64 X (by omega) (fun k hk => ?_)).symm
    rw [bitsOf_get]
    have hb : bitL l (64 * j + k) = X.testBit k := by
      unfold bitL
      rw [show (64 * j + k) / 64 = j from by omega, show (64 * j + k) % 64 = k from by omega, hX, Int.toNat_natCast]
    rw [hb]
    by_cases hlt : 64 * j + k < N
    · rw [decide_eq_true hlt]; rfl
    · rw [decide_eq_false hlt]
      have := hz (64 * j + k) (by omega) (by omega)
      rw [hb] at this
      rw [this]; rfl
theorem of_f_yes {n : Int} {l : List Int} (hl : Words64 l) (hlen : l.length ≤ 20) (h : ofOk n l = true) (k : Nat) (hk : 64 * l.length + 2 < k) : cantleref10_Of.f k n l = some (bitsOf n.toNat l, true) := by
  obtain ⟨N, rfl⟩ := Int.eq_ofNat_of_zero_le (show 0 ≤ n from by unfold ofOk at h; simp at h; exact h.1)
  obtain ⟨h1, h2, h3⟩ := ofOk_mk h
  have hev := of_yes_ev N l hl hlen (by omega) (ofOk_bits hl h) (64 * l.length) (k - 1) 0 (by omega) (by omega)
  obtain ⟨k, rfl⟩ : ∃ x, k = x + 1 := ⟨k - 1, by omega⟩
  have e1 : wrap64 (Int.tdiv (wrap64 ((N : Int) + 63)) 64) = (((N + 63) / 64 : Nat) : Int) := by
    rw [Math.w64 (n := (N : Int) + 63) (by omega) (by omega), Int.tdiv_eq_ediv_of_nonneg (by omega), Math.w64 (by omega) (by omega)]; omega
  have e2 : wrap64 (64 * (l.length : Int)) = ((64 * l.length : Nat) : Int) := by rw [Math.w64 (by omega) (by omega)]; omega
  unfold cantleref10_Of.f
  rw [if_neg (by omega), if_neg (by omega), e1, show ((l.length : Int) != (((N + 63) / 64 : Nat) : Int)) = false from by simp; omega]
  simp only [cantleref10_Of.j0]
  rw [if_neg (by simp), e2, Int.toNat_natCast]
  exact hev
theorem of_f_no {n : Int} {l : List Int} (hl : Words64 l) (hlen : l.length ≤ 20) (hn : -9223372036854775808 ≤ n ∧ n ≤ 9223372036854775807) (h : ofOk n l = false) (k : Nat) (hk : 64 * l.length + 2 < k) : cantleref10_Of.f k n l = some ([], false) := by
  obtain ⟨k, rfl⟩ : ∃ x, k = x + 1 := ⟨k - 1, by omega⟩
  unfold cantleref10_Of.f
  by_cases h0 : n < 0
  · rw [if_pos h0]; simp only [cantleref10_Of.j0]; rw [if_pos trivial]
  · rw [if_neg h0]
    by_cases h1 : n > 65534
    · rw [if_pos h1]; simp only [cantleref10_Of.j0]; rw [if_pos trivial]
    · rw [if_neg h1]
      obtain ⟨N, rfl⟩ := Int.eq_ofNat_of_zero_le (show 0 ≤ n by omega)
      have e1 : wrap64 (Int.tdiv (wrap64 ((N : Int) + 63)) 64) = (((N + 63) / 64 : Nat) : Int) := by
        rw [Math.w64 (n := (N : Int) + 63) (by omega) (by omega), Int.tdiv_eq_ediv_of_nonneg (by omega), Math.w64 (by omega) (by omega)]; omega
      rw [e1]
      by_cases h2 : l.length = (N + 63) / 64
      · rw [show ((l.length : Int) != (((N + 63) / 64 : Nat) : Int)) = false from by simp; omega]
        have e2 : wrap64 (64 * (l.length : Int)) = ((64 * l.length : Nat) : Int) := by rw [Math.w64 (by omega) (by omega)]; omega
        simp only [cantleref10_Of.j0]
        rw [if_neg (by simp), e2]
        unfold ofOk at h
        rw [decide_eq_true (by omega : (0 : Int) ≤ N), decide_eq_true (by omega : (N : Int) ≤ 65534), decide_eq_true (by omega : (l.length : Int) = ((N : Int) + 63) / 64)] at h
        simp only [Bool.true_and, Bool.or_eq_false_iff, decide_eq_false_iff_not] at h
        obtain ⟨h3, h4⟩ := h
        rw [show ((N : Int) % 64).toNat = N % 64 from by omega] at h4
        obtain ⟨r0, r1⟩ := rd_range hl ((l.length : Int) - 1)
        obtain ⟨X, hX⟩ := Int.eq_ofNat_of_zero_le r0
        rw [hX] at h4 r1
        have h5 : X / 2 ^ (N % 64) ≠ 0 := fun e => h4 (by exact_mod_cast e)
        obtain ⟨t, ht⟩ := Nat.exists_testBit_of_ne_zero h5
        rw [Nat.testBit_div_two_pow] at ht
        have ht64 : t + N % 64 < 64 := by
          rcases Nat.lt_or_ge (t + N % 64) 64 with h | h
          · exact h
          · rw [testBit_high X 64 _ (by omega) h] at ht; cases ht
        have hq : bitL l (64 * (l.length - 1) + (t + N % 64)) = true := by
          unfold bitL
          rw [show (64 * (l.length - 1) + (t + N % 64)) / 64 = l.length - 1 from by omega, show (64 * (l.length - 1) + (t + N % 64)) % 64 = t + N % 64 from by omega,
            show ((l.length - 1 : Nat) : Int) = (l.length : Int) - 1 from by omega, hX, Int.toNat_natCast]
          exact ht
        exact of_no_ev N l hl hlen (by omega) _ (by omega) (by omega) hq (64 * (l.length - 1) + (t + N % 64)) k 0 (by omega) (by omega)
      · rw [show ((l.length : Int) != (((N + 63) / 64 : Nat) : Int)) = true from by simp; omega]
        simp only [cantleref10_Of.j0]; rw [if_pos trivial]
end Go.Proofs.Ytcknljndogbbhaa.Bm
