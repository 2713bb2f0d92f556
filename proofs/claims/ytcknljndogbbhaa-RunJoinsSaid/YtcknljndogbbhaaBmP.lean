/- A map's words as truths, one a block: what its methods tell, said of the truths. Conditions: as each lemma says. -/
import Derived.Test.YtcknljndogbbhaaBm4
import Derived.Test.YtcknljndogbbhaaPop
namespace Go.Proofs.Ytcknljndogbbhaa.Bm
open Go.RowKit Go.Proofs.Ytcknljndogbbhaa Go.Proofs.Ytcknljndogbbhaa.PAll Go.Proofs.YtcknljndogbbhaaW.PrintWords Go.Proofs.YtcknljndogbbhaaW.PrintLast Go.Proofs.YtcknljndogbbhaaW.PrintMore
set_option linter.unusedVariables false
/-- How many of the first d are true. -/
def sumB (f : Nat → Bool) : Nat → Nat
  | 0 => 0
  | d + 1 => sumB f d + (f d).toNat
theorem sumB_add (f : Nat → Bool) (a d : Nat) : sumB f (a + d) = sumB f a + sumB (fun i => f (a + i)) d := by
  induction d with
  | zero => rfl
  | succ d ih => rw [← Nat.add_assoc]; simp only [sumB]; rw [ih]; omega
theorem sumB_congr {f g : Nat → Bool} : ∀ (d : Nat), (∀ i, i < d → f i = g i) → sumB f d = sumB g d
  | 0, _ => rfl
  | d + 1, h => by simp only [sumB]; rw [sumB_congr d (fun i hi => h i (by omega)), h d (by omega)]
theorem sumB_zero {f : Nat → Bool} : ∀ (d : Nat), (∀ i, i < d → f i = false) → sumB f d = 0
  | 0, _ => rfl
  | d + 1, h => by simp only [sumB]; rw [sumB_zero d (fun i hi => h i (by omega)), h d (by omega)]; rfl
theorem sumB_le (f : Nat → Bool) : ∀ d, sumB f d ≤ d
  | 0 => Nat.le_refl _
  | d + 1 => by have := sumB_le f d; have : (f d).toNat ≤ 1 := Bool.toNat_le _; simp only [sumB]; omega
theorem sumB_count (m : List Bool) : sumB (fun i => m.getD i false) m.length = m.count true := by
  induction m with
  | nil => rfl
  | cons x m ih =>
    rw [List.length_cons, Nat.add_comm, sumB_add]
    have : sumB (fun i => (x :: m).getD (1 + i) false) m.length = sumB (fun i => m.getD i false) m.length := sumB_congr _ (fun i _ => by rw [Nat.add_comm]; rfl)
    rw [this, ih]
    cases x <;> simp [sumB] <;> omega
/-- A word out of truths. -/
def wordN (f : Nat → Bool) : Nat → Nat
  | 0 => 0
  | d + 1 => wordN f d + 2 ^ d * (f d).toNat
theorem wordN_lt (f : Nat → Bool) : ∀ d, wordN f d < 2 ^ d
  | 0 => by simp [wordN]
  | d + 1 => by
    have := wordN_lt f d
    have h2 : (f d).toNat ≤ 1 := Bool.toNat_le _
    have : 2 ^ d * (f d).toNat ≤ 2 ^ d * 1 := Nat.mul_le_mul_left _ h2
    simp only [wordN]; rw [Nat.pow_succ]; omega
theorem testBit_wordN (f : Nat → Bool) : ∀ d k, k < d → (wordN f d).testBit k = f k
  | 0, _, h => absurd h (Nat.not_lt_zero _)
  | d + 1, k, h => by
    simp only [wordN]
    rw [Nat.add_comm, Nat.testBit_two_pow_mul_add _ (wordN_lt f d)]
    by_cases hk : k < d
    · rw [if_pos hk]; exact testBit_wordN f d k hk
    · rw [if_neg hk]
      obtain rfl : k = d := by omega
      rw [Nat.sub_self]
      cases f k <;> rfl
theorem testBit_high (x d k : Nat) (h : x < 2 ^ d) (hk : d ≤ k) : x.testBit k = false := Nat.testBit_lt_two_pow (Nat.lt_of_lt_of_le h (Nat.pow_le_pow_right (by omega) hk))
theorem eq_wordN (f : Nat → Bool) (d x : Nat) (h : x < 2 ^ d) (hb : ∀ k, k < d → x.testBit k = f k) : x = wordN f d := by
  apply Nat.eq_of_testBit_eq
  intro k
  by_cases hk : k < d
  · rw [hb k hk, testBit_wordN f d k hk]
  · rw [testBit_high x d k h (by omega), testBit_high _ d k (wordN_lt f d) (by omega)]
theorem wordN_congr {f g : Nat → Bool} (d : Nat) (h : ∀ k, k < d → f k = g k) : wordN f d = wordN g d :=
  eq_wordN g d _ (wordN_lt f d) (fun k hk => by rw [testBit_wordN f d k hk, h k hk])
/-- The words of truths. -/
def wordAt (m : List Bool) (j : Nat) : Nat := wordN (fun k => m.getD (64 * j + k) false) 64
def wordsOf (m : List Bool) : List Int := (List.range ((m.length + 63) / 64)).map fun j => (wordAt m j : Int)
theorem wordAt_lt (m : List Bool) (j : Nat) : wordAt m j < 2 ^ 64 := wordN_lt _ 64
theorem wordsOf_length (m : List Bool) : (wordsOf m).length = (m.length + 63) / 64 := by simp [wordsOf]
theorem rd_wordsOf (m : List Bool) (j : Nat) (h : j < (m.length + 63) / 64) : rd (wordsOf m) (j : Int) = (wordAt m j : Int) := by
  unfold rd wordsOf
  simp [List.getD_eq_getElem?_getD, h]
/-- One bit asked for. -/
theorem bit_and (X k : Nat) (hX : X < 2 ^ 64) : (Go.bits .and .u64 ((X : Int) / 2 ^ k) 1 == 1) = X.testBit k := by
  have e1 : (X : Int) / 2 ^ k = ((X / 2 ^ k : Nat) : Int) := by simp
  have hlt : X / 2 ^ k < 2 ^ 64 := Nat.lt_of_le_of_lt (Nat.div_le_self _ _) hX
  have e2 : Go.bits .and .u64 ((X / 2 ^ k : Nat) : Int) ((1 : Nat) : Int) = ((X / 2 ^ k &&& 1 : Nat) : Int) := Math.bits_and .u64 rfl _ 1 hlt (by decide)
  have e2' : Go.bits .and .u64 ((X / 2 ^ k : Nat) : Int) 1 = ((X / 2 ^ k &&& 1 : Nat) : Int) := e2
  rw [e1, e2', Nat.and_one_is_mod, Nat.testBit_eq_decide_div_mod_eq]
  rcases Nat.mod_two_eq_zero_or_one (X / 2 ^ k) with h | h <;> rw [h] <;> rfl
/-- Is a block true? -/
def hasAt (m : List Bool) (a : Int) : Bool := decide (0 ≤ a) && (decide (a < m.length) && m.getD a.toNat false)
theorem hasW_of (m : List Bool) (a : Int) : hasW m.length (wordsOf m) a = hasAt m a := by
  unfold hasW hasAt
  by_cases h0 : 0 ≤ a
  · by_cases h1 : a < (m.length : Int)
    · rw [decide_eq_true h0, decide_eq_true h1]
      simp only [Bool.true_and]
      obtain ⟨A, rfl⟩ := Int.eq_ofNat_of_zero_le h0
      have e1 : (A : Int) / 64 = ((A / 64 : Nat) : Int) := by simp
      have e2 : ((A : Int) % 64).toNat = A % 64 := by omega
      rw [e1, e2, rd_wordsOf m _ (by omega), bit_and _ _ (wordAt_lt m _), Int.toNat_natCast]
      unfold wordAt
      rw [testBit_wordN _ _ _ (Nat.mod_lt _ (by omega)), Nat.div_add_mod]
    · rw [decide_eq_false h1]; simp
  · rw [decide_eq_false h0]; simp
theorem flipW_of (m : List Bool) (a : Nat) (h : a < m.length) : flipW (wordsOf m) (a : Int) = wordsOf (m.set a (!m.getD a false)) := by
  have e1 : ((a : Int) / 64).toNat = a / 64 := by omega
  have e2 : ((a : Int) % 64).toNat = a % 64 := by omega
  have e3 : (a : Int) / 64 = ((a / 64 : Nat) : Int) := by simp
  have hj : a / 64 < (m.length + 63) / 64 := by omega
  unfold flipW
  rw [e1, e2, e3, rd_wordsOf m _ hj]
  have hk : a % 64 < 64 := Nat.mod_lt _ (by omega)
  have hp : 2 ^ (a % 64) < 2 ^ 64 := Nat.pow_lt_pow_right (by decide) hk
  have e4 : IntKind.u64.wrap (2 ^ (a % 64)) = ((2 ^ (a % 64) : Nat) : Int) := by
    rw [← Math.pow_cast]; exact Math.wrap_nat .u64 rfl _ hp
  rw [e4, Math.bits_xor .u64 rfl _ _ (wordAt_lt m _) hp]
  apply List.ext_getElem
  · simp [wordsOf]
  · intro j h1 h2
    have hj2 : j < (m.length + 63) / 64 := by simpa [wordsOf] using h1
    rw [List.getElem_set]
    have er : (wordsOf (m.set a (!m.getD a false)))[j] = (wordAt (m.set a (!m.getD a false)) j : Int) := by simp [wordsOf]
    rw [er]
    split
    · rename_i hjj
      subst hjj
      congr 1
      refine eq_wordN _ 64 _ (Nat.xor_lt_two_pow (wordAt_lt m _) hp) (fun k hk2 => ?_)
      rw [Nat.testBit_xor, Nat.testBit_two_pow]
      unfold wordAt
      rw [testBit_wordN _ _ _ hk2]
      by_cases hkk : a % 64 = k
      · rw [decide_eq_true hkk]
        have : 64 * (a / 64) + k = a := by omega
        rw [this]
        simp [List.getD_eq_getElem?_getD, h]
      · rw [decide_eq_false hkk]
        have : a ≠ 64 * (a / 64) + k := by omega
        simp [List.getD_eq_getElem?_getD, List.getElem?_set_ne this]
    · rename_i hjj
      have eo : (wordsOf m)[j]'(by simpa [wordsOf] using hj2) = (wordAt m j : Int) := by simp [wordsOf]
      rw [eo]
      congr 1
      refine wordN_congr 64 (fun k hk2 => ?_)
      have : a ≠ 64 * j + k := by omega
      simp [List.getD_eq_getElem?_getD, List.getElem?_set_ne this]
theorem wordsOf_false (n : Nat) : List.replicate ((n + 63) / 64) (0 : Int) = wordsOf (List.replicate n false) := by
  apply List.ext_getElem
  · simp [wordsOf]
  · intro j h1 h2
    have : wordAt (List.replicate n false) j = 0 := by
      have : (0 : Nat) = wordN (fun k => (List.replicate n false).getD (64 * j + k) false) 64 := eq_wordN _ 64 0 (by decide) (fun k _ => by simp [List.getD_eq_getElem?_getD, List.getElem?_replicate]; split <;> rfl)
      exact this.symm
    simp [wordsOf, this]
/-- One block of a list: turned if it is as was tells. -/
def turnB1 (was : Bool) (s : List Bool × Nat) (a : Int) : List Bool × Nat := if (hasAt s.1 a == was) = true ∧ 0 ≤ a ∧ a < s.1.length then (s.1.set a.toNat (!was), s.2 + 1) else s
def turnB (was : Bool) (m : List Bool) (l : List Int) : List Bool × Nat := l.foldl (turnB1 was) (m, 0)
theorem turnB1_length (was : Bool) (s : List Bool × Nat) (a : Int) : (turnB1 was s a).1.length = s.1.length := by
  unfold turnB1; split
  · simp
  · rfl
theorem turnB_fold (was : Bool) (l : List Int) : ∀ s : List Bool × Nat, l.foldl (turn1 s.1.length was) (wordsOf s.1, s.2) = (wordsOf (l.foldl (turnB1 was) s).1, (l.foldl (turnB1 was) s).2) ∧ (l.foldl (turnB1 was) s).1.length = s.1.length := by
  induction l with
  | nil => intro s; exact ⟨rfl, rfl⟩
  | cons a l ih =>
    intro s
    obtain ⟨i1, i2⟩ := ih (turnB1 was s a)
    rw [turnB1_length] at i1 i2
    rw [List.foldl_cons, List.foldl_cons]
    refine ⟨?_, i2⟩
    rw [← i1]
    congr 1
    unfold turn1 turnB1
    simp only [hasW_of]
    split
    · rename_i hc
      obtain ⟨h1, h2, h3⟩ := hc
      obtain ⟨A, rfl⟩ := Int.eq_ofNat_of_zero_le h2
      have hA : A < s.1.length := by omega
      have hb : s.1.getD A false = was := by
        unfold hasAt at h1
        rw [decide_eq_true h2, decide_eq_true h3, Int.toNat_natCast] at h1
        simpa using h1
      simp only [Int.toNat_natCast]
      rw [flipW_of s.1 A hA, hb]
    · rfl
theorem turnW_of (was : Bool) (m : List Bool) (l : List Int) : turnW m.length was (wordsOf m) l = (wordsOf (turnB was m l).1, (turnB was m l).2) := (turnB_fold was l (m, 0)).1
theorem turnB_length (was : Bool) (m : List Bool) (l : List Int) : (turnB was m l).1.length = m.length := (turnB_fold was l (m, 0)).2
/-! ### how many are true -/
theorem b8_of (X : Nat) (hX : X < 2 ^ 64) : X = Pop.B8 (X % 256) (X / 256 % 256) (X / 65536 % 256) (X / 16777216 % 256) (X / 4294967296 % 256) (X / 1099511627776 % 256) (X / 281474976710656 % 256) (X / 72057594037927936 % 256) := by
  unfold Pop.B8; omega
theorem b8_lt (a0 a1 a2 a3 a4 a5 a6 a7 : Nat) (h0 : a0 < 256) (h1 : a1 < 256) (h2 : a2 < 256) (h3 : a3 < 256) (h4 : a4 < 256) (h5 : a5 < 256) (h6 : a6 < 256) (h7 : a7 < 256) : Pop.B8 a0 a1 a2 a3 a4 a5 a6 a7 < 2 ^ 64 := by
  unfold Pop.B8; omega
theorem band (a c : Nat) (ha : a < 2 ^ 64) (hc : c < 2 ^ 64) : Go.bits .and .u64 (a : Int) (c : Int) = ((a &&& c : Nat) : Int) := Math.bits_and .u64 rfl a c ha hc
theorem uw (n : Nat) (h : n < 2 ^ 64) : IntKind.u64.wrap (n : Int) = n := Math.wrap_nat .u64 rfl n h
theorem i64_and_nat (a b : Nat) (ha : a < 9223372036854775808) (hb : b < 9223372036854775808) : Go.bits .and .i64 (a : Int) (b : Int) = ((a &&& b : Nat) : Int) := by
  have hx : a &&& b < 2 ^ 63 := Nat.and_lt_two_pow _ hb
  show IntKind.i64.wrap ((BitVec.ofInt 64 (a : Int) &&& BitVec.ofInt 64 (b : Int)).toNat : Int) = _
  have e : ∀ n : Nat, n < 9223372036854775808 → (BitVec.ofInt 64 (n : Int)).toNat = n := fun n hn => by
    rw [BitVec.ofInt_natCast, BitVec.toNat_ofNat]; exact Nat.mod_eq_of_lt (by omega)
  rw [BitVec.toNat_and, e a ha, e b hb, IntKind.wrap_i64]
  omega
theorem ones_core (X M0 M1 M2 : Nat) (hX : X < 2 ^ 64) (e0 : M0 = 6148914691236517205) (e1 : M1 = 3689348814741910323) (e2 : M2 = 1085102592571150095) :
    ∀ x1 x2 x3 x4 x5 x6 : Nat, x1 = (X / 2 &&& M0) + (X &&& M0) → x2 = (x1 / 4 &&& M1) + (x1 &&& M1) → x3 = (x2 / 16 + x2) &&& M2 → x4 = x3 / 256 + x3 → x5 = x4 / 65536 + x4 → x6 = x5 / 4294967296 + x5 →
      (x1 < 2 ^ 64 ∧ x2 < 2 ^ 64 ∧ x2 / 16 + x2 < 2 ^ 64 ∧ x3 < 2 ^ 64) ∧ x6 % 128 = Pop.pc (X % 256) + Pop.pc (X / 256 % 256) + Pop.pc (X / 65536 % 256) + Pop.pc (X / 16777216 % 256) + Pop.pc (X / 4294967296 % 256) + Pop.pc (X / 1099511627776 % 256) + Pop.pc (X / 281474976710656 % 256) + Pop.pc (X / 72057594037927936 % 256) ∧ x6 < 9223372036854775808 ∧ x5 < 9223372036854775808 ∧ x4 < 9223372036854775808 := by
  intro x1 x2 x3 x4 x5 x6 g1 g2 g3 g4 g5 g6
  have hb := b8_of X hX
  have l0 : X % 256 < 256 := Nat.mod_lt _ (by omega)
  have l1 : X / 256 % 256 < 256 := Nat.mod_lt _ (by omega)
  have l2 : X / 65536 % 256 < 256 := Nat.mod_lt _ (by omega)
  have l3 : X / 16777216 % 256 < 256 := Nat.mod_lt _ (by omega)
  have l4 : X / 4294967296 % 256 < 256 := Nat.mod_lt _ (by omega)
  have l5 : X / 1099511627776 % 256 < 256 := Nat.mod_lt _ (by omega)
  have l6 : X / 281474976710656 % 256 < 256 := Nat.mod_lt _ (by omega)
  have l7 : X / 72057594037927936 % 256 < 256 := Nat.mod_lt _ (by omega)
  generalize X % 256 = a0 at *
  generalize X / 256 % 256 = a1 at *
  generalize X / 65536 % 256 = a2 at *
  generalize X / 16777216 % 256 = a3 at *
  generalize X / 4294967296 % 256 = a4 at *
  generalize X / 1099511627776 % 256 = a5 at *
  generalize X / 281474976710656 % 256 = a6 at *
  generalize X / 72057594037927936 % 256 = a7 at *
  rw [hb, e0, Pop.s1 a0 a1 a2 a3 a4 a5 a6 a7 l0 l1 l2 l3 l4 l5 l6 l7] at g1
  rw [g1, e1, Pop.s2 a0 a1 a2 a3 a4 a5 a6 a7 l0 l1 l2 l3 l4 l5 l6 l7] at g2
  obtain ⟨u0, v0, q0, k0, r0, p0⟩ := Pop.b1 a0 l0
  obtain ⟨u1, v1, q1, k1, r1, p1⟩ := Pop.b1 a1 l1
  obtain ⟨u2, v2, q2, k2, r2, p2⟩ := Pop.b1 a2 l2
  obtain ⟨u3, v3, q3, k3, r3, p3⟩ := Pop.b1 a3 l3
  obtain ⟨u4, v4, q4, k4, r4, p4⟩ := Pop.b1 a4 l4
  obtain ⟨u5, v5, q5, k5, r5, p5⟩ := Pop.b1 a5 l5
  obtain ⟨u6, v6, q6, k6, r6, p6⟩ := Pop.b1 a6 l6
  obtain ⟨u7, v7, q7, k7, r7, p7⟩ := Pop.b1 a7 l7
  have hx1 : x1 < 2 ^ 64 := by rw [g1]; exact b8_lt _ _ _ _ _ _ _ _ u0 u1 u2 u3 u4 u5 u6 u7
  have hx2 : x2 ≤ Pop.B8 68 68 68 68 68 68 68 68 := by rw [g2]; unfold Pop.B8; omega
  have hx2' : Pop.B8 68 68 68 68 68 68 68 68 = 4919131752989213764 := by decide
  rw [hx2'] at hx2
  rw [g2, e2, Pop.s3 a0 a1 a2 a3 a4 a5 a6 a7 l0 l1 l2 l3 l4 l5 l6 l7] at g3
  have hx3 : x3 < 2 ^ 64 := by rw [g3]; exact b8_lt _ _ _ _ _ _ _ _ (by omega) (by omega) (by omega) (by omega) (by omega) (by omega) (by omega) (by omega)
  rw [g3] at g4
  exact ⟨⟨hx1, by omega, by omega, hx3⟩, Pop.s4 _ _ _ _ _ _ _ _ p0 p1 p2 p3 p4 p5 p6 p7 x4 x5 x6 g4 g5 g6⟩
theorem pc_sum (b : Nat) : Pop.pc b = sumB (fun i => b.testBit i) 8 := by simp [Pop.pc, sumB]
theorem pc_byte (X j : Nat) : Pop.pc (X / 2 ^ (8 * j) % 256) = sumB (fun i => X.testBit (8 * j + i)) 8 := by
  rw [pc_sum]
  refine sumB_congr 8 (fun i hi => ?_)
  rw [show (256 : Nat) = 2 ^ 8 from rfl, Nat.testBit_mod_two_pow, decide_eq_true hi, Bool.true_and, Nat.testBit_div_two_pow, Nat.add_comm]
theorem pc_all (X : Nat) : Pop.pc (X % 256) + Pop.pc (X / 256 % 256) + Pop.pc (X / 65536 % 256) + Pop.pc (X / 16777216 % 256) + Pop.pc (X / 4294967296 % 256) + Pop.pc (X / 1099511627776 % 256) + Pop.pc (X / 281474976710656 % 256) + Pop.pc (X / 72057594037927936 % 256) = sumB (fun i => X.testBit i) 64 := by
  have e : ∀ j, sumB (fun i => X.testBit i) (8 * j + 8) = sumB (fun i => X.testBit i) (8 * j) + Pop.pc (X / 2 ^ (8 * j) % 256) := fun j => by rw [sumB_add, pc_byte]
  have h0 := e 0
  have h1 := e 1
  have h2 := e 2
  have h3 := e 3
  have h4 := e 4
  have h5 := e 5
  have h6 := e 6
  have h7 := e 7
  simp only [Nat.mul_zero, Nat.zero_add, Nat.reduceMul, Nat.reduceAdd, Nat.pow_zero, Nat.div_one, Nat.reducePow] at h0 h1 h2 h3 h4 h5 h6 h7
  have hz : sumB (fun i => X.testBit i) 0 = 0 := rfl
  omega
theorem ones_f (X : Nat) (hX : X < 2 ^ 64) : bits_OnesCount64.f (X : Int) = some ((sumB (fun i => X.testBit i) 64 : Nat) : Int) := by
  obtain ⟨M0, e0⟩ : ∃ M : Nat, M = 6148914691236517205 := ⟨_, rfl⟩
  obtain ⟨M1, e1⟩ : ∃ M : Nat, M = 3689348814741910323 := ⟨_, rfl⟩
  obtain ⟨M2, e2⟩ : ∃ M : Nat, M = 1085102592571150095 := ⟨_, rfl⟩
  have i0 : (6148914691236517205 : Int) = (M0 : Int) := by omega
  have i1 : (3689348814741910323 : Int) = (M1 : Int) := by omega
  have i2 : (1085102592571150095 : Int) = (M2 : Int) := by omega
  have hM0 : M0 < 2 ^ 64 := by omega
  have hM1 : M1 < 2 ^ 64 := by omega
  have hM2 : M2 < 2 ^ 64 := by omega
  obtain ⟨x1, g1⟩ : ∃ x, x = (X / 2 &&& M0) + (X &&& M0) := ⟨_, rfl⟩
  obtain ⟨x2, g2⟩ : ∃ x, x = (x1 / 4 &&& M1) + (x1 &&& M1) := ⟨_, rfl⟩
  obtain ⟨x3, g3⟩ : ∃ x, x = (x2 / 16 + x2) &&& M2 := ⟨_, rfl⟩
  obtain ⟨x4, g4⟩ : ∃ x, x = x3 / 256 + x3 := ⟨_, rfl⟩
  obtain ⟨x5, g5⟩ : ∃ x, x = x4 / 65536 + x4 := ⟨_, rfl⟩
  obtain ⟨x6, g6⟩ : ∃ x, x = x5 / 4294967296 + x5 := ⟨_, rfl⟩
  obtain ⟨⟨b1, b2, b3, b4⟩, hr, c6, c5, c4⟩ := ones_core X M0 M1 M2 hX e0 e1 e2 x1 x2 x3 x4 x5 x6 g1 g2 g3 g4 g5 g6
  rw [pc_all] at hr
  have d2 : ∀ n : Nat, (n : Int) / 2 = ((n / 2 : Nat) : Int) := fun n => by simp
  have d4 : ∀ n : Nat, (n : Int) / 4 = ((n / 4 : Nat) : Int) := fun n => by simp
  have d16 : ∀ n : Nat, (n : Int) / 16 = ((n / 16 : Nat) : Int) := fun n => by simp
  have d8 : ∀ n : Nat, (n : Int) / 256 = ((n / 256 : Nat) : Int) := fun n => by simp
  have d65 : ∀ n : Nat, (n : Int) / 65536 = ((n / 65536 : Nat) : Int) := fun n => by simp
  have d32 : ∀ n : Nat, (n : Int) / 4294967296 = ((n / 4294967296 : Nat) : Int) := fun n => by simp
  have q1 : IntKind.u64.wrap ((Go.bits .and .u64 ((X : Int) / 2) 6148914691236517205) + (Go.bits .and .u64 (X : Int) 6148914691236517205)) = (x1 : Int) := by
    rw [i0, d2, band _ _ (by omega) hM0, band _ _ hX hM0, ← Int.natCast_add, ← g1]; exact uw x1 b1
  have q2 : IntKind.u64.wrap ((Go.bits .and .u64 ((x1 : Int) / 4) 3689348814741910323) + (Go.bits .and .u64 (x1 : Int) 3689348814741910323)) = (x2 : Int) := by
    rw [i1, d4, band _ _ (by omega) hM1, band _ _ b1 hM1, ← Int.natCast_add, ← g2]; exact uw x2 b2
  have q3 : Go.bits .and .u64 (IntKind.u64.wrap ((x2 : Int) / 16 + (x2 : Int))) 1085102592571150095 = (x3 : Int) := by
    rw [i2, d16, ← Int.natCast_add, uw _ b3, band _ _ b3 hM2, ← g3]
  have q4 : IntKind.u64.wrap ((x3 : Int) / 256 + (x3 : Int)) = (x4 : Int) := by rw [d8, ← Int.natCast_add, ← g4]; exact uw x4 (by omega)
  have q4' : IntKind.u64.wrap ((x3 : Int) + (x3 : Int) / 256) = (x4 : Int) := by rw [Int.add_comm]; exact q4
  have q5 : IntKind.u64.wrap ((x4 : Int) / 65536 + (x4 : Int)) = (x5 : Int) := by rw [d65, ← Int.natCast_add, ← g5]; exact uw x5 (by omega)
  have q5' : IntKind.u64.wrap ((x4 : Int) + (x4 : Int) / 65536) = (x5 : Int) := by rw [Int.add_comm]; exact q5
  have q6 : IntKind.u64.wrap ((x5 : Int) / 4294967296 + (x5 : Int)) = (x6 : Int) := by rw [d32, ← Int.natCast_add, ← g6]; exact uw x6 (by omega)
  have q6' : IntKind.u64.wrap ((x5 : Int) + (x5 : Int) / 4294967296) = (x6 : Int) := by rw [Int.add_comm]; exact q6
  have q7 : wrap64 (x6 : Int) = (x6 : Int) := Math.w64 (by omega) (by omega)
  have q8 : Go.bits .and .i64 (x6 : Int) 127 = ((sumB (fun i => X.testBit i) 64 : Nat) : Int) := by
    have := i64_and_nat x6 127 c6 (by omega)
    rw [show (127 : Nat) = 2 ^ 7 - 1 from rfl, Nat.and_two_pow_sub_one_eq_mod] at this
    rw [← hr]; exact this
  unfold bits_OnesCount64.f
  simp only [q1, q2, q3, q4', q5', q6', q7, q8]
theorem cntW_map (m : List Bool) : ∀ d, cntW ((List.range d).map fun j => (wordAt m j : Int)) = ((sumB (fun i => m.getD i false) (64 * d) : Nat) : Int)
  | 0 => rfl
  | d + 1 => by
    rw [List.range_succ, List.map_append, List.map_cons, List.map_nil, cntW_snoc, cntW_map m d, ones_f _ (wordAt_lt m d), Option.getD_some, Nat.mul_succ, sumB_add, Int.natCast_add]
    congr 2
    refine sumB_congr 64 (fun i hi => ?_)
    unfold wordAt
    exact testBit_wordN _ 64 i hi
theorem cntW_of (m : List Bool) : cntW (wordsOf m) = (m.count true : Int) := by
  unfold wordsOf
  rw [cntW_map]
  obtain ⟨d, hd⟩ : ∃ d, 64 * ((m.length + 63) / 64) = m.length + d := ⟨64 * ((m.length + 63) / 64) - m.length, by omega⟩
  rw [hd, sumB_add, sumB_count, sumB_zero d (fun i _ => by simp [List.getD_eq_getElem?_getD])]
  simp
theorem ones_words (m : List Bool) : ∀ x ∈ wordsOf m, 0 ≤ (bits_OnesCount64.f x).getD 0 ∧ (bits_OnesCount64.f x).getD 0 ≤ 64 := by
  intro x hx
  simp only [wordsOf, List.mem_map, List.mem_range] at hx
  obtain ⟨j, _, rfl⟩ := hx
  rw [ones_f _ (wordAt_lt m j), Option.getD_some]
  have := sumB_le (fun i => (wordAt m j).testBit i) 64
  omega
/-! ### the next one -/
def nextB (m : List Bool) (used : Bool) : Nat → Nat → Int
  | 0, _ => -1
  | d + 1, k => if (hasAt m (k : Int) == used) = true then (k : Int) else nextB m used d (k + 1)
theorem nextW_of (m : List Bool) (used : Bool) : ∀ d k, nextW m.length (wordsOf m) used d k = nextB m used d k
  | 0, _ => rfl
  | d + 1, k => by simp only [nextW, nextB, hasW_of, nextW_of m used d (k + 1)]
theorem hasAt_nat (m : List Bool) (k : Nat) : hasAt m (k : Int) = m.getD k false := by
  unfold hasAt
  rw [decide_eq_true (Int.natCast_nonneg k), Int.toNat_natCast]
  by_cases h : (k : Int) < m.length
  · rw [decide_eq_true h]; simp
  · rw [decide_eq_false h, List.getD_eq_getElem?_getD, List.getElem?_eq_none (by omega)]; rfl
theorem nextB_spec (m : List Bool) (used : Bool) : ∀ d k, k + d = m.length →
    (nextB m used d k = -1 ∧ ∀ i, k ≤ i → i < m.length → (m.getD i false == used) = false) ∨
    ∃ q, k ≤ q ∧ q < m.length ∧ nextB m used d k = (q : Int) ∧ (m.getD q false == used) = true ∧ ∀ i, k ≤ i → i < q → (m.getD i false == used) = false
  | 0, k, h => .inl ⟨rfl, fun i h1 h2 => by omega⟩
  | d + 1, k, h => by
    simp only [nextB, hasAt_nat]
    by_cases hc : (m.getD k false == used) = true
    · rw [if_pos hc]
      exact .inr ⟨k, Nat.le_refl _, by omega, rfl, hc, fun i h1 h2 => by omega⟩
    · rw [if_neg hc]
      have hc' : (m.getD k false == used) = false := by simpa using hc
      rcases nextB_spec m used d (k + 1) (by omega) with ⟨h1, h2⟩ | ⟨q, h1, h2, h3, h4, h5⟩
      · exact .inl ⟨h1, fun i hi hl => by
          rcases Nat.eq_or_lt_of_le hi with e | e
          · subst e; exact hc'
          · exact h2 i e hl⟩
      · exact .inr ⟨q, by omega, h2, h3, h4, fun i hi hl => by
          rcases Nat.eq_or_lt_of_le hi with e | e
          · subst e; exact hc'
          · exact h5 i e hl⟩
def isU (m : List Bool) (used : Bool) (i : Nat) : Bool := m.getD i false == used
theorem sum_flat {f : Nat → Bool} (p q : Nat) (h : p ≤ q) (hz : ∀ i, p ≤ i → i < q → f i = false) : sumB f q = sumB f p := by
  obtain ⟨d, rfl⟩ : ∃ d, q = p + d := ⟨q - p, by omega⟩
  rw [sumB_add, sumB_zero d (fun i hi => hz (p + i) (by omega) (by omega))]; rfl
theorem sum_not (f : Nat → Bool) : ∀ d, sumB f d + sumB (fun i => !f i) d = d
  | 0 => rfl
  | d + 1 => by
    have := sum_not f d
    simp only [sumB]
    cases f d <;> simp <;> omega
theorem sum_true (m : List Bool) : sumB (isU m true) m.length = m.count true := by
  rw [← sumB_count]
  exact sumB_congr _ (fun i _ => by unfold isU; cases m.getD i false <;> rfl)
theorem sum_false (m : List Bool) : sumB (isU m false) m.length = m.length - m.count true := by
  have h := sum_not (fun i => m.getD i false) m.length
  rw [sumB_count] at h
  have e : sumB (isU m false) m.length = sumB (fun i => !m.getD i false) m.length := sumB_congr _ (fun i _ => by unfold isU; cases m.getD i false <;> rfl)
  omega
/-- A map of truths in memory. -/
def Holds (W : World) (g b : Nat) (m : List Bool) : Prop := ∃ c cs, Is W g b m.length (wordsOf m) c cs
theorem words_enough (m : List Bool) : m.length ≤ 64 * (wordsOf m).length := by rw [wordsOf_length]; omega
theorem words_few (m : List Bool) (h : m.length ≤ 65534) : (wordsOf m).length ≤ 1024 := by rw [wordsOf_length]; omega
theorem Holds.below {W W' : World} {g b : Nat} {m : List Bool} (h : Holds W g b m) (hb : Below W.heap.size W W') : Holds W' g b m := let ⟨c, cs, hI⟩ := h; ⟨c, cs, hI.below hb⟩
theorem Holds.drewN {W : World} {g b : Nat} {m : List Bool} (h : Holds W g b m) (k : Nat) : Holds (W.drewN k) g b m := let ⟨c, cs, hI⟩ := h; ⟨c, cs, hI.keep rfl rfl⟩
theorem Holds.alloc {W : World} {g b : Nat} {m : List Bool} (h : Holds W g b m) (o : Obj) : Holds (W.alloc o) g b m := h.below (below_alloc (Below.refl _ _) o)
theorem Holds.far {W W' : World} {g b : Nat} {m : List Bool} (h : Holds W g b m) {k : Nat} (hg : W.grownBy W' (some k)) (h1 : g ≠ k) (h2 : b ≠ k) : Holds W' g b m := by
  obtain ⟨c, cs, hI⟩ := h
  exact ⟨c, cs, hI.keep (hg.block g (blk_lt hI.st) (by simp [h1])) (hg.block b (blk_lt hI.bl) (by simp [h2]))⟩
theorem Holds.lt {W : World} {g b : Nat} {m : List Bool} (h : Holds W g b m) : g < W.heap.size ∧ b < W.heap.size ∧ g ≠ b := let ⟨_, _, hI⟩ := h; ⟨blk_lt hI.st, blk_lt hI.bl, hI.ne⟩
/-! ### the methods, said of truths -/
theorem hasH {W : World} {g b : Nat} {m : List Bool} (h : Holds W g b m) (hn : m.length ≤ 65534) (a : Int) (h0 : -9223372036854775808 ≤ a) (h1 : a ≤ 9223372036854775807) :
    Calls Try.prog 16 #[.pointer (some ⟨g, 0, none⟩), .int .i64 a] W fun e w' => e = .returned (.bool (hasAt m a)) ∧ W = w' := by
  obtain ⟨c, cs, hI⟩ := h
  rw [← hasW_of]
  exact has_calls hI (by omega) (by have := words_enough m; omega) a h0 h1
theorem lenH {W : World} {g b : Nat} {m : List Bool} (h : Holds W g b m) : Calls Try.prog 32 #[.pointer (some ⟨g, 0, none⟩)] W fun e w' => e = .returned (.int .i64 m.length) ∧ W = w' := by
  obtain ⟨c, cs, hI⟩ := h
  exact len_calls hI
theorem countH {W : World} {g b : Nat} {m : List Bool} (h : Holds W g b m) (hn : m.length ≤ 65534) : Calls Try.prog 17 #[.pointer (some ⟨g, 0, none⟩)] W fun e w' => e = .returned (.int .i64 (m.count true : Nat)) ∧ W = w' := by
  obtain ⟨c, cs, hI⟩ := h
  rw [← cntW_of]
  exact count_calls hI (by have := words_few m hn; omega) (ones_words m)
theorem freeH {W : World} {g b : Nat} {m : List Bool} (h : Holds W g b m) (hn : m.length ≤ 65534) : Calls Try.prog 18 #[.pointer (some ⟨g, 0, none⟩)] W fun e w' => e = .returned (.int .i64 (m.length - (m.count true : Nat))) ∧ ∃ k, w' = W.drewN k := by
  obtain ⟨c, cs, hI⟩ := h
  rw [← cntW_of]
  exact free_calls hI hn (by have := words_few m hn; omega) (ones_words m) (by rw [cntW_of]; omega) (by rw [cntW_of]; have := List.count_le_length (a := true) (l := m); omega)
theorem nextH {W : World} {g b : Nat} {m : List Bool} (h : Holds W g b m) (hn : m.length ≤ 65534) (a : Int) (used : Bool) (h0 : -9223372036854775808 ≤ a) (h1 : a ≤ 9223372036854775807) :
    Calls Try.prog 15 #[.pointer (some ⟨g, 0, none⟩), .int .i64 a, .bool used] W fun e w' => e = .returned (.int .i64 (nextB m used (m.length - a.toNat) a.toNat)) ∧ W = w' := by
  obtain ⟨c, cs, hI⟩ := h
  rw [← nextW_of]
  exact next_calls hI hn (words_enough m) a used h0 h1
theorem newH (W : World) (a : Int) : Calls Try.prog 13 #[.int .i64 a] W fun e w' => ∃ g b, e = .returned (.pointer (some ⟨g, 0, none⟩)) ∧ Holds w' g b (List.replicate (clampN a) false) ∧ W.heap.size ≤ g ∧ W.heap.size ≤ b ∧ Below W.heap.size W w' := by
  refine (new_calls W a).mono ?_
  rintro e w' ⟨g, b, c, cs, he, hI, h1, h2, h3⟩
  refine ⟨g, b, he, ⟨c, cs, ?_⟩, h1, h2, h3⟩
  rw [← wordsOf_false, List.length_replicate]
  exact hI
theorem turnH_aux {was : Bool} {m : List Bool} {l : List Int} {w' : World} {g b c : Nat} (h : ∃ cs', Is w' g b m.length (turnW m.length was (wordsOf m) l).1 c cs') : Holds w' g b (turnB was m l).1 := by
  obtain ⟨cs', hI⟩ := h
  rw [turnW_of] at hI
  exact ⟨c, cs', by rw [turnB_length]; exact hI⟩
theorem putH {W : World} {g b : Nat} {m : List Bool} (h : Holds W g b m) (hn : m.length ≤ 65534) (A : Option Addr) (cl : Nat) (l : List Int) (hC : Kd.C (Kd.int .i64) W A l.length l) (hb : ∀ ad, A = some ad → 0 < l.length → ad.block ≠ b) (hlc : l.length ≤ 1000000) (hr : ∀ x ∈ l, -9223372036854775808 ≤ x ∧ x ≤ 9223372036854775807) :
    Calls Try.prog 14 #[.pointer (some ⟨g, 0, none⟩), .slice A l.length cl] W fun e w' => e = .returned (.int .i64 ((turnB false m l).2 : Nat)) ∧ Holds w' g b (turnB false m l).1 ∧ W.grownBy w' (some b) ∧ w'.heap.size = W.heap.size := by
  obtain ⟨c, cs, hI⟩ := h
  refine (put_calls hI hn (words_enough m) A cl l hC hb hlc hr).mono ?_
  rintro e w' ⟨he, h1, h2, h3⟩
  exact ⟨by rw [he, turnW_of], turnH_aux h1, h2, h3⟩
theorem dropH {W : World} {g b : Nat} {m : List Bool} (h : Holds W g b m) (hn : m.length ≤ 65534) (A : Option Addr) (cl : Nat) (l : List Int) (hC : Kd.C (Kd.int .i64) W A l.length l) (hb : ∀ ad, A = some ad → 0 < l.length → ad.block ≠ b) (hlc : l.length ≤ 1000000) (hr : ∀ x ∈ l, -9223372036854775808 ≤ x ∧ x ≤ 9223372036854775807) :
    Calls Try.prog 27 #[.pointer (some ⟨g, 0, none⟩), .slice A l.length cl] W fun e w' => e = .returned (.int .i64 ((turnB true m l).2 : Nat)) ∧ Holds w' g b (turnB true m l).1 ∧ W.grownBy w' (some b) ∧ w'.heap.size = W.heap.size := by
  obtain ⟨c, cs, hI⟩ := h
  refine (drop_calls hI hn (words_enough m) A cl l hC hb hlc hr).mono ?_
  rintro e w' ⟨he, h1, h2, h3⟩
  exact ⟨by rw [he, turnW_of], turnH_aux h1, h2, h3⟩
theorem wordsH {W : World} {g b : Nat} {m : List Bool} (h : Holds W g b m) (hn : m.length ≤ 65534) : Calls Try.prog 23 #[.pointer (some ⟨g, 0, none⟩)] W fun e w' => ∃ b' c' cs', e = .returned (.slice (some ⟨b', 0, none⟩) (wordsOf m).length c') ∧ W.heap.size ≤ b' ∧ RowAt w' b' (wordsOf m) c' cs' ∧ Below W.heap.size W w' := by
  obtain ⟨c, cs, hI⟩ := h
  exact words_calls hI (by have := words_few m hn; omega)
theorem copyH {W : World} {g b : Nat} {m : List Bool} (h : Holds W g b m) (hn : m.length ≤ 65534) : Calls Try.prog 30 #[.pointer (some ⟨g, 0, none⟩)] W fun e w' => ∃ g' b', e = .returned (.pointer (some ⟨g', 0, none⟩)) ∧ Holds w' g' b' m ∧ W.heap.size ≤ g' ∧ W.heap.size ≤ b' ∧ Below W.heap.size W w' := by
  obtain ⟨c, cs, hI⟩ := h
  refine (copy_calls hI (by have := words_few m hn; omega)).mono ?_
  rintro e w' ⟨g', b', c', cs', he, h1, h2, h3, h4⟩
  exact ⟨g', b', he, ⟨c', cs', h1⟩, h2, h3, h4⟩
end Go.Proofs.Ytcknljndogbbhaa.Bm
