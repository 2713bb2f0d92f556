/- Bits counted in a word of 64 bits, as the library does it. Conditions: as each lemma says. -/
namespace Go.Proofs.Ytcknljndogbbhaa.Pop
set_option linter.unusedVariables false
theorem and_byte (b Y c D : Nat) (hb : b < 256) (hc : c < 256) : (b + 256 * Y) &&& (c + 256 * D) = (b &&& c) + 256 * (Y &&& D) := by
  have hbc : b &&& c < 2 ^ 8 := Nat.and_lt_two_pow b hc
  apply Nat.eq_of_testBit_eq
  intro j
  have e1 : b + 256 * Y = 2 ^ 8 * Y + b := by omega
  have e2 : c + 256 * D = 2 ^ 8 * D + c := by omega
  have e3 : (b &&& c) + 256 * (Y &&& D) = 2 ^ 8 * (Y &&& D) + (b &&& c) := by omega
  rw [Nat.testBit_and, e1, e2, e3, Nat.testBit_two_pow_mul_add _ hb, Nat.testBit_two_pow_mul_add _ hc, Nat.testBit_two_pow_mul_add _ hbc]
  split <;> simp [Nat.testBit_and]
def B8 (a0 a1 a2 a3 a4 a5 a6 a7 : Nat) : Nat := a0 + 256 * (a1 + 256 * (a2 + 256 * (a3 + 256 * (a4 + 256 * (a5 + 256 * (a6 + 256 * a7))))))
theorem and8 (a0 a1 a2 a3 a4 a5 a6 a7 c : Nat) (h0 : a0 < 256) (h1 : a1 < 256) (h2 : a2 < 256) (h3 : a3 < 256) (h4 : a4 < 256) (h5 : a5 < 256) (h6 : a6 < 256) (h7 : a7 < 256) (hc : c < 256) :
    B8 a0 a1 a2 a3 a4 a5 a6 a7 &&& B8 c c c c c c c c = B8 (a0 &&& c) (a1 &&& c) (a2 &&& c) (a3 &&& c) (a4 &&& c) (a5 &&& c) (a6 &&& c) (a7 &&& c) := by
  unfold B8
  rw [and_byte _ _ _ _ h0 hc, and_byte _ _ _ _ h1 hc, and_byte _ _ _ _ h2 hc, and_byte _ _ _ _ h3 hc, and_byte _ _ _ _ h4 hc, and_byte _ _ _ _ h5 hc, and_byte _ _ _ _ h6 hc]
theorem half8 (a0 a1 a2 a3 a4 a5 a6 a7 : Nat) (h0 : a0 < 256) (h1 : a1 < 256) (h2 : a2 < 256) (h3 : a3 < 256) (h4 : a4 < 256) (h5 : a5 < 256) (h6 : a6 < 256) (h7 : a7 < 256) :
    B8 a0 a1 a2 a3 a4 a5 a6 a7 / 2 = B8 (a0 / 2 + 128 * (a1 % 2)) (a1 / 2 + 128 * (a2 % 2)) (a2 / 2 + 128 * (a3 % 2)) (a3 / 2 + 128 * (a4 % 2)) (a4 / 2 + 128 * (a5 % 2)) (a5 / 2 + 128 * (a6 % 2)) (a6 / 2 + 128 * (a7 % 2)) (a7 / 2 + 128 * (0 % 2)) := by
  unfold B8; omega
theorem quart8 (a0 a1 a2 a3 a4 a5 a6 a7 : Nat) (h0 : a0 < 256) (h1 : a1 < 256) (h2 : a2 < 256) (h3 : a3 < 256) (h4 : a4 < 256) (h5 : a5 < 256) (h6 : a6 < 256) (h7 : a7 < 256) :
    B8 a0 a1 a2 a3 a4 a5 a6 a7 / 4 = B8 (a0 / 4 + 64 * (a1 % 4)) (a1 / 4 + 64 * (a2 % 4)) (a2 / 4 + 64 * (a3 % 4)) (a3 / 4 + 64 * (a4 % 4)) (a4 / 4 + 64 * (a5 % 4)) (a5 / 4 + 64 * (a6 % 4)) (a6 / 4 + 64 * (a7 % 4)) (a7 / 4 + 64 * (0 % 4)) := by
  unfold B8; omega
theorem sixt8 (a0 a1 a2 a3 a4 a5 a6 a7 : Nat) (h0 : a0 < 256) (h1 : a1 < 256) (h2 : a2 < 256) (h3 : a3 < 256) (h4 : a4 < 256) (h5 : a5 < 256) (h6 : a6 < 256) (h7 : a7 < 256) :
    B8 a0 a1 a2 a3 a4 a5 a6 a7 / 16 = B8 (a0 / 16 + 16 * (a1 % 16)) (a1 / 16 + 16 * (a2 % 16)) (a2 / 16 + 16 * (a3 % 16)) (a3 / 16 + 16 * (a4 % 16)) (a4 / 16 + 16 * (a5 % 16)) (a5 / 16 + 16 * (a6 % 16)) (a6 / 16 + 16 * (a7 % 16)) (a7 / 16 + 16 * (0 % 16)) := by
  unfold B8; omega
theorem add8 (a0 a1 a2 a3 a4 a5 a6 a7 b0 b1 b2 b3 b4 b5 b6 b7 : Nat) : B8 a0 a1 a2 a3 a4 a5 a6 a7 + B8 b0 b1 b2 b3 b4 b5 b6 b7 = B8 (a0 + b0) (a1 + b1) (a2 + b2) (a3 + b3) (a4 + b4) (a5 + b5) (a6 + b6) (a7 + b7) := by
  unfold B8; omega
def p1 (b : Nat) : Nat := (b / 2 &&& 85) + (b &&& 85)
def p2 (b : Nat) : Nat := (p1 b / 4 &&& 51) + (p1 b &&& 51)
def p3 (b : Nat) : Nat := (p2 b / 16 + p2 b) &&& 15
def pc (b : Nat) : Nat := (b.testBit 0).toNat + (b.testBit 1).toNat + (b.testBit 2).toNat + (b.testBit 3).toNat + (b.testBit 4).toNat + (b.testBit 5).toNat + (b.testBit 6).toNat + (b.testBit 7).toNat
theorem all256 {p : Nat → Bool} (h : (List.range 256).all p = true) (b : Nat) (hb : b < 256) : p b = true := List.all_eq_true.1 h b (List.mem_range.2 hb)
theorem t1 (b e : Nat) (hb : b < 256) (he : e < 2) : (b / 2 + 128 * e) &&& 85 = b / 2 &&& 85 := by
  have h := all256 (p := fun b => (List.range 2).all fun e => decide ((b / 2 + 128 * e) &&& 85 = b / 2 &&& 85)) (by decide +kernel) b hb
  exact of_decide_eq_true (List.all_eq_true.1 h e (List.mem_range.2 he))
theorem t2 (b e : Nat) (hb : b < 256) (he : e < 4) : (b / 4 + 64 * e) &&& 51 = b / 4 &&& 51 := by
  have h := all256 (p := fun b => (List.range 4).all fun e => decide ((b / 4 + 64 * e) &&& 51 = b / 4 &&& 51)) (by decide +kernel) b hb
  exact of_decide_eq_true (List.all_eq_true.1 h e (List.mem_range.2 he))
theorem b1 (b : Nat) (hb : b < 256) : p1 b < 256 ∧ p2 b < 69 ∧ p2 b / 16 ≤ 4 ∧ p2 b % 16 ≤ 4 ∧ p3 b = pc b ∧ pc b ≤ 8 := by
  have h := all256 (p := fun b => decide (p1 b < 256 ∧ p2 b < 69 ∧ p2 b / 16 ≤ 4 ∧ p2 b % 16 ≤ 4 ∧ p3 b = pc b ∧ pc b ≤ 8)) (by decide +kernel) b hb
  exact of_decide_eq_true h
theorem t3 (v e : Nat) (hv : v < 69) (he : e < 16) : (v / 16 + 16 * e + v) &&& 15 = (v / 16 + v) &&& 15 := by
  have h := all256 (p := fun v => (List.range 16).all fun e => decide ((v / 16 + 16 * e + v) &&& 15 = (v / 16 + v) &&& 15)) (by decide +kernel) v (by omega)
  exact of_decide_eq_true (List.all_eq_true.1 h e (List.mem_range.2 he))
theorem m0 : 6148914691236517205 = B8 85 85 85 85 85 85 85 85 := by decide
theorem m1 : 3689348814741910323 = B8 51 51 51 51 51 51 51 51 := by decide
theorem m2 : 1085102592571150095 = B8 15 15 15 15 15 15 15 15 := by decide
section
variable (a0 a1 a2 a3 a4 a5 a6 a7 : Nat) (h0 : a0 < 256) (h1 : a1 < 256) (h2 : a2 < 256) (h3 : a3 < 256) (h4 : a4 < 256) (h5 : a5 < 256) (h6 : a6 < 256) (h7 : a7 < 256)
include h0 h1 h2 h3 h4 h5 h6 h7
theorem s1 : (B8 a0 a1 a2 a3 a4 a5 a6 a7 / 2 &&& 6148914691236517205) + (B8 a0 a1 a2 a3 a4 a5 a6 a7 &&& 6148914691236517205) = B8 (p1 a0) (p1 a1) (p1 a2) (p1 a3) (p1 a4) (p1 a5) (p1 a6) (p1 a7) := by
  rw [m0, half8 _ _ _ _ _ _ _ _ h0 h1 h2 h3 h4 h5 h6 h7, and8 _ _ _ _ _ _ _ _ 85 (by omega) (by omega) (by omega) (by omega) (by omega) (by omega) (by omega) (by omega) (by omega), and8 _ _ _ _ _ _ _ _ 85 h0 h1 h2 h3 h4 h5 h6 h7 (by omega), add8,
    t1 a0 _ h0 (by omega), t1 a1 _ h1 (by omega), t1 a2 _ h2 (by omega), t1 a3 _ h3 (by omega), t1 a4 _ h4 (by omega), t1 a5 _ h5 (by omega), t1 a6 _ h6 (by omega), t1 a7 _ h7 (by omega)]
  rfl
theorem s2 : (B8 (p1 a0) (p1 a1) (p1 a2) (p1 a3) (p1 a4) (p1 a5) (p1 a6) (p1 a7) / 4 &&& 3689348814741910323) + (B8 (p1 a0) (p1 a1) (p1 a2) (p1 a3) (p1 a4) (p1 a5) (p1 a6) (p1 a7) &&& 3689348814741910323) = B8 (p2 a0) (p2 a1) (p2 a2) (p2 a3) (p2 a4) (p2 a5) (p2 a6) (p2 a7) := by
  have g0 := (b1 a0 h0).1
  have g1 := (b1 a1 h1).1
  have g2 := (b1 a2 h2).1
  have g3 := (b1 a3 h3).1
  have g4 := (b1 a4 h4).1
  have g5 := (b1 a5 h5).1
  have g6 := (b1 a6 h6).1
  have g7 := (b1 a7 h7).1
  rw [m1, quart8 _ _ _ _ _ _ _ _ g0 g1 g2 g3 g4 g5 g6 g7, and8 _ _ _ _ _ _ _ _ 51 (by omega) (by omega) (by omega) (by omega) (by omega) (by omega) (by omega) (by omega) (by omega), and8 _ _ _ _ _ _ _ _ 51 g0 g1 g2 g3 g4 g5 g6 g7 (by omega), add8,
    t2 _ _ g0 (by omega), t2 _ _ g1 (by omega), t2 _ _ g2 (by omega), t2 _ _ g3 (by omega), t2 _ _ g4 (by omega), t2 _ _ g5 (by omega), t2 _ _ g6 (by omega), t2 _ _ g7 (by omega)]
  rfl
theorem s3 : (B8 (p2 a0) (p2 a1) (p2 a2) (p2 a3) (p2 a4) (p2 a5) (p2 a6) (p2 a7) / 16 + B8 (p2 a0) (p2 a1) (p2 a2) (p2 a3) (p2 a4) (p2 a5) (p2 a6) (p2 a7)) &&& 1085102592571150095 = B8 (pc a0) (pc a1) (pc a2) (pc a3) (pc a4) (pc a5) (pc a6) (pc a7) := by
  obtain ⟨_, g0, q0, k0, r0, _⟩ := b1 a0 h0
  obtain ⟨_, g1, q1, k1, r1, _⟩ := b1 a1 h1
  obtain ⟨_, g2, q2, k2, r2, _⟩ := b1 a2 h2
  obtain ⟨_, g3, q3, k3, r3, _⟩ := b1 a3 h3
  obtain ⟨_, g4, q4, k4, r4, _⟩ := b1 a4 h4
  obtain ⟨_, g5, q5, k5, r5, _⟩ := b1 a5 h5
  obtain ⟨_, g6, q6, k6, r6, _⟩ := b1 a6 h6
  obtain ⟨_, g7, q7, k7, r7, _⟩ := b1 a7 h7
  rw [m2, sixt8 _ _ _ _ _ _ _ _ (by omega) (by omega) (by omega) (by omega) (by omega) (by omega) (by omega) (by omega), add8, and8 _ _ _ _ _ _ _ _ 15 (by omega) (by omega) (by omega) (by omega) (by omega) (by omega) (by omega) (by omega) (by omega),
    t3 _ _ g0 (by omega), t3 _ _ g1 (by omega), t3 _ _ g2 (by omega), t3 _ _ g3 (by omega), t3 _ _ g4 (by omega), t3 _ _ g5 (by omega), t3 _ _ g6 (by omega), t3 _ _ g7 (by omega), ← r0, ← r1, ← r2, ← r3, ← r4, ← r5, ← r6, ← r7]
  rfl
end
theorem byte8 (a0 a1 a2 a3 a4 a5 a6 a7 : Nat) (h0 : a0 < 256) : B8 a0 a1 a2 a3 a4 a5 a6 a7 / 256 = B8 a1 a2 a3 a4 a5 a6 a7 0 := by unfold B8; omega
theorem low8 (a0 a1 a2 a3 a4 a5 a6 a7 : Nat) (h0 : a0 < 128) : B8 a0 a1 a2 a3 a4 a5 a6 a7 % 128 = a0 := by unfold B8; omega
theorem lt8 (a0 a1 a2 a3 a4 a5 a6 a7 : Nat) (h0 : a0 ≤ 100) (h1 : a1 ≤ 100) (h2 : a2 ≤ 100) (h3 : a3 ≤ 100) (h4 : a4 ≤ 100) (h5 : a5 ≤ 100) (h6 : a6 ≤ 100) (h7 : a7 ≤ 100) : B8 a0 a1 a2 a3 a4 a5 a6 a7 < 9223372036854775808 := by unfold B8; omega
theorem div2 (x : Nat) : x / 65536 = x / 256 / 256 := by omega
theorem div4 (x : Nat) : x / 4294967296 = x / 256 / 256 / 256 / 256 := by omega
theorem s4 (a0 a1 a2 a3 a4 a5 a6 a7 : Nat) (h0 : a0 ≤ 8) (h1 : a1 ≤ 8) (h2 : a2 ≤ 8) (h3 : a3 ≤ 8) (h4 : a4 ≤ 8) (h5 : a5 ≤ 8) (h6 : a6 ≤ 8) (h7 : a7 ≤ 8) (x4 x5 x6 : Nat)
    (e4 : x4 = B8 a0 a1 a2 a3 a4 a5 a6 a7 / 256 + B8 a0 a1 a2 a3 a4 a5 a6 a7) (e5 : x5 = x4 / 65536 + x4) (e6 : x6 = x5 / 4294967296 + x5) : x6 % 128 = a0 + a1 + a2 + a3 + a4 + a5 + a6 + a7 ∧ x6 < 9223372036854775808 ∧ x5 < 9223372036854775808 ∧ x4 < 9223372036854775808 := by
  rw [byte8 _ _ _ _ _ _ _ _ (by omega), add8] at e4
  rw [div2, e4, byte8 _ _ _ _ _ _ _ _ (by omega), byte8 _ _ _ _ _ _ _ _ (by omega), add8] at e5
  rw [div4, e5, byte8 _ _ _ _ _ _ _ _ (by omega), byte8 _ _ _ _ _ _ _ _ (by omega), byte8 _ _ _ _ _ _ _ _ (by omega), byte8 _ _ _ _ _ _ _ _ (by omega), add8] at e6
  refine ⟨?_, ?_, ?_, ?_⟩
  · rw [e6, low8 _ _ _ _ _ _ _ _ (by omega)]; omega
  · rw [e6]; exact lt8 _ _ _ _ _ _ _ _ (by omega) (by omega) (by omega) (by omega) (by omega) (by omega) (by omega) (by omega)
  · rw [e5]; exact lt8 _ _ _ _ _ _ _ _ (by omega) (by omega) (by omega) (by omega) (by omega) (by omega) (by omega) (by omega)
  · rw [e4]; exact lt8 _ _ _ _ _ _ _ _ (by omega) (by omega) (by omega) (by omega) (by omega) (by omega) (by omega) (by omega)
end Go.Proofs.Ytcknljndogbbhaa.Pop
