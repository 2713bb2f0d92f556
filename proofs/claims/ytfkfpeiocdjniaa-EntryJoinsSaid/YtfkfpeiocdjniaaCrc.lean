/- Plain arithmetic of both sums, bit by bit: bytes at once and bit by bit come to the same; neighbouring bits that are turned are told. Conditions: as each lemma says. -/
import Derived.Test.YtfkfpeiocdjniaaMath
namespace Go.Proofs.Ytfkfpeiocdjniaa.Crc

def P32 : Nat := 3988292384
def P16 : Nat := 4129
def z32 (s : Nat) : Nat := if s % 2 = 1 then s / 2 ^^^ P32 else s / 2
def b32 (s b : Nat) : Nat := if b = s % 2 then s / 2 else s / 2 ^^^ P32
def z16 (s : Nat) : Nat := if s / 32768 = 0 then s * 2 % 65536 else s * 2 % 65536 ^^^ P16
def b16 (s b : Nat) : Nat := if b = s / 32768 then s * 2 % 65536 else s * 2 % 65536 ^^^ P16
def lo (x : Nat) : List Nat := [x % 2, x / 2 % 2, x / 4 % 2, x / 8 % 2, x / 16 % 2, x / 32 % 2, x / 64 % 2, x / 128 % 2]
def hi (x : Nat) : List Nat := [x / 128 % 2, x / 64 % 2, x / 32 % 2, x / 16 % 2, x / 8 % 2, x / 4 % 2, x / 2 % 2, x % 2]
def los (l : List Nat) : List Nat := l.flatMap lo
def his (l : List Nat) : List Nat := l.flatMap hi
def c32 (s : Nat) (l : List Nat) : Nat := (los l).foldl b32 s
def c16 (s : Nat) (l : List Nat) : Nat := (his l).foldl b16 s
theorem c32_nil (s : Nat) : c32 s [] = s := rfl
theorem c16_nil (s : Nat) : c16 s [] = s := rfl
theorem c32_cons (s x : Nat) (l : List Nat) : c32 s (x :: l) = c32 ((lo x).foldl b32 s) l := by simp [c32, los]
theorem c16_cons (s x : Nat) (l : List Nat) : c16 s (x :: l) = c16 ((hi x).foldl b16 s) l := by simp [c16, his]
theorem c32_append (s : Nat) (l m : List Nat) : c32 s (l ++ m) = c32 (c32 s l) m := by simp [c32, los]
theorem c16_append (s : Nat) (l m : List Nat) : c16 s (l ++ m) = c16 (c16 s l) m := by simp [c16, his]

theorem P32_lt : P32 < 2 ^ 32 := by decide
theorem P16_lt : P16 < 2 ^ 16 := by decide
theorem z32_lt {s : Nat} (h : s < 2 ^ 32) : z32 s < 2 ^ 32 := by
  unfold z32; split
  · exact Nat.xor_lt_two_pow (by omega) P32_lt
  · omega
theorem b32_lt {s b : Nat} (h : s < 2 ^ 32) : b32 s b < 2 ^ 32 := by
  unfold b32; split
  · omega
  · exact Nat.xor_lt_two_pow (by omega) P32_lt
theorem b16_lt (s b : Nat) : b16 s b < 2 ^ 16 := by
  unfold b16; split
  · omega
  · exact Nat.xor_lt_two_pow (by omega) P16_lt
theorem z16_lt (s : Nat) : z16 s < 2 ^ 16 := by
  unfold z16; split
  · omega
  · exact Nat.xor_lt_two_pow (by omega) P16_lt
theorem f32_lt : ∀ (l : List Nat) {s : Nat}, s < 2 ^ 32 → l.foldl b32 s < 2 ^ 32
  | [], _, h => h
  | _ :: l, _, h => f32_lt l (b32_lt h)
theorem f16_lt : ∀ (l : List Nat) {s : Nat}, s < 2 ^ 16 → l.foldl b16 s < 2 ^ 16
  | [], _, h => h
  | b :: l, s, _ => f16_lt l (b16_lt s b)
theorem c32_lt {s : Nat} (l : List Nat) (h : s < 2 ^ 32) : c32 s l < 2 ^ 32 := f32_lt _ h
theorem c16_lt {s : Nat} (l : List Nat) (h : s < 2 ^ 16) : c16 s l < 2 ^ 16 := f16_lt _ h

theorem xor_mod2 (a b : Nat) : (a ^^^ b) % 2 = (a % 2 + b % 2) % 2 := by
  have h := Nat.xor_mod_two_pow (a := a) (b := b) (n := 1)
  simp only [Nat.pow_one] at h
  rw [h]
  rcases Nat.mod_two_eq_zero_or_one a with ha | ha <;> rcases Nat.mod_two_eq_zero_or_one b with hb | hb <;> rw [ha, hb] <;> decide
theorem xor_swap (a b c : Nat) : a ^^^ b ^^^ c = a ^^^ c ^^^ b := by rw [Nat.xor_assoc, Nat.xor_comm b c, ← Nat.xor_assoc]
/-- One step over a register that bits not yet seen stand in. -/
theorem z32_step (r y : Nat) : z32 (r ^^^ y) = b32 r (y % 2) ^^^ (y / 2) := by
  unfold z32 b32
  have h := xor_mod2 r y
  have hr := Nat.mod_two_eq_zero_or_one r
  have hy := Nat.mod_two_eq_zero_or_one y
  rw [Nat.xor_div_two]
  by_cases e : y % 2 = r % 2
  · rw [if_pos e, if_neg (by omega)]
  · rw [if_neg e, if_pos (by omega), xor_swap]
theorem div_xor (a b n : Nat) : (a ^^^ b) / 2 ^ n = a / 2 ^ n ^^^ b / 2 ^ n := Nat.xor_div_two_pow
theorem bit_cases {a : Nat} (h : a < 2) : a = 0 ∨ a = 1 := by omega
theorem z16_step (r y : Nat) (hr : r < 65536) (hy : y < 65536) : z16 (r ^^^ y) = b16 r (y / 32768) ^^^ (y * 2 % 65536) := by
  unfold z16 b16
  have hd : (r ^^^ y) / 32768 = r / 32768 ^^^ y / 32768 := div_xor r y 15
  have hm : (r ^^^ y) * 2 % 65536 = r * 2 % 65536 ^^^ y * 2 % 65536 := by
    have e1 : (r ^^^ y) * 2 = r * 2 ^^^ y * 2 := by
      apply Nat.eq_of_testBit_eq
      intro i
      have q := fun a => Nat.testBit_mul_two_pow a i 1
      simp only [Nat.pow_one] at q
      rw [q, Nat.testBit_xor, Nat.testBit_xor, q, q]
      cases decide (1 ≤ i) <;> simp
    rw [e1]; exact Nat.xor_mod_two_pow (n := 16)
  rw [hd, hm]
  rcases bit_cases (a := r / 32768) (by omega) with h1 | h1 <;> rcases bit_cases (a := y / 32768) (by omega) with h2 | h2 <;> rw [h1, h2] <;> simp [xor_swap]
theorem z32_zero_step (r : Nat) : z32 r = b32 r 0 := by have := z32_step r 0; simpa using this

/-- A whole byte at once. -/
def by32 (s x : Nat) : Nat := z32 (z32 (z32 (z32 (z32 (z32 (z32 (z32 (s ^^^ x))))))))
theorem by32_bits (s x : Nat) (hx : x < 256) : by32 s x = (lo x).foldl b32 s := by
  unfold by32 lo
  simp only [List.foldl_cons, List.foldl_nil]
  rw [z32_step, z32_step, z32_step, z32_step, z32_step, z32_step, z32_step, z32_step]
  simp only [Nat.div_div_eq_div_mul]
  have : x / (2 * 2 * 2 * 2 * 2 * 2 * 2 * 2) = 0 := Nat.div_eq_of_lt (by omega)
  rw [this, Nat.xor_zero]
def by16 (s x : Nat) : Nat := z16 (z16 (z16 (z16 (z16 (z16 (z16 (z16 (s ^^^ (x * 256)))))))))
theorem by16_bits (s x : Nat) (hs : s < 65536) (hx : x < 256) : by16 s x = (hi x).foldl b16 s := by
  unfold by16 hi
  simp only [List.foldl_cons, List.foldl_nil]
  have hb : ∀ s b, b16 s b < 65536 := fun s b => b16_lt s b
  rw [z16_step _ _ hs (by omega), z16_step _ _ (hb _ _) (by omega), z16_step _ _ (hb _ _) (by omega), z16_step _ _ (hb _ _) (by omega), z16_step _ _ (hb _ _) (by omega), z16_step _ _ (hb _ _) (by omega), z16_step _ _ (hb _ _) (by omega), z16_step _ _ (hb _ _) (by omega)]
  have e0 : x * 256 / 32768 = x / 128 % 2 := by omega
  have e1 : x * 256 * 2 % 65536 / 32768 = x / 64 % 2 := by omega
  have e2 : x * 256 * 2 % 65536 * 2 % 65536 / 32768 = x / 32 % 2 := by omega
  have e3 : x * 256 * 2 % 65536 * 2 % 65536 * 2 % 65536 / 32768 = x / 16 % 2 := by omega
  have e4 : x * 256 * 2 % 65536 * 2 % 65536 * 2 % 65536 * 2 % 65536 / 32768 = x / 8 % 2 := by omega
  have e5 : x * 256 * 2 % 65536 * 2 % 65536 * 2 % 65536 * 2 % 65536 * 2 % 65536 / 32768 = x / 4 % 2 := by omega
  have e6 : x * 256 * 2 % 65536 * 2 % 65536 * 2 % 65536 * 2 % 65536 * 2 % 65536 * 2 % 65536 / 32768 = x / 2 % 2 := by omega
  have e7 : x * 256 * 2 % 65536 * 2 % 65536 * 2 % 65536 * 2 % 65536 * 2 % 65536 * 2 % 65536 * 2 % 65536 / 32768 = x % 2 := by omega
  have e8 : x * 256 * 2 % 65536 * 2 % 65536 * 2 % 65536 * 2 % 65536 * 2 % 65536 * 2 % 65536 * 2 % 65536 * 2 % 65536 = 0 := by omega
  rw [e0, e1, e2, e3, e4, e5, e6, e7, e8, Nat.xor_zero]

/-! ### Turned bits -/
theorem top_diff {a b k : Nat} (hk : k ≤ 31) (ha : a < 2 ^ 31) (hb : b < 2 ^ 31) (h : a / 2 ^ k = (b ^^^ P32) / 2 ^ k) : False := by
  have h1 : (a / 2 ^ k).testBit (31 - k) = ((b ^^^ P32) / 2 ^ k).testBit (31 - k) := by rw [h]
  rw [Nat.testBit_div_two_pow, Nat.testBit_div_two_pow, Nat.sub_add_cancel hk, Nat.testBit_xor, Nat.testBit_lt_two_pow ha, Nat.testBit_lt_two_pow hb] at h1
  have h2 : P32.testBit 31 = true := by decide
  rw [h2] at h1; cases h1
theorem xor_cancel {a b c : Nat} (h : a ^^^ c = b ^^^ c) : a = b := by
  have := congrArg (· ^^^ c) h
  simpa [Nat.xor_assoc] using this
/-- A step back: two registers alike from bit k on were alike from bit k + 1 on. -/
theorem back32 {r q x y k : Nat} (hk : k ≤ 31) (hr : r < 2 ^ 32) (hq : q < 2 ^ 32) (h : b32 r x / 2 ^ k = b32 q y / 2 ^ k) : r / 2 ^ (k + 1) = q / 2 ^ (k + 1) ∧ (x = r % 2 ↔ y = q % 2) := by
  have e : ∀ a : Nat, a / 2 ^ (k + 1) = a / 2 / 2 ^ k := fun a => by rw [Nat.pow_succ, Nat.mul_comm, Nat.div_div_eq_div_mul]
  rw [e, e]
  unfold b32 at h
  by_cases hx : x = r % 2 <;> by_cases hy : y = q % 2
  · rw [if_pos hx, if_pos hy] at h; exact ⟨h, by simp [hx, hy]⟩
  · rw [if_pos hx, if_neg hy] at h; exact (top_diff hk (by omega) (by omega) h).elim
  · rw [if_neg hx, if_pos hy] at h; exact (top_diff hk (by omega) (by omega) h.symm).elim
  · rw [if_neg hx, if_neg hy, div_xor, div_xor] at h; exact ⟨xor_cancel h, by simp [hx, hy]⟩
theorem backs32 : ∀ (u v : List Nat) (k : Nat) {r q : Nat}, u.length = v.length → u.length + k ≤ 32 → r < 2 ^ 32 → q < 2 ^ 32 → u.foldl b32 r / 2 ^ k = v.foldl b32 q / 2 ^ k → r / 2 ^ (u.length + k) = q / 2 ^ (u.length + k)
  | [], [], k, r, q, _, _, _, _, h => by simpa using h
  | x :: u, y :: v, k, r, q, hl, hb, hr, hq, h => by
    simp only [List.length_cons] at hl hb ⊢
    have h1 := backs32 u v k (by omega) (by omega) (b32_lt hr) (b32_lt hq) h
    have h2 := (back32 (k := u.length + k) (by omega) hr hq h1).1
    rw [show u.length + 1 + k = u.length + k + 1 from by omega]; exact h2
def Bits (l : List Nat) : Prop := ∀ b ∈ l, b < 2
/-- With the same bits behind them, different registers stay different. -/
theorem inj32 : ∀ (u : List Nat) {r q : Nat}, Bits u → r < 2 ^ 32 → q < 2 ^ 32 → u.foldl b32 r = u.foldl b32 q → r = q
  | [], _, _, _, _, _, h => h
  | x :: u, r, q, hu, hr, hq, h => by
    have h1 := inj32 u (fun b hb => hu b (List.mem_cons_of_mem _ hb)) (b32_lt hr) (b32_lt hq) h
    obtain ⟨h2, h3⟩ := back32 (k := 0) (by omega) hr hq (by rw [h1])
    have hx := hu x List.mem_cons_self
    simp only [Nat.zero_add, Nat.pow_one] at h2
    have := Nat.mod_two_eq_zero_or_one r
    have := Nat.mod_two_eq_zero_or_one q
    omega
/-- Of one register, at most 32 bits: different ones make different registers. -/
theorem burst32 : ∀ (u v : List Nat) {r : Nat}, Bits u → Bits v → u.length = v.length → u.length ≤ 32 → r < 2 ^ 32 → u ≠ v → u.foldl b32 r ≠ v.foldl b32 r
  | [], [], _, _, _, _, _, _, h => absurd rfl h
  | x :: u, y :: v, r, hu, hv, hl, hb, hr, hne => by
    simp only [List.length_cons] at hl hb
    by_cases hxy : x = y
    · subst hxy
      exact burst32 u v (fun b h => hu b (List.mem_cons_of_mem _ h)) (fun b h => hv b (List.mem_cons_of_mem _ h)) (by omega) (by omega) (b32_lt hr) (fun e => hne (by rw [e]))
    · intro h
      have h1 := backs32 u v (31 - u.length) (by omega) (by omega) (b32_lt (b := x) hr) (b32_lt (b := y) hr) (by simp only [List.foldl_cons] at h; rw [h])
      rw [show u.length + (31 - u.length) = 31 from by omega] at h1
      obtain ⟨_, h3⟩ := back32 (k := 31) (by omega) hr hr h1
      have hx := hu x List.mem_cons_self
      have hy := hv y List.mem_cons_self
      have := Nat.mod_two_eq_zero_or_one r
      omega
theorem told32 (p u v q : List Nat) {r : Nat} (hr : r < 2 ^ 32) (hu : Bits u) (hv : Bits v) (hq : Bits q) (hl : u.length = v.length) (hb : u.length ≤ 32) (hne : u ≠ v) : (p ++ u ++ q).foldl b32 r ≠ (p ++ v ++ q).foldl b32 r := by
  intro h
  simp only [List.foldl_append] at h
  exact burst32 u v hu hv hl hb (f32_lt p hr) hne (inj32 q hq (f32_lt u (f32_lt p hr)) (f32_lt v (f32_lt p hr)) h)

theorem low_diff {a b m : Nat} (hm : 1 ≤ m) (ha : a % 2 = 0) (hb : b % 2 = 0) (h : a % 2 ^ m = (b ^^^ P16) % 2 ^ m) : False := by
  have h1 : (a % 2 ^ m).testBit 0 = ((b ^^^ P16) % 2 ^ m).testBit 0 := by rw [h]
  rw [Nat.testBit_mod_two_pow, Nat.testBit_mod_two_pow, Nat.testBit_xor, Nat.testBit_zero, Nat.testBit_zero] at h1
  have h2 : P16.testBit 0 = true := by decide
  rw [h2, decide_eq_true (by omega : 0 < m)] at h1
  simp [ha, hb] at h1
theorem low_half {a m : Nat} (h : m ≤ 15) : a * 2 % 65536 % 2 ^ (m + 1) = a % 2 ^ m * 2 := by
  have e : (65536 : Nat) = 2 ^ (m + 1) * 2 ^ (15 - m) := by rw [← Nat.pow_add]; rw [show m + 1 + (15 - m) = 16 from by omega]
  rw [e, Nat.mod_mul_right_mod, Nat.pow_succ, Nat.mul_mod_mul_right]
theorem back16 {r q x y m : Nat} (hm : m ≤ 15) (h : b16 r x % 2 ^ (m + 1) = b16 q y % 2 ^ (m + 1)) : r % 2 ^ m = q % 2 ^ m ∧ (x = r / 32768 ↔ y = q / 32768) := by
  have ev : ∀ a : Nat, a * 2 % 65536 % 2 = 0 := fun a => by omega
  unfold b16 at h
  by_cases hx : x = r / 32768 <;> by_cases hy : y = q / 32768
  · rw [if_pos hx, if_pos hy, low_half hm, low_half hm] at h; exact ⟨by omega, by simp [hx, hy]⟩
  · rw [if_pos hx, if_neg hy] at h; exact (low_diff (by omega) (ev _) (ev _) h).elim
  · rw [if_neg hx, if_pos hy] at h; exact (low_diff (by omega) (ev _) (ev _) h.symm).elim
  · rw [if_neg hx, if_neg hy, Nat.xor_mod_two_pow, Nat.xor_mod_two_pow] at h
    have h1 := xor_cancel h
    rw [low_half hm, low_half hm] at h1; exact ⟨by omega, by simp [hx, hy]⟩
theorem backs16 : ∀ (u v : List Nat) (m : Nat) {r q : Nat}, u.length = v.length → m + u.length ≤ 16 → u.foldl b16 r % 2 ^ (m + u.length) = v.foldl b16 q % 2 ^ (m + u.length) → r % 2 ^ m = q % 2 ^ m
  | [], [], m, r, q, _, _, h => by simpa using h
  | x :: u, y :: v, m, r, q, hl, hb, h => by
    simp only [List.length_cons] at hl hb h
    rw [show m + (u.length + 1) = m + 1 + u.length from by omega] at h
    exact (back16 (m := m) (by omega) (backs16 u v (m + 1) (by omega) (by omega) h)).1
theorem inj16 : ∀ (u : List Nat) {r q : Nat}, Bits u → r < 2 ^ 16 → q < 2 ^ 16 → u.foldl b16 r = u.foldl b16 q → r = q
  | [], _, _, _, _, _, h => h
  | x :: u, r, q, hu, hr, hq, h => by
    have h1 := inj16 u (fun b hb => hu b (List.mem_cons_of_mem _ hb)) (b16_lt _ _) (b16_lt _ _) h
    obtain ⟨h2, h3⟩ := back16 (m := 15) (r := r) (q := q) (x := x) (y := x) (by omega) (by rw [h1])
    have hx := hu x List.mem_cons_self
    simp only [show (2 : Nat) ^ 15 = 32768 from rfl] at h2
    have hr' : r < 65536 := hr
    have hq' : q < 65536 := hq
    rcases bit_cases (a := r / 32768) (by omega) with e1 | e1 <;> rcases bit_cases (a := q / 32768) (by omega) with e2 | e2 <;> rw [e1, e2] at h3 <;> omega
theorem burst16 : ∀ (u v : List Nat) {r : Nat}, Bits u → Bits v → u.length = v.length → u.length ≤ 16 → r < 2 ^ 16 → u ≠ v → u.foldl b16 r ≠ v.foldl b16 r
  | [], [], _, _, _, _, _, _, h => absurd rfl h
  | x :: u, y :: v, r, hu, hv, hl, hb, hr, hne => by
    simp only [List.length_cons] at hl hb
    by_cases hxy : x = y
    · subst hxy
      exact burst16 u v (fun b h => hu b (List.mem_cons_of_mem _ h)) (fun b h => hv b (List.mem_cons_of_mem _ h)) (by omega) (by omega) (b16_lt _ _) (fun e => hne (by rw [e]))
    · intro h
      simp only [List.foldl_cons] at h
      have h1 := backs16 u v 1 (r := b16 r x) (q := b16 r y) (by omega) (by omega) (by rw [h])
      obtain ⟨_, h3⟩ := back16 (m := 0) (by omega) h1
      have hx := hu x List.mem_cons_self
      have hy := hv y List.mem_cons_self
      omega
theorem told16 (p u v q : List Nat) {r : Nat} (hr : r < 2 ^ 16) (hu : Bits u) (hv : Bits v) (hq : Bits q) (hl : u.length = v.length) (hb : u.length ≤ 16) (hne : u ≠ v) : (p ++ u ++ q).foldl b16 r ≠ (p ++ v ++ q).foldl b16 r := by
  intro h
  simp only [List.foldl_append] at h
  exact burst16 u v hu hv hl hb (f16_lt p hr) hne (inj16 q hq (f16_lt u (f16_lt p hr)) (f16_lt v (f16_lt p hr)) h)
theorem lo_bits (x : Nat) : Bits (lo x) := by intro b hb; simp [lo] at hb; omega
theorem hi_bits (x : Nat) : Bits (hi x) := by intro b hb; simp [hi] at hb; omega
theorem los_bits (l : List Nat) : Bits (los l) := by
  intro b hb; simp only [los, List.mem_flatMap] at hb; obtain ⟨x, _, hx⟩ := hb; exact lo_bits x b hx
theorem his_bits (l : List Nat) : Bits (his l) := by
  intro b hb; simp only [his, List.mem_flatMap] at hb; obtain ⟨x, _, hx⟩ := hb; exact hi_bits x b hx
/-! ### windows, and words' bits -/
theorem window {A B : List Nat} (a w : Nat) (hl : A.length = B.length) (h : ∀ i, i < a ∨ a + w ≤ i → A[i]? = B[i]?) :
    ∃ p u v q, A = p ++ u ++ q ∧ B = p ++ v ++ q ∧ u.length = v.length ∧ u.length ≤ w := by
  refine ⟨A.take a, (A.drop a).take w, (B.drop a).take w, A.drop (a + w), ?_, ?_, by simp [hl], by simp; omega⟩
  · rw [List.append_assoc, ← List.drop_drop, List.take_append_drop, List.take_append_drop]
  · have e1 : A.take a = B.take a := by
      apply List.ext_getElem?
      intro i
      rw [List.getElem?_take, List.getElem?_take]
      split
      · exact h i (Or.inl (by assumption))
      · rfl
    have e2 : A.drop (a + w) = B.drop (a + w) := by
      apply List.ext_getElem?
      intro i
      rw [List.getElem?_drop, List.getElem?_drop]
      exact h _ (Or.inr (by omega))
    rw [e1, e2, List.append_assoc, ← List.drop_drop, List.take_append_drop, List.take_append_drop]
theorem bits_sub {l p : List Nat} (h : Bits l) (hs : ∀ x ∈ p, x ∈ l) : Bits p := fun b hb => h b (hs b hb)
theorem told32w {A B : List Nat} (a w : Nat) {r : Nat} (hr : r < 2 ^ 32) (hl : A.length = B.length) (hA : Bits A) (hB : Bits B) (hw : w ≤ 32) (h : ∀ i, i < a ∨ a + w ≤ i → A[i]? = B[i]?) (hne : A ≠ B) : A.foldl b32 r ≠ B.foldl b32 r := by
  obtain ⟨p, u, v, q, rfl, rfl, hlen, hle⟩ := window a w hl h
  exact told32 p u v q hr (bits_sub hA (fun x hx => by simp [hx])) (bits_sub hB (fun x hx => by simp [hx])) (bits_sub hA (fun x hx => by simp [hx])) hlen (by omega) (fun e => hne (by rw [e]))
theorem told16w {A B : List Nat} (a w : Nat) {r : Nat} (hr : r < 2 ^ 16) (hl : A.length = B.length) (hA : Bits A) (hB : Bits B) (hw : w ≤ 16) (h : ∀ i, i < a ∨ a + w ≤ i → A[i]? = B[i]?) (hne : A ≠ B) : A.foldl b16 r ≠ B.foldl b16 r := by
  obtain ⟨p, u, v, q, rfl, rfl, hlen, hle⟩ := window a w hl h
  exact told16 p u v q hr (bits_sub hA (fun x hx => by simp [hx])) (bits_sub hB (fun x hx => by simp [hx])) (bits_sub hA (fun x hx => by simp [hx])) hlen (by omega) (fun e => hne (by rw [e]))
theorem los_append (l m : List Nat) : los (l ++ m) = los l ++ los m := by simp [los]
theorem his_append (l m : List Nat) : his (l ++ m) = his l ++ his m := by simp [his]
/-- A word's 8 bytes. -/
def w8 (x : Nat) : List Nat := [x % 256, x / 256 % 256, x / 65536 % 256, x / 16777216 % 256, x / 4294967296 % 256, x / 1099511627776 % 256, x / 281474976710656 % 256, x / 72057594037927936 % 256]
theorem tb (x t : Nat) : (x.testBit t).toNat = x / 2 ^ t % 2 := Nat.toNat_testBit x t
theorem byte_bit (x s t : Nat) (ht : t < 8) : x / 2 ^ s % 256 / 2 ^ t % 2 = (x.testBit (s + t)).toNat := by
  rw [tb, Nat.pow_add, ← Nat.div_div_eq_div_mul]
  generalize x / 2 ^ s = y
  have h := Nat.testBit_mod_two_pow y 8 t
  have e1 := tb (y % 2 ^ 8) t
  have e2 := tb y t
  rw [h, decide_eq_true ht, Bool.true_and] at e1
  rw [← e1.symm.trans e2]
theorem lo_byte (x s : Nat) : lo (x / 2 ^ s % 256) = (List.range 8).map fun t => (x.testBit (s + t)).toNat := by
  have h := fun t ht => byte_bit x s t ht
  unfold lo
  rw [show List.range 8 = [0, 1, 2, 3, 4, 5, 6, 7] from rfl]
  simp only [List.map_cons, List.map_nil]
  rw [← h 0 (by omega), ← h 1 (by omega), ← h 2 (by omega), ← h 3 (by omega), ← h 4 (by omega), ← h 5 (by omega), ← h 6 (by omega), ← h 7 (by omega)]
  simp
theorem hi_byte (x s : Nat) : hi (x / 2 ^ s % 256) = (List.range 8).map fun t => (x.testBit (s + (7 - t))).toNat := by
  have h := fun t ht => byte_bit x s t ht
  unfold hi
  rw [show List.range 8 = [0, 1, 2, 3, 4, 5, 6, 7] from rfl]
  simp only [List.map_cons, List.map_nil]
  rw [show 7 - 0 = 7 from rfl, show 7 - 1 = 6 from rfl, show 7 - 2 = 5 from rfl, show 7 - 3 = 4 from rfl, show 7 - 4 = 3 from rfl, show 7 - 5 = 2 from rfl, show 7 - 6 = 1 from rfl, show 7 - 7 = 0 from rfl]
  rw [← h 0 (by omega), ← h 1 (by omega), ← h 2 (by omega), ← h 3 (by omega), ← h 4 (by omega), ← h 5 (by omega), ← h 6 (by omega), ← h 7 (by omega)]
  simp
def wb (x : Nat) : List Nat := (List.range 64).map fun t => (x.testBit t).toNat
theorem los_w8 (x : Nat) : los (w8 x) = wb x := by
  have h := lo_byte x
  have e : w8 x = [x / 2 ^ 0 % 256, x / 2 ^ 8 % 256, x / 2 ^ 16 % 256, x / 2 ^ 24 % 256, x / 2 ^ 32 % 256, x / 2 ^ 40 % 256, x / 2 ^ 48 % 256, x / 2 ^ 56 % 256] := by simp [w8]
  rw [e]
  simp only [los, List.flatMap_cons, List.flatMap_nil, h]
  unfold wb
  rw [show List.range 8 = [0, 1, 2, 3, 4, 5, 6, 7] from rfl, show List.range 64 = [0, 1, 2, 3, 4, 5, 6, 7, 8, 9, 10, 11, 12, 13, 14, 15, 16, 17, 18, 19, 20, 21, 22, 23, 24, 25, 26, 27, 28, 29, 30, 31, 32, 33, 34, 35, 36, 37, 38, 39, 40, 41, 42, 43, 44, 45, 46, 47, 48, 49, 50, 51, 52, 53, 54, 55, 56, 57, 58, 59, 60, 61, 62, 63] from rfl]
  simp only [List.map_cons, List.map_nil, List.cons_append, List.nil_append, Nat.reduceAdd]
theorem wb_bits (x : Nat) : Bits (wb x) := by
  intro b hb
  simp only [wb, List.mem_map] at hb
  obtain ⟨t, _, rfl⟩ := hb
  cases x.testBit t <;> decide
theorem wb_get (x t : Nat) (h : t < 64) : (wb x)[t]? = some (x.testBit t).toNat := by simp [wb, h]
theorem wb_length (x : Nat) : (wb x).length = 64 := by simp [wb]
def words (l : List Nat) : List Nat := l.flatMap wb
/-- One bit of one word is turned: another sum. -/
theorem turned32 (p q : List Nat) (a j : Nat) (hj : j < 64) {r : Nat} (hr : r < 2 ^ 32) : (words (p ++ a :: q)).foldl b32 r ≠ (words (p ++ (a ^^^ 2 ^ j) :: q)).foldl b32 r := by
  have key : (wb (a ^^^ 2 ^ j)).length = (wb a).length := by rw [wb_length, wb_length]
  have same : ∀ i, i < j ∨ j + 1 ≤ i → (wb a)[i]? = (wb (a ^^^ 2 ^ j))[i]? := by
    intro i hi
    by_cases h : i < 64
    · rw [wb_get _ _ h, wb_get _ _ h, Nat.testBit_xor, Nat.testBit_two_pow, decide_eq_false (by omega)]; simp
    · rw [List.getElem?_eq_none (by rw [wb_length]; omega), List.getElem?_eq_none (by rw [wb_length]; omega)]
  have hne : wb a ≠ wb (a ^^^ 2 ^ j) := by
    intro e
    have h1 := wb_get a j hj
    have h2 := wb_get (a ^^^ 2 ^ j) j hj
    rw [← e, h1, Nat.testBit_xor, Nat.testBit_two_pow_self] at h2
    revert h2
    cases a.testBit j <;> simp
  obtain ⟨p1, u, v, q1, e1, e2, hlen, hle⟩ := window j 1 key.symm same
  have hb1 : Bits (p1 ++ u ++ q1) := e1 ▸ wb_bits a
  have hb2 : Bits (p1 ++ v ++ q1) := e2 ▸ wb_bits (a ^^^ 2 ^ j)
  have hq : Bits (words q) := fun b hb => by
    simp only [words, List.mem_flatMap] at hb
    obtain ⟨x, _, hx⟩ := hb
    exact wb_bits x b hx
  have s1 : words (p ++ a :: q) = (words p ++ p1) ++ u ++ (q1 ++ words q) := by simp [words, e1]
  have s2 : words (p ++ (a ^^^ 2 ^ j) :: q) = (words p ++ p1) ++ v ++ (q1 ++ words q) := by simp [words, e2]
  rw [s1, s2]
  refine told32 _ u v _ hr (bits_sub hb1 (fun x hx => by simp [hx])) (bits_sub hb2 (fun x hx => by simp [hx])) (fun b hb => ?_) hlen (by omega) (fun e => hne (by rw [e1, e2, e]))
  rcases List.mem_append.1 hb with h | h
  · exact hb1 b (by simp [h])
  · exact hq b h
end Go.Proofs.Ytfkfpeiocdjniaa.Crc
