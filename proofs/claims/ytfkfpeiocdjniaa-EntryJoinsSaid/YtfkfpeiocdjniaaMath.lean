/- Plain arithmetic: Go's wraps, shifts and bits of numbers that fit, as sums, products and remainders. Conditions: as each lemma says. -/
import Derived.Test.YtfkfpeiocdjniaaWMore
import Derived.IntWalk
namespace Go.Proofs.Ytfkfpeiocdjniaa.Math
open Go Go.RowKit Go.Proofs.YtfkfpeiocdjniaaW.PrintWords Go.Proofs.YtfkfpeiocdjniaaW.PrintLast

theorem wrap_u (k : IntKind) (hk : k.signed = false) (n : Int) : k.wrap n = n % 2 ^ k.bits := by
  simp [IntKind.wrap, hk]
theorem wrap_fit (k : IntKind) (hk : k.signed = false) (n : Int) (h0 : 0 ≤ n) (h1 : n < 2 ^ k.bits) : k.wrap n = n := by
  rw [wrap_u k hk]; exact Int.emod_eq_of_lt h0 h1
theorem w64 {n : Int} (h0 : -9223372036854775808 ≤ n) (h1 : n ≤ 9223372036854775807) : wrap64 n = n := by unfold wrap64; omega
theorem u64_fit {n : Int} (h0 : 0 ≤ n) (h1 : n < 18446744073709551616) : IntKind.u64.wrap n = n := IntWalk.u64_in n (by omega)
theorem u32_fit {n : Int} (h0 : 0 ≤ n) (h1 : n < 4294967296) : IntKind.u32.wrap n = n := IntWalk.u32_in n (by omega)
theorem u16_fit {n : Int} (h0 : 0 ≤ n) (h1 : n < 65536) : IntKind.u16.wrap n = n := IntWalk.u16_in n (by omega)
theorem u8_fit {n : Int} (h0 : 0 ≤ n) (h1 : n < 256) : IntKind.u8.wrap n = n := IntWalk.u8_in n (by omega)

theorem pow_cast (n : Nat) : ((2 ^ n : Nat) : Int) = (2 : Int) ^ n := by simp
theorem pow_pos' (n : Nat) : (0 : Int) < 2 ^ n := by rw [← pow_cast]; exact_mod_cast Nat.two_pow_pos n
theorem pow_le' {a b : Nat} (h : a ≤ b) : (2 : Int) ^ a ≤ 2 ^ b := by
  rw [← pow_cast, ← pow_cast]; exact_mod_cast Nat.pow_le_pow_right (by decide) h
theorem pow_lt' {a b : Nat} (h : a < b) : (2 : Int) ^ a < 2 ^ b := by
  rw [← pow_cast, ← pow_cast]; exact_mod_cast Nat.pow_lt_pow_right (by decide) h
theorem pow_add' (a b : Nat) : (2 : Int) ^ (a + b) = 2 ^ a * 2 ^ b := Int.pow_add ..

theorem wrap_nat (k : IntKind) (hk : k.signed = false) (n : Nat) (h : n < 2 ^ k.bits) : k.wrap (n : Int) = n := wrap_fit k hk _ (Int.natCast_nonneg _) (by exact_mod_cast h)
section
variable (k : IntKind) (hk : k.signed = false) (a b : Nat) (ha : a < 2 ^ k.bits) (hb : b < 2 ^ k.bits)
include hk ha hb
theorem bits_and : Go.bits .and k a b = ((a &&& b : Nat) : Int) := by
  simp only [Go.bits, BitVec.ofInt_natCast, BitVec.toNat_and, BitVec.toNat_ofNat, Nat.mod_eq_of_lt ha, Nat.mod_eq_of_lt hb]
  exact wrap_nat k hk _ (Nat.and_lt_two_pow _ hb)
theorem bits_or : Go.bits .or k a b = ((a ||| b : Nat) : Int) := by
  simp only [Go.bits, BitVec.ofInt_natCast, BitVec.toNat_or, BitVec.toNat_ofNat, Nat.mod_eq_of_lt ha, Nat.mod_eq_of_lt hb]
  exact wrap_nat k hk _ (Nat.or_lt_two_pow ha hb)
theorem bits_xor : Go.bits .xor k a b = ((a ^^^ b : Nat) : Int) := by
  simp only [Go.bits, BitVec.ofInt_natCast, BitVec.toNat_xor, BitVec.toNat_ofNat, Nat.mod_eq_of_lt ha, Nat.mod_eq_of_lt hb]
  exact wrap_nat k hk _ (Nat.xor_lt_two_pow ha hb)
end

/-- Numbers of 64 bits that stand one above the other: '|' is '+'. -/
theorem or_above (x v : Int) (at_ : Nat) (hx0 : 0 ≤ x) (hx : x < 2 ^ at_) (hv0 : 0 ≤ v) (h : x + v * 2 ^ at_ < 2 ^ 64) :
    Go.bits .or .u64 x (v * 2 ^ at_) = x + v * 2 ^ at_ := by
  obtain ⟨a, rfl⟩ := Int.eq_ofNat_of_zero_le hx0
  obtain ⟨b, rfl⟩ := Int.eq_ofNat_of_zero_le hv0
  have e : ((b : Int) * 2 ^ at_) = ((b * 2 ^ at_ : Nat) : Int) := by simp
  rw [e] at h ⊢
  have ha : a < 2 ^ at_ := by exact_mod_cast hx
  have h' : a + b * 2 ^ at_ < 2 ^ 64 := by exact_mod_cast h
  rw [bits_or .u64 rfl a (b * 2 ^ at_) (by show a < 2 ^ 64; omega) (by show _ < 2 ^ 64; omega), Nat.mul_comm b, Nat.or_comm, ← Nat.two_pow_add_eq_or_of_lt ha b]
  rw [Nat.add_comm, Nat.mul_comm]; simp

theorem shl_u64 (x y : Int) (h0 : 0 ≤ y) (h1 : y ≤ 64) : shl .u64 x y = (x * 2 ^ y.toNat) % 2 ^ 64 := by
  unfold shl
  rw [wrap_u .u64 rfl, Nat.min_eq_left (by show y.toNat ≤ 64; omega)]
  rfl
theorem shl_u64_fit (x y : Int) (h0 : 0 ≤ y) (h1 : y ≤ 64) (hx : 0 ≤ x) (h : x * 2 ^ y.toNat < 2 ^ 64) : shl .u64 x y = x * 2 ^ y.toNat := by
  rw [shl_u64 x y h0 h1]; exact Int.emod_eq_of_lt (Int.mul_nonneg hx (Int.le_of_lt (pow_pos' _))) h
theorem shr_u64 (x y : Int) (h0 : 0 ≤ y) (h1 : y ≤ 64) : shr .u64 x y = x / 2 ^ y.toNat := by
  unfold shr
  rw [Nat.min_eq_left (by show y.toNat ≤ 64; omega)]

/-- Up and down again: the lowest bits are left. -/
theorem up_down (x : Int) (n : Nat) (h : n ≤ 64) : ((x * 2 ^ (64 - n)) % 2 ^ 64) / 2 ^ (64 - n) = x % 2 ^ n := by
  have e : (2 : Int) ^ 64 = 2 ^ n * 2 ^ (64 - n) := by rw [← pow_add']; congr 1; omega
  rw [e, Int.mul_comm (2 ^ n), Int.mul_comm x, Int.mul_emod_mul_of_pos _ _ (pow_pos' _), Int.mul_ediv_cancel_left _ (Int.ne_of_gt (pow_pos' _))]

theorem rd_mid (pre : List Int) (w : Int) (ws : List Int) : rd (pre ++ w :: ws) (pre.length : Int) = w := by
  unfold rd; simp
theorem rd_mid' {pa pb : List Int} (h : pa.length = pb.length) (w : Int) (ws : List Int) : rd (pb ++ w :: ws) (pa.length : Int) = w := by
  rw [h]; exact rd_mid pb w ws
theorem cut_low (x w : Int) (h0 : 0 ≤ w) (h1 : w ≤ 64) : shr .u64 (shl .u64 x (64 - w)) (64 - w) = x % 2 ^ w.toNat := by
  rw [shr_u64 _ _ (by omega) (by omega), shl_u64 _ _ (by omega) (by omega)]
  have e : (64 - w).toNat = 64 - w.toNat := by omega
  rw [e]; exact up_down x w.toNat (by omega)
theorem div_lt_pow {x : Int} {n m : Nat} (h : x < 2 ^ (n + m)) : x / 2 ^ n < 2 ^ m := by
  rw [Int.ediv_lt_iff_lt_mul (pow_pos' _), ← pow_add', Nat.add_comm]; exact h
theorem wf_u64 {x : Int} (h : (Lit.int .u64 x).wf = true) : 0 ≤ x ∧ x < 18446744073709551616 := by
  simp [Lit.wf, IntKind.min, IntKind.max, IntKind.bits, IntKind.signed] at h; omega
theorem wf_i64 {x : Int} (h : (Lit.int .i64 x).wf = true) : -9223372036854775808 ≤ x ∧ x ≤ 9223372036854775807 := by
  simp [Lit.wf, IntKind.min, IntKind.max, IntKind.bits, IntKind.signed] at h; omega
theorem wf_u8 {x : Int} (h : (Lit.int .u8 x).wf = true) : 0 ≤ x ∧ x < 256 := by
  simp [Lit.wf, IntKind.min, IntKind.max, IntKind.bits, IntKind.signed] at h; omega
theorem wf_u16 {x : Int} (h : (Lit.int .u16 x).wf = true) : 0 ≤ x ∧ x < 65536 := by
  simp [Lit.wf, IntKind.min, IntKind.max, IntKind.bits, IntKind.signed] at h; omega
theorem wf_u32 {x : Int} (h : (Lit.int .u32 x).wf = true) : 0 ≤ x ∧ x < 4294967296 := by
  simp [Lit.wf, IntKind.min, IntKind.max, IntKind.bits, IntKind.signed] at h; omega
end Go.Proofs.Ytfkfpeiocdjniaa.Math
