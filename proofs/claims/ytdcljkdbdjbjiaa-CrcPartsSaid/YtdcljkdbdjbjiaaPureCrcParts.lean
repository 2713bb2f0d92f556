/- The law CrcParts: what its functions tell of any octets cut in two, and the call of the law itself. Conditions: octets. -/
import Derived.Test.YtdcljkdbdjbjiaaWalkCrcParts
import Derived.Test.YtdcljkdbdjbjiaaCrc
namespace Go.Proofs.Ytdcljkdbdjbjiaa.Pure
open Go.RowKit Go.Proofs.Ytdcljkdbdjbjiaa.PCrcSums Go.Proofs.YtdcljkdbdjbjiaaW.PrintWords Go.Proofs.YtdcljkdbdjbjiaaW.PrintLast Go.Proofs.YtdcljkdbdjbjiaaW.PrintMore Go.Proofs.Ytdcljkdbdjbjiaa.Math Go.Proofs.Ytdcljkdbdjbjiaa
/-! ### crc.step32, crc.Sum32, by bits -/
theorem and1_32 (s : Nat) (h : s < 2 ^ 32) : Go.bits .and .u32 (s : Int) 1 = ((s % 2 : Nat) : Int) := by
  have := Math.bits_and .u32 rfl s 1 h (by decide)
  rw [Nat.and_one_is_mod] at this; exact this
theorem xorP_32 (s : Nat) (h : s < 2 ^ 32) : Go.bits .xor .u32 (s : Int) 3988292384 = ((s ^^^ Crc.P32 : Nat) : Int) :=
  Math.bits_xor .u32 rfl s Crc.P32 h Crc.P32_lt
def it32 : Nat → Nat → Nat
  | 0, s => s
  | d + 1, s => it32 d (Crc.z32 s)
theorem step32_ev : ∀ (d : Nat) (s : Nat) (i : Int), s < 2 ^ 32 → 0 ≤ i → 8 - i = d → Ev (fun k => crc_step32.l0 k (s : Int) i) ((it32 d s : Nat) : Int)
  | 0, s, i, hs, h0, hd => by
    refine Ev.step (f := fun _ => some _) (fun k => ?_) (Ev.now _)
    simp only [crc_step32.l0]; rw [if_neg (by omega)]; rfl
  | d + 1, s, i, hs, h0, hd => by
    have ih := step32_ev d (Crc.z32 s) (i + 1) (Crc.z32_lt hs) (by omega) (by omega)
    refine Ev.step (fun k => ?_) ih
    have e2 : ((s : Int) / 2) = ((s / 2 : Nat) : Int) := by simp
    simp only [crc_step32.l0]
    rw [if_pos (by omega), and1_32 s hs, e2, xorP_32 _ (by omega), w64 (n := i + 1) (by omega) (by omega)]
    unfold Crc.z32
    by_cases h : s % 2 = 1
    · rw [if_pos (by omega), if_pos h]
    · rw [if_neg (by omega), if_neg h]
theorem step32_f (s : Nat) (x : Int) (hs : s < 2 ^ 32) (h0 : 0 ≤ x) (h1 : x < 256) : Ev (fun k => crc_step32.f k (s : Int) x) (((Crc.lo x.toNat).foldl Crc.b32 s : Nat) : Int) := by
  obtain ⟨n, rfl⟩ := Int.eq_ofNat_of_zero_le h0
  have hn : n < 256 := by omega
  rw [Int.toNat_natCast, ← Crc.by32_bits s n hn]
  have hx : s ^^^ n < 2 ^ 32 := Nat.xor_lt_two_pow hs (by omega)
  have := step32_ev 8 (s ^^^ n) 0 hx (by omega) (by omega)
  refine Ev.congr (fun k => ?_) this
  unfold crc_step32.f
  rw [show ((n : Int) % 4294967296) = (n : Int) from by omega, Math.bits_xor .u32 rfl s n hs (by show n < 2 ^ 32; omega)]
def Oct (xs : List Int) : Prop := ∀ x ∈ xs, 0 ≤ x ∧ x < 256
def nats (xs : List Int) : List Nat := xs.map Int.toNat
theorem rdL1_mid (pre : List (List Int)) (w : List Int) (ws : List (List Int)) : rd_L1 (pre ++ w :: ws) (pre.length : Int) = w := by
  unfold rd_L1; simp
theorem sum32_row (ls : List (List Int)) (n j : Int) (r : Int) : ∀ (xs pre : List Int) (s : Nat), s < 2 ^ 32 → Oct xs → pre.length + xs.length ≤ 1000000000000 → 
    Ev (fun k => crc_Sum32.l0 k ((Crc.c32 s (nats xs) : Nat) : Int) ls n (wrap64 (j + 1))) r →
    Ev (fun k => crc_Sum32.l1 k (s : Int) ls n j (pre ++ xs) ((pre ++ xs).length : Int) (pre.length : Int)) r
  | [], pre, s, hs, ho, hb, h => by
    refine Ev.step (fun k => ?_) h
    simp only [crc_Sum32.l1, List.append_nil]; rw [if_neg (by omega)]; rfl
  | x :: xs, pre, s, hs, ho, hb, h => by
    simp only [List.length_cons] at hb
    have hlen : (pre ++ x :: xs).length = pre.length + xs.length + 1 := by simp; omega
    obtain ⟨hx0, hx1⟩ := ho x List.mem_cons_self
    have hs' : (Crc.lo x.toNat).foldl Crc.b32 s < 2 ^ 32 := Crc.f32_lt _ hs
    have ih := sum32_row ls n j r xs (pre ++ [x]) ((Crc.lo x.toNat).foldl Crc.b32 s) hs' (fun y hy => ho y (List.mem_cons_of_mem _ hy)) (by simp; omega) (by
      have e : Crc.c32 s (nats (x :: xs)) = Crc.c32 ((Crc.lo x.toNat).foldl Crc.b32 s) (nats xs) := Crc.c32_cons _ _ _
      rw [← e]; exact h)
    have e1 : pre ++ [x] ++ xs = pre ++ x :: xs := by simp
    have e2 : ((pre ++ [x]).length : Int) = (pre.length : Int) + 1 := by simp
    rw [e1, e2] at ih
    refine Ev.step (f := fun k => (crc_step32.f k (s : Int) x).bind fun t => crc_Sum32.l1 k t ls n j (pre ++ x :: xs) ((pre ++ x :: xs).length : Int) ((pre.length : Int) + 1)) (fun k => ?_) (Ev.bind (step32_f s x hs hx0 hx1) ih)
    simp only [crc_Sum32.l1, hlen, rd_mid]
    rw [if_pos (by omega), if_pos (by omega), if_pos (by omega), w64 (n := (pre.length : Int) + 1) (by omega) (by omega)]
theorem sum32_ev : ∀ (L P : List (List Int)) (s : Nat), s < 2 ^ 32 → (∀ xs ∈ L, Oct xs ∧ xs.length ≤ 1000000000) → P.length + L.length ≤ 1000000000 →
    Ev (fun k => crc_Sum32.l0 k (s : Int) (P ++ L) ((P ++ L).length : Int) (P.length : Int)) (Go.bits .xor .u32 4294967295 ((Crc.c32 s (nats L.flatten) : Nat) : Int))
  | [], P, s, hs, ho, hb => by
    refine Ev.step (f := fun _ => some _) (fun k => ?_) (Ev.now _)
    simp only [crc_Sum32.l0, List.append_nil]; rw [if_neg (by omega)]; rfl
  | xs :: L, P, s, hs, ho, hb => by
    simp only [List.length_cons] at hb
    have hlen : (P ++ xs :: L).length = P.length + L.length + 1 := by simp; omega
    obtain ⟨hx, hl⟩ := ho xs List.mem_cons_self
    have ih := sum32_ev L (P ++ [xs]) (Crc.c32 s (nats xs)) (Crc.c32_lt _ hs) (fun y hy => ho y (List.mem_cons_of_mem _ hy)) (by simp; omega)
    have e1 : P ++ [xs] ++ L = P ++ xs :: L := by simp
    have e2 : ((P ++ [xs]).length : Int) = wrap64 ((P.length : Int) + 1) := by rw [w64 (n := (P.length : Int) + 1) (by omega) (by omega)]; simp
    have e3 : Crc.c32 (Crc.c32 s (nats xs)) (nats L.flatten) = Crc.c32 s (nats (xs :: L).flatten) := by
      rw [← Crc.c32_append]; simp [nats]
    rw [e1, e2, e3] at ih
    have h1 := sum32_row (P ++ xs :: L) ((P ++ xs :: L).length : Int) (P.length : Int) _ xs [] s hs hx (by simp; omega) ih
    refine Ev.step (fun k => ?_) h1
    simp only [crc_Sum32.l0, hlen, rdL1_mid]
    rw [if_pos (by omega), if_pos (by omega), if_pos (by omega)]; rfl
theorem ones32 (s : Nat) (h : s < 2 ^ 32) : Go.bits .xor .u32 4294967295 (s : Int) = 4294967295 - s := by
  have h1 := Math.bits_xor .u32 rfl 4294967295 s (by decide) h
  have h2 : 4294967295 ^^^ s = 2 ^ 32 - (s + 1) := by
    apply Nat.eq_of_testBit_eq
    intro i
    rw [Nat.testBit_two_pow_sub_succ h, Nat.testBit_xor, show (4294967295 : Nat) = 2 ^ 32 - 1 from rfl, Nat.testBit_two_pow_sub_one]
    by_cases hi : i < 32
    · simp [hi]
    · have := Nat.testBit_lt_two_pow (Nat.lt_of_lt_of_le h (Nat.pow_le_pow_right (by decide) (by omega : 32 ≤ i)))
      simp [hi, this]
  rw [h2] at h1
  refine h1.trans ?_
  omega
def S32 (xs : List Int) : Int := 4294967295 - ((Crc.c32 4294967295 (nats xs) : Nat) : Int)
theorem sum32_f (L : List (List Int)) (ho : ∀ xs ∈ L, Oct xs ∧ xs.length ≤ 1000000000) (hb : L.length ≤ 1000000000) : Ev (fun k => crc_Sum32.f k L) (S32 L.flatten) := by
  have := sum32_ev L [] 4294967295 (by decide) ho (by simpa using hb)
  rw [ones32 _ (Crc.c32_lt _ (by decide))] at this
  exact this
theorem S32_range (xs : List Int) : 0 ≤ S32 xs ∧ S32 xs < 4294967296 := by
  have := Crc.c32_lt (s := 4294967295) (nats xs) (by decide)
  unfold S32; omega
/-! ### crc.step16, crc.Sum16, by bits -/
theorem and_top (s : Nat) (h : s < 65536) : (Go.bits .and .u16 (s : Int) 32768 = 0) ↔ s / 32768 = 0 := by
  have h1 := Math.bits_and .u16 rfl s 32768 h (by decide)
  have h2 : (s &&& 32768 = 0) ↔ s / 32768 = 0 := by
    constructor
    · intro e
      have e1 : (s &&& 2 ^ 15).testBit 15 = false := by rw [show (2 : Nat) ^ 15 = 32768 from rfl, e]; simp
      rw [Nat.testBit_and, Nat.testBit_two_pow_self, Bool.and_true] at e1
      rcases Crc.bit_cases (a := s / 32768) (by omega) with q | q
      · exact q
      · have : s.testBit 15 = true := by rw [Nat.testBit_eq_decide_div_mod_eq]; simp; omega
        rw [this] at e1; cases e1
    · intro e
      have hs : s < 2 ^ 15 := by show s < 32768; omega
      apply Nat.eq_of_testBit_eq
      intro i
      rw [Nat.testBit_and, show (32768 : Nat) = 2 ^ 15 from rfl, Nat.testBit_two_pow]
      by_cases hi : 15 = i
      · subst hi; simp [Nat.testBit_lt_two_pow hs]
      · simp [hi]
  rw [← h2]
  constructor
  · intro e; have := h1.symm.trans e; exact_mod_cast this
  · intro e; exact h1.trans (by rw [e]; rfl)
theorem xorP_16 (s : Nat) (h : s < 65536) : Go.bits .xor .u16 (s : Int) 4129 = ((s ^^^ Crc.P16 : Nat) : Int) :=
  Math.bits_xor .u16 rfl s Crc.P16 h Crc.P16_lt
theorem twice_16 (s : Nat) : IntKind.u16.wrap ((s : Int) * 2) = ((s * 2 % 65536 : Nat) : Int) := by
  rw [Math.wrap_u .u16 rfl]; show (s : Int) * 2 % 65536 = _; omega
def it16 : Nat → Nat → Nat
  | 0, s => s
  | d + 1, s => it16 d (Crc.z16 s)
theorem step16_ev : ∀ (d : Nat) (s : Nat) (i : Int), s < 65536 → 0 ≤ i → 8 - i = d → Ev (fun k => crc_step16.l0 k (s : Int) i) ((it16 d s : Nat) : Int)
  | 0, s, i, hs, h0, hd => by
    refine Ev.step (f := fun _ => some _) (fun k => ?_) (Ev.now _)
    simp only [crc_step16.l0]; rw [if_neg (by omega)]; rfl
  | d + 1, s, i, hs, h0, hd => by
    have ih := step16_ev d (Crc.z16 s) (i + 1) (Crc.z16_lt s) (by omega) (by omega)
    refine Ev.step (fun k => ?_) ih
    have ht := and_top s hs
    simp only [crc_step16.l0]
    rw [if_pos (by omega), twice_16, xorP_16 _ (by omega), w64 (n := i + 1) (by omega) (by omega)]
    unfold Crc.z16
    by_cases h : s / 32768 = 0
    · rw [if_pos (ht.mpr h), if_pos h]
    · rw [if_neg (fun e => h (ht.mp e)), if_neg h]
theorem step16_f (s : Nat) (x : Int) (hs : s < 65536) (h0 : 0 ≤ x) (h1 : x < 256) : Ev (fun k => crc_step16.f k (s : Int) x) (((Crc.hi x.toNat).foldl Crc.b16 s : Nat) : Int) := by
  obtain ⟨n, rfl⟩ := Int.eq_ofNat_of_zero_le h0
  have hn : n < 256 := by omega
  rw [Int.toNat_natCast, ← Crc.by16_bits s n hs hn]
  have hx : s ^^^ (n * 256) < 2 ^ 16 := Nat.xor_lt_two_pow hs (by omega)
  have := step16_ev 8 (s ^^^ (n * 256)) 0 hx (by omega) (by omega)
  refine Ev.congr (fun k => ?_) this
  unfold crc_step16.f
  have e1 : IntKind.u16.wrap (n : Int) = n := u16_fit (by omega) (by omega)
  have e2 : IntKind.u16.wrap ((n : Int) * 256) = ((n * 256 : Nat) : Int) := by rw [u16_fit (by omega) (by omega)]; simp
  rw [e1, e2, Math.bits_xor .u16 rfl s (n * 256) hs (by show n * 256 < 2 ^ 16; omega)]
theorem sum16_row (ls : List (List Int)) (n j : Int) (r : Int) : ∀ (xs pre : List Int) (s : Nat), s < 65536 → Oct xs → pre.length + xs.length ≤ 1000000000000 → 
    Ev (fun k => crc_Sum16.l0 k ((Crc.c16 s (nats xs) : Nat) : Int) ls n (wrap64 (j + 1))) r →
    Ev (fun k => crc_Sum16.l1 k (s : Int) ls n j (pre ++ xs) ((pre ++ xs).length : Int) (pre.length : Int)) r
  | [], pre, s, hs, ho, hb, h => by
    refine Ev.step (fun k => ?_) h
    simp only [crc_Sum16.l1, List.append_nil]; rw [if_neg (by omega)]; rfl
  | x :: xs, pre, s, hs, ho, hb, h => by
    simp only [List.length_cons] at hb
    have hlen : (pre ++ x :: xs).length = pre.length + xs.length + 1 := by simp; omega
    obtain ⟨hx0, hx1⟩ := ho x List.mem_cons_self
    have hs' : (Crc.hi x.toNat).foldl Crc.b16 s < 65536 := Crc.f16_lt _ hs
    have ih := sum16_row ls n j r xs (pre ++ [x]) ((Crc.hi x.toNat).foldl Crc.b16 s) hs' (fun y hy => ho y (List.mem_cons_of_mem _ hy)) (by simp; omega) (by
      have e : Crc.c16 s (nats (x :: xs)) = Crc.c16 ((Crc.hi x.toNat).foldl Crc.b16 s) (nats xs) := Crc.c16_cons _ _ _
      rw [← e]; exact h)
    have e1 : pre ++ [x] ++ xs = pre ++ x :: xs := by simp
    have e2 : ((pre ++ [x]).length : Int) = (pre.length : Int) + 1 := by simp
    rw [e1, e2] at ih
    refine Ev.step (f := fun k => (crc_step16.f k (s : Int) x).bind fun t => crc_Sum16.l1 k t ls n j (pre ++ x :: xs) ((pre ++ x :: xs).length : Int) ((pre.length : Int) + 1)) (fun k => ?_) (Ev.bind (step16_f s x hs hx0 hx1) ih)
    simp only [crc_Sum16.l1, hlen, rd_mid]
    rw [if_pos (by omega), if_pos (by omega), if_pos (by omega), w64 (n := (pre.length : Int) + 1) (by omega) (by omega)]
theorem sum16_ev : ∀ (L P : List (List Int)) (s : Nat), s < 65536 → (∀ xs ∈ L, Oct xs ∧ xs.length ≤ 1000000000) → P.length + L.length ≤ 1000000000 →
    Ev (fun k => crc_Sum16.l0 k (s : Int) (P ++ L) ((P ++ L).length : Int) (P.length : Int)) ((Crc.c16 s (nats L.flatten) : Nat) : Int)
  | [], P, s, hs, ho, hb => by
    refine Ev.step (f := fun _ => some _) (fun k => ?_) (Ev.now _)
    simp only [crc_Sum16.l0, List.append_nil]; rw [if_neg (by omega)]; rfl
  | xs :: L, P, s, hs, ho, hb => by
    simp only [List.length_cons] at hb
    have hlen : (P ++ xs :: L).length = P.length + L.length + 1 := by simp; omega
    obtain ⟨hx, hl⟩ := ho xs List.mem_cons_self
    have ih := sum16_ev L (P ++ [xs]) (Crc.c16 s (nats xs)) (Crc.c16_lt _ hs) (fun y hy => ho y (List.mem_cons_of_mem _ hy)) (by simp; omega)
    have e1 : P ++ [xs] ++ L = P ++ xs :: L := by simp
    have e2 : ((P ++ [xs]).length : Int) = wrap64 ((P.length : Int) + 1) := by rw [w64 (n := (P.length : Int) + 1) (by omega) (by omega)]; simp
    have e3 : Crc.c16 (Crc.c16 s (nats xs)) (nats L.flatten) = Crc.c16 s (nats (xs :: L).flatten) := by
      rw [← Crc.c16_append]; simp [nats]
    rw [e1, e2, e3] at ih
    have h1 := sum16_row (P ++ xs :: L) ((P ++ xs :: L).length : Int) (P.length : Int) _ xs [] s hs hx (by simp; omega) ih
    refine Ev.step (fun k => ?_) h1
    simp only [crc_Sum16.l0, hlen, rdL1_mid]
    rw [if_pos (by omega), if_pos (by omega), if_pos (by omega)]; rfl
def S16 (xs : List Int) : Int := ((Crc.c16 65535 (nats xs) : Nat) : Int)
theorem sum16_f (L : List (List Int)) (ho : ∀ xs ∈ L, Oct xs ∧ xs.length ≤ 1000000000) (hb : L.length ≤ 1000000000) : Ev (fun k => crc_Sum16.f k L) (S16 L.flatten) :=
  sum16_ev L [] 65535 (by decide) ho (by simpa using hb)
theorem S16_range (xs : List Int) : 0 ≤ S16 xs ∧ S16 xs < 65536 := by
  have : Crc.c16 65535 (nats xs) < 65536 := Crc.c16_lt (s := 65535) (nats xs) (by decide)
  unfold S16; omega
theorem parts_calls (A0 : Option Addr) (c0 : Nat) (l : List Int) (a1 : Int) (w : World) (hr0 : Kd.C (Kd.int .u8) w A0 l.length l) (hc0 : l.length ≤ c0) (ho : Oct l) (ha : 0 ≤ a1 ∧ a1 < 65536) :
    Calls Try.prog 8 #[.slice A0 l.length c0, .int .u16 a1] w fun e w' => e = .returned (.bool true) ∧ Below w.heap.size w w' := by
  by_cases hlen : 200 < l.length
  · exact parts_long 0 a1 l w A0 c0 hr0 hc0 hlen
  · have h0 : 0 ≤ a1 % ((l.length : Int) + 1) := Int.emod_nonneg _ (by omega)
    have h1 : a1 % ((l.length : Int) + 1) < (l.length : Int) + 1 := Int.emod_lt_of_pos _ (by omega)
    obtain ⟨k, hk⟩ := Int.eq_ofNat_of_zero_le h0
    have hkl : k ≤ l.length := by omega
    have hT : Oct (l.take k) := fun x hx => ho x (List.mem_of_mem_take hx)
    have hF : Oct (l.drop k) := fun x hx => ho x (List.mem_of_mem_drop hx)
    have lT : (l.take k).length ≤ 200 := by rw [List.length_take]; omega
    have lF : (l.drop k).length ≤ 200 := by rw [List.length_drop]; omega
    have q1 := sum32_f [l.take k, l.drop k] (fun xs hx => by
      simp only [List.mem_cons, List.not_mem_nil, or_false] at hx
      rcases hx with rfl | rfl
      · exact ⟨hT, by omega⟩
      · exact ⟨hF, by omega⟩) (by simp)
    have q2 := sum32_f [l] (fun xs hx => by
      obtain rfl : xs = l := by simpa using hx
      exact ⟨ho, by omega⟩) (by simp)
    have q3 := sum16_f [l.take k, [], l.drop k] (fun xs hx => by
      simp only [List.mem_cons, List.not_mem_nil, or_false] at hx
      rcases hx with rfl | rfl | rfl
      · exact ⟨hT, by omega⟩
      · exact ⟨fun x hx => by simp at hx, by simp⟩
      · exact ⟨hF, by omega⟩) (by simp)
    have q4 := sum16_f [l] (fun xs hx => by
      obtain rfl : xs = l := by simpa using hx
      exact ⟨ho, by omega⟩) (by simp)
    have q5 := sum32_f [] (fun xs hx => by simp at hx) (by simp)
    have q6 := sum16_f [] (fun xs hx => by simp at hx) (by simp)
    rw [show [l.take k, l.drop k].flatten = l from by simp] at q1
    rw [show [l.take k, [], l.drop k].flatten = l from by simp] at q3
    rw [show [l].flatten = l from by simp] at q2 q4
    rw [show S32 (List.flatten []) = 0 from by decide] at q5
    rw [show S16 (List.flatten []) = 65535 from by decide] at q6
    obtain ⟨k1, q1⟩ := q1
    obtain ⟨k2, q2⟩ := q2
    obtain ⟨k3, q3⟩ := q3
    obtain ⟨k4, q4⟩ := q4
    obtain ⟨k5, q5⟩ := q5
    obtain ⟨k6, q6⟩ := q6
    have hK : ∀ j ∈ [k1, k2, k3, k4, k5, k6], j ≤ k1 + k2 + k3 + k4 + k5 + k6 := by
      intro j hj
      simp only [List.mem_cons, List.not_mem_nil, or_false] at hj
      omega
    exact parts_short (k1 + k2 + k3 + k4 + k5 + k6) k _ _ a1 l w A0 c0 hr0 hc0 (by omega) hkl ha hk
      (q1 _ (hK _ (by simp))) (q2 _ (hK _ (by simp))) (q3 _ (hK _ (by simp))) (q4 _ (hK _ (by simp))) (q5 _ (hK _ (by simp))) (q6 _ (hK _ (by simp)))
end Go.Proofs.Ytdcljkdbdjbjiaa.Pure
