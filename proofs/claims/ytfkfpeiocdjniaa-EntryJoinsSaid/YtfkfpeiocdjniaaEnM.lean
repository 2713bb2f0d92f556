/- The entries: what the sums, comparisons and turned bits are (plain). Conditions: octets. -/
import Derived.Test.YtfkfpeiocdjniaaPAllx4
import Derived.Test.YtfkfpeiocdjniaaPAllx5
import Derived.Test.YtfkfpeiocdjniaaPAllx7
import Derived.Test.YtfkfpeiocdjniaaPAllx8
import Derived.Test.YtfkfpeiocdjniaaMath
import Derived.Test.YtfkfpeiocdjniaaCrc
namespace Go.Proofs.Ytfkfpeiocdjniaa.Ec
open Go.RowKit Go.Proofs.Ytfkfpeiocdjniaa.PAll Go.Proofs.YtfkfpeiocdjniaaW.PrintWords Go.Proofs.YtfkfpeiocdjniaaW.PrintLast Go.Proofs.YtfkfpeiocdjniaaW.PrintMore Go.Proofs.Ytfkfpeiocdjniaa.Math Go.Proofs.Ytfkfpeiocdjniaa
set_option linter.unusedVariables false
set_option linter.unusedSimpArgs false
/-! ### crc.step32, crc.Sum32, by bits -/
theorem and1_32 (s : Nat) (h : s < 2 ^ 32) : Go.bits .and .u32 (s : Int) 1 = ((s % 2 : Nat) : Int) := by
  have := Math.bits_and .u32 rfl s 1 h (by decide)
  rw [Nat.and_one_is_mod] at this; exact this
theorem xorP_32 (s : Nat) (h : s < 2 ^ 32) : Go.bits .xor .u32 (s : Int) 3988292384 = ((s ^^^ Crc.P32 : Nat) : Int) :=
  Math.bits_xor .u32 rfl s Crc.P32 h Crc.P32_lt
def it32 : Nat → Nat → Nat
  | 0, s => s
  | d + 1, s => it32 d (Crc.z32 s)
theorem step32_ev : ∀ (d : Nat) (s : Nat) (i : Int), s < 2 ^ 32 → 0 ≤ i → 8 - i = d → Ev (fun k => crc_step32.l0 k (s : Int) i) ((it32 d s : Nat) : Int)
  | 0, s, i, hs, h0, hd => by
    refine Ev.step (f := fun _ => some _) (fun k => ?_) (Ev.now _)
    simp only [crc_step32.l0]; rw [if_neg (by omega)]; rfl
  | d + 1, s, i, hs, h0, hd => by
    have ih := step32_ev d (Crc.z32 s) (i + 1) (Crc.z32_lt hs) (by omega) (by omega)
    refine Ev.step (fun k => ?_) ih
    have e2 : ((s : Int) / 2) = ((s / 2 : Nat) : Int) := by simp
    simp only [crc_step32.l0]
    rw [if_pos (by omega), and1_32 s hs, e2, xorP_32 _ (by omega), w64 (n := i + 1) (by omega) (by omega)]
    unfold Crc.z32
    by_cases h : s % 2 = 1
    · rw [if_pos (by omega), if_pos h]
    · rw [if_neg (by omega), if_neg h]
theorem step32_f (s : Nat) (x : Int) (hs : s < 2 ^ 32) (h0 : 0 ≤ x) (h1 : x < 256) : Ev (fun k => crc_step32.f k (s : Int) x) (((Crc.lo x.toNat).foldl Crc.b32 s : Nat) : Int) := by
  obtain ⟨n, rfl⟩ := Int.eq_ofNat_of_zero_le h0
  have hn : n < 256 := by omega
  rw [Int.toNat_natCast, ← Crc.by32_bits s n hn]
  have hx : s ^^^ n < 2 ^ 32 := Nat.xor_lt_two_pow hs (by omega)
  have := step32_ev 8 (s ^^^ n) 0 hx (by omega) (by omega)
  refine Ev.congr (fun k => ?_) this
  unfold crc_step32.f
  rw [show ((n : Int) % 4294967296) = (n : Int) from by omega, Math.bits_xor .u32 rfl s n hs (by show n < 2 ^ 32; omega)]
def Oct (xs : List Int) : Prop := ∀ x ∈ xs, 0 ≤ x ∧ x < 256
def nats (xs : List Int) : List Nat := xs.map Int.toNat
theorem rdL1_mid (pre : List (List Int)) (w : List Int) (ws : List (List Int)) : rd_L1 (pre ++ w :: ws) (pre.length : Int) = w := by
  unfold rd_L1; simp
theorem sum32_row (ls : List (List Int)) (n j : Int) (r : Int) : ∀ (xs pre : List Int) (s : Nat), s < 2 ^ 32 → Oct xs → pre.length + xs.length ≤ 1000000000000 → 
    Ev (fun k => crc_Sum32.l0 k ((Crc.c32 s (nats xs) : Nat) : Int) ls n (wrap64 (j + 1))) r →
    Ev (fun k => crc_Sum32.l1 k (s : Int) ls n j (pre ++ xs) ((pre ++ xs).length : Int) (pre.length : Int)) r
  | [], pre, s, hs, ho, hb, h => by
    refine Ev.step (fun k => ?_) h
    simp only [crc_Sum32.l1, List.append_nil]; rw [if_neg (by omega)]; rfl
  | x :: xs, pre, s, hs, ho, hb, h => by
    simp only [List.length_cons] at hb
    have hlen : (pre ++ x :: xs).length = pre.length + xs.length + 1 := by simp; omega
    obtain ⟨hx0, hx1⟩ := ho x List.mem_cons_self
    have hs' : (Crc.lo x.toNat).foldl Crc.b32 s < 2 ^ 32 := Crc.f32_lt _ hs
    have ih := sum32_row ls n j r xs (pre ++ [x]) ((Crc.lo x.toNat).foldl Crc.b32 s) hs' (fun y hy => ho y (List.mem_cons_of_mem _ hy)) (by simp; omega) (by
      have e : Crc.c32 s (nats (x :: xs)) = Crc.c32 ((Crc.lo x.toNat).foldl Crc.b32 s) (nats xs) := Crc.c32_cons _ _ _
      rw [← e]; exact h)
    have e1 : pre ++ [x] ++ xs = pre ++ x :: xs := by simp
    have e2 : ((pre ++ [x]).length : Int) = (pre.length : Int) + 1 := by simp
    rw [e1, e2] at ih
    refine Ev.step (f := fun k => (crc_step32.f k (s : Int) x).bind fun t => crc_Sum32.l1 k t ls n j (pre ++ x :: xs) ((pre ++ x :: xs).length : Int) ((pre.length : Int) + 1)) (fun k => ?_) (Ev.bind (step32_f s x hs hx0 hx1) ih)
    simp only [crc_Sum32.l1, hlen, rd_mid]
    rw [if_pos (by omega), if_pos (by omega), if_pos (by omega), w64 (n := (pre.length : Int) + 1) (by omega) (by omega)]
theorem sum32_ev : ∀ (L P : List (List Int)) (s : Nat), s < 2 ^ 32 → (∀ xs ∈ L, Oct xs ∧ xs.length ≤ 1000000000) → P.length + L.length ≤ 1000000000 →
    Ev (fun k => crc_Sum32.l0 k (s : Int) (P ++ L) ((P ++ L).length : Int) (P.length : Int)) (Go.bits .xor .u32 4294967295 ((Crc.c32 s (nats L.flatten) : Nat) : Int))
  | [], P, s, hs, ho, hb => by
    refine Ev.step (f := fun _ => some _) (fun k => ?_) (Ev.now _)
    simp only [crc_Sum32.l0, List.append_nil]; rw [if_neg (by omega)]; rfl
  | xs :: L, P, s, hs, ho, hb => by
    simp only [List.length_cons] at hb
    have hlen : (P ++ xs :: L).length = P.length + L.length + 1 := by simp; omega
    obtain ⟨hx, hl⟩ := ho xs List.mem_cons_self
    have ih := sum32_ev L (P ++ [xs]) (Crc.c32 s (nats xs)) (Crc.c32_lt _ hs) (fun y hy => ho y (List.mem_cons_of_mem _ hy)) (by simp; omega)
    have e1 : P ++ [xs] ++ L = P ++ xs :: L := by simp
    have e2 : ((P ++ [xs]).length : Int) = wrap64 ((P.length : Int) + 1) := by rw [w64 (n := (P.length : Int) + 1) (by omega) (by omega)]; simp
    have e3 : Crc.c32 (Crc.c32 s (nats xs)) (nats L.flatten) = Crc.c32 s (nats (xs :: L).flatten) := by
      rw [← Crc.c32_append]; simp [nats]
    rw [e1, e2, e3] at ih
    have h1 := sum32_row (P ++ xs :: L) ((P ++ xs :: L).length : Int) (P.length : Int) _ xs [] s hs hx (by simp; omega) ih
    refine Ev.step (fun k => ?_) h1
    simp only [crc_Sum32.l0, hlen, rdL1_mid]
    rw [if_pos (by omega), if_pos (by omega), if_pos (by omega)]; rfl
theorem ones32 (s : Nat) (h : s < 2 ^ 32) : Go.bits .xor .u32 4294967295 (s : Int) = 4294967295 - s := by
  have h1 := Math.bits_xor .u32 rfl 4294967295 s (by decide) h
  have h2 : 4294967295 ^^^ s = 2 ^ 32 - (s + 1) := by
    apply Nat.eq_of_testBit_eq
    intro i
    rw [Nat.testBit_two_pow_sub_succ h, Nat.testBit_xor, show (4294967295 : Nat) = 2 ^ 32 - 1 from rfl, Nat.testBit_two_pow_sub_one]
    by_cases hi : i < 32
    · simp [hi]
    · have := Nat.testBit_lt_two_pow (Nat.lt_of_lt_of_le h (Nat.pow_le_pow_right (by decide) (by omega : 32 ≤ i)))
      simp [hi, this]
  rw [h2] at h1
  refine h1.trans ?_
  omega
def S32 (xs : List Int) : Int := 4294967295 - ((Crc.c32 4294967295 (nats xs) : Nat) : Int)
theorem sum32_f (L : List (List Int)) (ho : ∀ xs ∈ L, Oct xs ∧ xs.length ≤ 1000000000) (hb : L.length ≤ 1000000000) : Ev (fun k => crc_Sum32.f k L) (S32 L.flatten) := by
  have := sum32_ev L [] 4294967295 (by decide) ho (by simpa using hb)
  rw [ones32 _ (Crc.c32_lt _ (by decide))] at this
  exact this
theorem S32_range (xs : List Int) : 0 ≤ S32 xs ∧ S32 xs < 4294967296 := by
  have := Crc.c32_lt (s := 4294967295) (nats xs) (by decide)
  unfold S32; omega
/-! ### crc.step16, crc.Sum16, by bits -/
theorem and_top (s : Nat) (h : s < 65536) : (Go.bits .and .u16 (s : Int) 32768 = 0) ↔ s / 32768 = 0 := by
  have h1 := Math.bits_and .u16 rfl s 32768 h (by decide)
  have h2 : (s &&& 32768 = 0) ↔ s / 32768 = 0 := by
    constructor
    · intro e
      have e1 : (s &&& 2 ^ 15).testBit 15 = false := by rw [show (2 : Nat) ^ 15 = 32768 from rfl, e]; simp
      rw [Nat.testBit_and, Nat.testBit_two_pow_self, Bool.and_true] at e1
      rcases Crc.bit_cases (a := s / 32768) (by omega) with q | q
      · exact q
      · have : s.testBit 15 = true := by rw [Nat.testBit_eq_decide_div_mod_eq]; simp; omega
        rw [this] at e1; cases e1
    · intro e
      have hs : s < 2 ^ 15 := by show s < 32768; omega
      apply Nat.eq_of_testBit_eq
      intro i
      rw [Nat.testBit_and, show (32768 : Nat) = 2 ^ 15 from rfl, Nat.testBit_two_pow]
      by_cases hi : 15 = i
      · subst hi; simp [Nat.testBit_lt_two_pow hs]
      · simp [hi]
  rw [← h2]
  constructor
  · intro e; have := h1.symm.trans e; exact_mod_cast this
  · intro e; exact h1.trans (by rw [e]; rfl)
theorem xorP_16 (s : Nat) (h : s < 65536) : Go.bits .xor .u16 (s : Int) 4129 = ((s ^^^ Crc.P16 : Nat) : Int) :=
  Math.bits_xor .u16 rfl s Crc.P16 h Crc.P16_lt
theorem twice_16 (s : Nat) : IntKind.u16.wrap ((s : Int) * 2) = ((s * 2 % 65536 : Nat) : Int) := by
  rw [Math.wrap_u .u16 rfl]; show (s : Int) * 2 % 65536 = _; omega
def it16 : Nat → Nat → Nat
  | 0, s => s
  | d + 1, s => it16 d (Crc.z16 s)
theorem step16_ev : ∀ (d : Nat) (s : Nat) (i : Int), s < 65536 → 0 ≤ i → 8 - i = d → Ev (fun k => crc_step16.l0 k (s : Int) i) ((it16 d s : Nat) : Int)
  | 0, s, i, hs, h0, hd => by
    refine Ev.step (f := fun _ => some _) (fun k => ?_) (Ev.now _)
    simp only [crc_step16.l0]; rw [if_neg (by omega)]; rfl
  | d + 1, s, i, hs, h0, hd => by
    have ih := step16_ev d (Crc.z16 s) (i + 1) (Crc.z16_lt s) (by omega) (by omega)
    refine Ev.step (fun k => ?_) ih
    have ht := and_top s hs
    simp only [crc_step16.l0]
    rw [if_pos (by omega), twice_16, xorP_16 _ (by omega), w64 (n := i + 1) (by omega) (by omega)]
    unfold Crc.z16
    by_cases h : s / 32768 = 0
    · rw [if_pos (ht.mpr h), if_pos h]
    · rw [if_neg (fun e => h (ht.mp e)), if_neg h]
theorem step16_f (s : Nat) (x : Int) (hs : s < 65536) (h0 : 0 ≤ x) (h1 : x < 256) : Ev (fun k => crc_step16.f k (s : Int) x) (((Crc.hi x.toNat).foldl Crc.b16 s : Nat) : Int) := by
  obtain ⟨n, rfl⟩ := Int.eq_ofNat_of_zero_le h0
  have hn : n < 256 := by omega
  rw [Int.toNat_natCast, ← Crc.by16_bits s n hs hn]
  have hx : s ^^^ (n * 256) < 2 ^ 16 := Nat.xor_lt_two_pow hs (by omega)
  have := step16_ev 8 (s ^^^ (n * 256)) 0 hx (by omega) (by omega)
  refine Ev.congr (fun k => ?_) this
  unfold crc_step16.f
  have e1 : IntKind.u16.wrap (n : Int) = n := u16_fit (by omega) (by omega)
  have e2 : IntKind.u16.wrap ((n : Int) * 256) = ((n * 256 : Nat) : Int) := by rw [u16_fit (by omega) (by omega)]; simp
  rw [e1, e2, Math.bits_xor .u16 rfl s (n * 256) hs (by show n * 256 < 2 ^ 16; omega)]
theorem sum16_row (ls : List (List Int)) (n j : Int) (r : Int) : ∀ (xs pre : List Int) (s : Nat), s < 65536 → Oct xs → pre.length + xs.length ≤ 1000000000000 → 
    Ev (fun k => crc_Sum16.l0 k ((Crc.c16 s (nats xs) : Nat) : Int) ls n (wrap64 (j + 1))) r →
    Ev (fun k => crc_Sum16.l1 k (s : Int) ls n j (pre ++ xs) ((pre ++ xs).length : Int) (pre.length : Int)) r
  | [], pre, s, hs, ho, hb, h => by
    refine Ev.step (fun k => ?_) h
    simp only [crc_Sum16.l1, List.append_nil]; rw [if_neg (by omega)]; rfl
  | x :: xs, pre, s, hs, ho, hb, h => by
    simp only [List.length_cons] at hb
    have hlen : (pre ++ x :: xs).length = pre.length + xs.length + 1 := by simp; omega
    obtain ⟨hx0, hx1⟩ := ho x List.mem_cons_self
    have hs' : (Crc.hi x.toNat).foldl Crc.b16 s < 65536 := Crc.f16_lt _ hs
    have ih := sum16_row ls n j r xs (pre ++ [x]) ((Crc.hi x.toNat).foldl Crc.b16 s) hs' (fun y hy => ho y (List.mem_cons_of_mem _ hy)) (by simp; omega) (by
      have e : Crc.c16 s (nats (x :: xs)) = Crc.c16 ((Crc.hi x.toNat).foldl Crc.b16 s) (nats xs) := Crc.c16_cons _ _ _
      rw [← e]; exact h)
    have e1 : pre ++ [x] ++ xs = pre ++ x :: xs := by simp
    have e2 : ((pre ++ [x]).length : Int) = (pre.length : Int) + 1 := by simp
    rw [e1, e2] at ih
    refine Ev.step (f := fun k => (crc_step16.f k (s : Int) x).bind fun t => crc_Sum16.l1 k t ls n j (pre ++ x :: xs) ((pre ++ x :: xs).length : Int) ((pre.length : Int) + 1)) (fun k => ?_) (Ev.bind (step16_f s x hs hx0 hx1) ih)
    simp only [crc_Sum16.l1, hlen, rd_mid]
    rw [if_pos (by omega), if_pos (by omega), if_pos (by omega), w64 (n := (pre.length : Int) + 1) (by omega) (by omega)]
theorem sum16_ev : ∀ (L P : List (List Int)) (s : Nat), s < 65536 → (∀ xs ∈ L, Oct xs ∧ xs.length ≤ 1000000000) → P.length + L.length ≤ 1000000000 →
    Ev (fun k => crc_Sum16.l0 k (s : Int) (P ++ L) ((P ++ L).length : Int) (P.length : Int)) ((Crc.c16 s (nats L.flatten) : Nat) : Int)
  | [], P, s, hs, ho, hb => by
    refine Ev.step (f := fun _ => some _) (fun k => ?_) (Ev.now _)
    simp only [crc_Sum16.l0, List.append_nil]; rw [if_neg (by omega)]; rfl
  | xs :: L, P, s, hs, ho, hb => by
    simp only [List.length_cons] at hb
    have hlen : (P ++ xs :: L).length = P.length + L.length + 1 := by simp; omega
    obtain ⟨hx, hl⟩ := ho xs List.mem_cons_self
    have ih := sum16_ev L (P ++ [xs]) (Crc.c16 s (nats xs)) (Crc.c16_lt _ hs) (fun y hy => ho y (List.mem_cons_of_mem _ hy)) (by simp; omega)
    have e1 : P ++ [xs] ++ L = P ++ xs :: L := by simp
    have e2 : ((P ++ [xs]).length : Int) = wrap64 ((P.length : Int) + 1) := by rw [w64 (n := (P.length : Int) + 1) (by omega) (by omega)]; simp
    have e3 : Crc.c16 (Crc.c16 s (nats xs)) (nats L.flatten) = Crc.c16 s (nats (xs :: L).flatten) := by
      rw [← Crc.c16_append]; simp [nats]
    rw [e1, e2, e3] at ih
    have h1 := sum16_row (P ++ xs :: L) ((P ++ xs :: L).length : Int) (P.length : Int) _ xs [] s hs hx (by simp; omega) ih
    refine Ev.step (fun k => ?_) h1
    simp only [crc_Sum16.l0, hlen, rdL1_mid]
    rw [if_pos (by omega), if_pos (by omega), if_pos (by omega)]; rfl
def S16 (xs : List Int) : Int := ((Crc.c16 65535 (nats xs) : Nat) : Int)
theorem sum16_f (L : List (List Int)) (ho : ∀ xs ∈ L, Oct xs ∧ xs.length ≤ 1000000000) (hb : L.length ≤ 1000000000) : Ev (fun k => crc_Sum16.f k L) (S16 L.flatten) :=
  sum16_ev L [] 65535 (by decide) ho (by simpa using hb)
theorem S16_range (xs : List Int) : 0 ≤ S16 xs ∧ S16 xs < 65536 := by
  have : Crc.c16 65535 (nats xs) < 65536 := Crc.c16_lt (s := 65535) (nats xs) (by decide)
  unfold S16; omega
/-! ### the document's sums of a text -/
def nb (s : ByteArray) : List Nat := s.data.toList.map UInt8.toNat
theorem nb_length (s : ByteArray) : (nb s).length = s.size := by unfold nb; rw [List.length_map, Array.length_toList]; rfl
theorem bt_nb (s : ByteArray) (i : Nat) (h : i < s.size) : bt s (i : Int) = (((nb s).getD i 0 : Nat) : Int) := by
  unfold bt
  rw [dif_pos (by simpa using h)]
  simp [nb, List.getD_eq_getElem?_getD, ByteArray.getElem_eq_getElem_data, h]
theorem nb_lt (s : ByteArray) (i : Nat) : (nb s).getD i 0 < 256 := by
  rw [List.getD_eq_getElem?_getD]
  rcases h : (nb s)[i]? with _ | x
  · simp
  · have hm := List.mem_of_getElem? h
    simp only [nb, List.mem_map] at hm
    obtain ⟨u, _, rfl⟩ := hm
    exact u.toNat_lt
theorem los_get : ∀ (l : List Nat) (i : Nat), i < 8 * l.length → (Crc.los l)[i]? = some (l.getD (i / 8) 0 / 2 ^ (i % 8) % 2)
  | [], i, h => by simp at h
  | x :: l, i, h => by
    simp only [List.length_cons] at h
    have e : Crc.los (x :: l) = Crc.lo x ++ Crc.los l := by simp [Crc.los]
    rw [e]
    by_cases hi : i < 8
    · rw [List.getElem?_append_left (by simp [Crc.lo]; omega)]
      have : i / 8 = 0 := by omega
      rw [this, show i % 8 = i from by omega]
      rcases i with _ | _ | _ | _ | _ | _ | _ | _ | i <;> first | omega | simp [Crc.lo]
    · rw [List.getElem?_append_right (by simp [Crc.lo]; omega), show i - (Crc.lo x).length = i - 8 from by simp [Crc.lo], los_get l (i - 8) (by omega)]
      rw [show (i - 8) % 8 = i % 8 from by omega, show i / 8 = (i - 8) / 8 + 1 from by omega]; rfl
theorem his_get : ∀ (l : List Nat) (i : Nat), i < 8 * l.length → (Crc.his l)[i]? = some (l.getD (i / 8) 0 / 2 ^ (7 - i % 8) % 2)
  | [], i, h => by simp at h
  | x :: l, i, h => by
    simp only [List.length_cons] at h
    have e : Crc.his (x :: l) = Crc.hi x ++ Crc.his l := by simp [Crc.his]
    rw [e]
    by_cases hi : i < 8
    · rw [List.getElem?_append_left (by simp [Crc.hi]; omega)]
      have : i / 8 = 0 := by omega
      rw [this, show i % 8 = i from by omega]
      rcases i with _ | _ | _ | _ | _ | _ | _ | _ | i <;> first | omega | simp [Crc.hi]
    · rw [List.getElem?_append_right (by simp [Crc.hi]; omega), show i - (Crc.hi x).length = i - 8 from by simp [Crc.hi], his_get l (i - 8) (by omega)]
      rw [show (i - 8) % 8 = i % 8 from by omega, show i / 8 = (i - 8) / 8 + 1 from by omega]; rfl
theorem los_length (l : List Nat) : (Crc.los l).length = 8 * l.length := by
  induction l with
  | nil => rfl
  | cons x l ih =>
    have e : Crc.los (x :: l) = Crc.lo x ++ Crc.los l := by simp [Crc.los]
    rw [e, List.length_append, ih]; simp [Crc.lo]; omega
theorem his_length (l : List Nat) : (Crc.his l).length = 8 * l.length := by
  induction l with
  | nil => rfl
  | cons x l ih =>
    have e : Crc.his (x :: l) = Crc.hi x ++ Crc.his l := by simp [Crc.his]
    rw [e, List.length_append, ih]; simp [Crc.hi]; omega
theorem drop_get {α : Type} {l : List α} {i : Nat} {a : α} (h : l[i]? = some a) : l.drop i = a :: l.drop (i + 1) := by
  obtain ⟨hl, e⟩ := List.getElem?_eq_some_iff.1 h
  rw [← e]; exact List.drop_eq_getElem_cons hl
theorem shr8 (x n : Nat) (hn : n ≤ 7) : shr .u8 (x : Int) (n : Int) = ((x / 2 ^ n : Nat) : Int) := by
  unfold shr
  rw [Int.toNat_natCast, Nat.min_eq_left (by show n ≤ 8; omega)]; simp
theorem and1_nat32 (x : Nat) (h : x < 256) : Go.bits .and .u32 (x : Int) 1 = ((x % 2 : Nat) : Int) := by
  have := Math.bits_and .u32 rfl x 1 (by show x < 2 ^ 32; omega) (by decide)
  rw [Nat.and_one_is_mod] at this; exact this
theorem and1_nat16 (x : Nat) (h : x < 256) : Go.bits .and .u16 (x : Int) 1 = ((x % 2 : Nat) : Int) := by
  have := Math.bits_and .u16 rfl x 1 (by show x < 2 ^ 16; omega) (by decide)
  rw [Nat.and_one_is_mod] at this; exact this
theorem div_pow_lt {x : Nat} (n : Nat) (h : x < 256) : x / 2 ^ n < 256 := Nat.lt_of_le_of_lt (Nat.div_le_self _ _) h
theorem nb_str (xs : List Int) (h : Oct xs) : nb (strOfNums xs) = nats xs := by
  simp only [nb, strOfNums, nats, List.map_map]
  apply List.map_congr_left
  intro x hx
  obtain ⟨h0, h1⟩ := h x hx
  simp [UInt8.toNat_ofNat']
  omega
theorem str_size (xs : List Int) : (strOfNums xs).size = xs.length := by simp [strOfNums, ByteArray.size]
theorem ref32_ev (s : ByteArray) (hb : s.size ≤ 1000000000) : ∀ (d i r : Nat), r < 2 ^ 32 → i + d = 8 * s.size →
    Ev (fun k => cantleref02_Sum32.l0 k s (r : Int) (i : Int)) (4294967295 - ((((Crc.los (nb s)).drop i).foldl Crc.b32 r : Nat) : Int))
  | 0, i, r, hr, hd => by
    rw [List.drop_of_length_le (by rw [los_length, nb_length]; omega)]
    refine Ev.step (f := fun _ => some _) (fun k => ?_) (Ev.now _)
    simp only [cantleref02_Sum32.l0, List.foldl_nil]
    rw [w64 (n := 8 * (s.size : Int)) (by omega) (by omega), if_neg (by omega), Int.emod_eq_of_lt (by omega) (by omega)]
  | d + 1, i, r, hr, hd => by
    have hi : i < 8 * (nb s).length := by rw [nb_length]; omega
    have hg := drop_get (los_get (nb s) i hi)
    rw [hg, List.foldl_cons]
    have ih := ref32_ev s hb d (i + 1) (Crc.b32 r ((nb s).getD (i / 8) 0 / 2 ^ (i % 8) % 2)) (Crc.b32_lt hr) (by omega)
    refine Ev.step (fun k => ?_) ih
    have q1 : Int.tdiv (i : Int) 8 = ((i / 8 : Nat) : Int) := by rw [Int.tdiv_eq_ediv_of_nonneg (by omega)]; omega
    have q2 : Int.tmod (i : Int) 8 = ((i % 8 : Nat) : Int) := by rw [Int.tmod_eq_emod_of_nonneg (by omega)]; omega
    have q3 : Int.tdiv (r : Int) 2 % 4294967296 = ((r / 2 : Nat) : Int) := by rw [Int.tdiv_eq_ediv_of_nonneg (by omega)]; omega
    have hx := nb_lt s (i / 8)
    have q4 : bt s ((i / 8 : Nat) : Int) = (((nb s).getD (i / 8) 0 : Nat) : Int) := bt_nb s (i / 8) (by omega)
    generalize hX : (nb s).getD (i / 8) 0 = X at *
    have q5 : (((X / 2 ^ (i % 8) : Nat) : Int)) % 4294967296 = ((X / 2 ^ (i % 8) : Nat) : Int) := by
      have hy := div_pow_lt (i % 8) hx
      generalize X / 2 ^ (i % 8) = Y at hy ⊢
      omega
    have h8 : i / 8 < s.size := by omega
    clear hg hi ih
    simp only [cantleref02_Sum32.l0]
    rw [w64 (n := 8 * (s.size : Int)) (by omega) (by omega), if_pos (by omega), q1, w64 (n := ((i / 8 : Nat) : Int)) (by omega) (by omega), if_pos (by omega), if_pos (by omega), q2, if_pos (by omega), q4, shr8 _ _ (by omega), q5, and1_nat32 _ (div_pow_lt _ hx), and1_32 r hr, q3, xorP_32 _ (by omega), w64 (n := (i : Int) + 1) (by omega) (by omega)]
    unfold Crc.b32
    by_cases h : X / 2 ^ (i % 8) % 2 = r % 2
    · rw [if_pos (by rw [h]), if_pos h]; rfl
    · rw [if_neg (fun e => h (by exact_mod_cast e)), if_neg h]; rfl
theorem ref32_f (s : ByteArray) (hb : s.size ≤ 1000000000) : Ev (fun k => cantleref02_Sum32.f k s) (4294967295 - ((Crc.c32 4294967295 (nb s) : Nat) : Int)) :=
  ref32_ev s hb (8 * s.size) 0 4294967295 (by decide) (by omega)
/-! ### neighbouring bits that are turned (nats, Oct, S32, S16, los_get, his_get: crc_impl32, crc_impl16, crc_refc) -/
def fb (x : Int) (j : Nat) : Int := ((x.toNat ^^^ 2 ^ j : Nat) : Int)
def flipB (l : List Int) (q j : Nat) : List Int := l.set q (fb (l.getD q 0) j)
def bl (l : List Int) (p : Nat) : Bool := (l.getD (p / 8) 0).toNat.testBit (p % 8)
def bh (l : List Int) (p : Nat) : Bool := (l.getD (p / 8) 0).toNat.testBit (7 - p % 8)
theorem fb_range {x : Int} {j : Nat} (h0 : 0 ≤ x) (h1 : x < 256) (hj : j < 8) : 0 ≤ fb x j ∧ fb x j < 256 := by
  have h : x.toNat ^^^ 2 ^ j < 2 ^ 8 := Nat.xor_lt_two_pow (by omega) (Nat.pow_lt_pow_right (by decide) hj)
  unfold fb; omega
theorem flipB_length (l : List Int) (q j : Nat) : (flipB l q j).length = l.length := by simp [flipB]
theorem getD_oct {l : List Int} (h : Oct l) (q : Nat) : 0 ≤ l.getD q 0 ∧ l.getD q 0 < 256 := by
  rw [List.getD_eq_getElem?_getD]
  rcases e : l[q]? with _ | x
  · simp
  · exact h x (List.mem_of_getElem? e)
theorem flipB_oct {l : List Int} (h : Oct l) (q j : Nat) (hj : j < 8) : Oct (flipB l q j) := by
  intro x hx
  rcases List.mem_or_eq_of_mem_set hx with e | e
  · exact h x e
  · subst e; exact fb_range (getD_oct h q).1 (getD_oct h q).2 hj
theorem flipB_get (l : List Int) (q j r : Nat) (hq : q < l.length) : ((flipB l q j).getD r 0).toNat = if r = q then (l.getD r 0).toNat ^^^ 2 ^ j else (l.getD r 0).toNat := by
  unfold flipB
  rw [List.getD_eq_getElem?_getD, List.getElem?_set]
  by_cases e : q = r
  · subst e; simp [hq, fb, List.getD_eq_getElem?_getD]
  · rw [if_neg e, if_neg (fun h => e h.symm), ← List.getD_eq_getElem?_getD]
theorem bl_flip (l : List Int) (k p : Nat) (hk : k < 8 * l.length) : bl (flipB l (k / 8) (k % 8)) p = (bl l p != decide (p = k)) := by
  unfold bl
  rw [flipB_get l _ _ _ (by omega)]
  by_cases e : p / 8 = k / 8
  · rw [if_pos e, Nat.testBit_xor, Nat.testBit_two_pow]
    by_cases e2 : p = k
    · subst e2; simp
    · rw [decide_eq_false (by omega : ¬ k % 8 = p % 8), decide_eq_false e2]
  · rw [if_neg e, decide_eq_false (fun h => e (by rw [h]))]; simp
theorem bh_flip (l : List Int) (k p : Nat) (hk : k < 8 * l.length) : bh (flipB l (k / 8) (7 - k % 8)) p = (bh l p != decide (p = k)) := by
  unfold bh
  rw [flipB_get l _ _ _ (by omega)]
  by_cases e : p / 8 = k / 8
  · rw [if_pos e, Nat.testBit_xor, Nat.testBit_two_pow]
    by_cases e2 : p = k
    · subst e2; simp
    · rw [decide_eq_false (by omega : ¬ 7 - k % 8 = 7 - p % 8), decide_eq_false e2]
  · rw [if_neg e, decide_eq_false (fun h => e (by rw [h]))]; simp
theorem nats_get (l : List Int) (q : Nat) : (nats l).getD q 0 = (l.getD q 0).toNat := by
  unfold nats
  rw [List.getD_eq_getElem?_getD, List.getD_eq_getElem?_getD, List.getElem?_map]
  cases l[q]? <;> rfl
theorem nats_length (l : List Int) : (nats l).length = l.length := by simp [nats]
theorem los_bl (l : List Int) (p : Nat) (h : p < 8 * l.length) : (Crc.los (nats l))[p]? = some (bl l p).toNat := by
  rw [los_get _ _ (by rw [nats_length]; exact h), nats_get]
  unfold bl
  rw [Nat.toNat_testBit]
theorem his_bh (l : List Int) (p : Nat) (h : p < 8 * l.length) : (Crc.his (nats l))[p]? = some (bh l p).toNat := by
  rw [his_get _ _ (by rw [nats_length]; exact h), nats_get]
  unfold bh
  rw [Nat.toNat_testBit]
theorem oct_ext {A B : List Int} (hl : A.length = B.length) (hA : Oct A) (hB : Oct B) (h : ∀ q j, q < A.length → j < 8 → (A.getD q 0).toNat.testBit j = (B.getD q 0).toNat.testBit j) : A = B := by
  apply List.ext_getElem? 
  intro q
  by_cases hq : q < A.length
  · have ha := getD_oct hA q
    have hb := getD_oct hB q
    have e : (A.getD q 0).toNat = (B.getD q 0).toNat := by
      apply Nat.eq_of_testBit_eq
      intro j
      by_cases hj : j < 8
      · exact h q j hq hj
      · have e8 : ∀ n : Nat, n < 256 → n.testBit j = false := fun n hn => Nat.testBit_lt_two_pow (Nat.lt_of_lt_of_le (show n < 2 ^ 8 from hn) (Nat.pow_le_pow_right (by decide) (by omega : 8 ≤ j)))
        rw [e8 _ (by omega), e8 _ (by omega)]
    have e2 : A.getD q 0 = B.getD q 0 := by omega
    rw [List.getD_eq_getElem?_getD, List.getD_eq_getElem?_getD, List.getElem?_eq_getElem hq, List.getElem?_eq_getElem (by omega)] at e2
    rw [List.getElem?_eq_getElem hq, List.getElem?_eq_getElem (by omega)]
    simpa using e2
  · rw [List.getElem?_eq_none (by omega), List.getElem?_eq_none (by omega)]
theorem ext_bl {A B : List Int} (hl : A.length = B.length) (hA : Oct A) (hB : Oct B) (h : ∀ p, p < 8 * A.length → bl A p = bl B p) : A = B :=
  oct_ext hl hA hB fun q j hq hj => by
    have := h (8 * q + j) (by omega)
    unfold bl at this
    rw [show (8 * q + j) / 8 = q from by omega, show (8 * q + j) % 8 = j from by omega] at this
    exact this
theorem ext_bh {A B : List Int} (hl : A.length = B.length) (hA : Oct A) (hB : Oct B) (h : ∀ p, p < 8 * A.length → bh A p = bh B p) : A = B :=
  oct_ext hl hA hB fun q j hq hj => by
    have := h (8 * q + (7 - j)) (by omega)
    unfold bh at this
    rw [show (8 * q + (7 - j)) / 8 = q from by omega, show 7 - (8 * q + (7 - j)) % 8 = j from by omega] at this
    exact this
theorem toNat_bool {a b : Bool} (h : a.toNat = b.toNat) : a = b := by cases a <;> cases b <;> simp at h ⊢
theorem burst32 {A B : List Int} (a : Nat) (hl : A.length = B.length) (hA : Oct A) (hB : Oct B) (h : ∀ p, p < a ∨ a + 32 ≤ p → bl A p = bl B p) (hne : A ≠ B) : S32 A ≠ S32 B := by
  intro e
  unfold S32 Crc.c32 at e
  have e' : (Crc.los (nats A)).foldl Crc.b32 4294967295 = (Crc.los (nats B)).foldl Crc.b32 4294967295 := by omega
  refine Crc.told32w a 32 (by decide) (by rw [los_length, los_length, nats_length, nats_length, hl]) (Crc.los_bits _) (Crc.los_bits _) (by omega) ?_ ?_ e'
  · intro p hp
    by_cases hlt : p < 8 * A.length
    · rw [los_bl A p hlt, los_bl B p (by omega), h p hp]
    · rw [List.getElem?_eq_none (by rw [los_length, nats_length]; omega), List.getElem?_eq_none (by rw [los_length, nats_length]; omega)]
  · intro q
    refine hne (ext_bl hl hA hB fun p hp => ?_)
    have := los_bl A p hp
    rw [q, los_bl B p (by omega)] at this
    exact (toNat_bool (Option.some.inj this)).symm
theorem burst16 {A B : List Int} (a : Nat) (hl : A.length = B.length) (hA : Oct A) (hB : Oct B) (h : ∀ p, p < a ∨ a + 16 ≤ p → bh A p = bh B p) (hne : A ≠ B) : S16 A ≠ S16 B := by
  intro e
  unfold S16 Crc.c16 at e
  have e' : (Crc.his (nats A)).foldl Crc.b16 65535 = (Crc.his (nats B)).foldl Crc.b16 65535 := by omega
  refine Crc.told16w a 16 (by decide) (by rw [his_length, his_length, nats_length, nats_length, hl]) (Crc.his_bits _) (Crc.his_bits _) (by omega) ?_ ?_ e'
  · intro p hp
    by_cases hlt : p < 8 * A.length
    · rw [his_bh A p hlt, his_bh B p (by omega), h p hp]
    · rw [List.getElem?_eq_none (by rw [his_length, nats_length]; omega), List.getElem?_eq_none (by rw [his_length, nats_length]; omega)]
  · intro q
    refine hne (ext_bh hl hA hB fun p hp => ?_)
    have := his_bh A p hp
    rw [q, his_bh B p (by omega)] at this
    exact (toNat_bool (Option.some.inj this)).symm
/-! ### cantlelaw03.Same -/
theorem eq0_ev : ∀ (a b pa pb : List Int), a.length = b.length → pa.length = pb.length → pa.length + a.length ≤ 1000000000 →
    Ev (fun k => slices_Equal_byte_byte.l0 k (pa ++ a) (pb ++ b) ((pa ++ a).length : Int) (pa.length : Int)) (decide (a = b))
  | [], [], pa, pb, _, hp, hb => by
    refine Ev.step (f := fun _ => some _) (fun k => ?_) (Ev.now _)
    simp only [slices_Equal_byte_byte.l0, List.append_nil]; rw [if_neg (by omega)]; simp
  | x :: a, y :: b, pa, pb, hl, hp, hb => by
    have h1 : (pa ++ x :: a).length = pa.length + a.length + 1 := by simp; omega
    have h2 : (pb ++ y :: b).length = pa.length + a.length + 1 := by simp at hl ⊢; omega
    simp only [List.length_cons] at hb hl
    by_cases hxy : x = y
    · have ih := eq0_ev a b (pa ++ [x]) (pb ++ [y]) (by omega) (by simp [hp]) (by simp; omega)
      have e1 : pa ++ [x] ++ a = pa ++ x :: a := by simp
      have e1' : pb ++ [y] ++ b = pb ++ y :: b := by simp
      have e2 : ((pa ++ [x]).length : Int) = (pa.length : Int) + 1 := by simp
      rw [e1, e1', e2] at ih
      have ed : decide (x :: a = y :: b) = decide (a = b) := by subst hxy; simp
      rw [ed]
      refine Ev.step (fun k => ?_) ih
      simp only [slices_Equal_byte_byte.l0, h1, h2, rd_mid, rd_mid' hp]
      rw [if_pos (by omega), if_pos (by omega), if_pos (by omega), if_pos (by omega), if_pos hxy, w64 (n := (pa.length : Int) + 1) (by omega) (by omega)]
    · refine Ev.step (f := fun _ => some _) (fun k => ?_) (Ev.now _)
      simp only [slices_Equal_byte_byte.l0, h1, h2, rd_mid, rd_mid' hp]
      rw [if_pos (by omega), if_pos (by omega), if_pos (by omega), if_pos (by omega), if_neg hxy]
      simp [hxy]
theorem eq0_f (a b : List Int) (hb : a.length ≤ 1000000000) : Ev (fun k => slices_Equal_byte_byte.f k a b) (decide (a = b)) := by
  by_cases h : a.length = b.length
  · refine Ev.congr (fun k => ?_) (eq0_ev a b [] [] h rfl (by simpa using hb))
    unfold slices_Equal_byte_byte.f
    rw [if_pos (by omega)]; rfl
  · refine Ev.congr (f := fun _ => some _) (fun k => ?_) (Ev.now _)
    unfold slices_Equal_byte_byte.f
    rw [if_neg (by omega)]
    simp only [Option.some.injEq]
    symm; rw [decide_eq_false_iff_not]; intro e; subst e; exact h rfl
theorem str_inj {a b : List Int} (ha : Oct a) (hb : Oct b) (h : strOfNums a = strOfNums b) : a = b := by
  have e := congrArg nb h
  rw [nb_str a ha, nb_str b hb] at e
  have hl : a.length = b.length := by have := congrArg List.length e; simpa [nats] using this
  apply List.ext_getElem hl
  intro i h1 h2
  have g := congrArg (fun l => l[i]?) e
  simp only [nats, List.getElem?_map, List.getElem?_eq_getElem h1, List.getElem?_eq_getElem h2, Option.map_some, Option.some.injEq] at g
  have := ha a[i] (List.getElem_mem h1)
  have := hb b[i] (List.getElem_mem h2)
  omega
/-- What the first list is, behind i rounds. -/
structure InvC (b : List Int) (f i : Nat) (C : List Int) : Prop where
  len : C.length = b.length
  oct : Oct C
  same : ∀ p, (p < f ∨ f + i ≤ p) → bl C p = bl b p
theorem InvC.start {b : List Int} (h : Oct b) (f : Nat) : InvC b f 0 b := ⟨rfl, h, fun _ _ => rfl⟩
theorem InvC.skip {b : List Int} {f i : Nat} {C : List Int} (h : InvC b f i C) : InvC b f (i + 1) C :=
  ⟨h.len, h.oct, fun p hp => h.same p (by omega)⟩
theorem InvC.flip {b : List Int} {f i : Nat} {C : List Int} (h : InvC b f i C) (hk : f + i < 8 * b.length) : InvC b f (i + 1) (flipB C ((f + i) / 8) ((f + i) % 8)) := by
  refine ⟨by rw [flipB_length, h.len], flipB_oct h.oct _ _ (by omega), fun p hp => ?_⟩
  rw [bl_flip C (f + i) p (by rw [h.len]; exact hk), decide_eq_false (by omega)]
  simpa using h.same p (by omega)
theorem InvC.told {b : List Int} {f : Nat} {C : List Int} (hb : Oct b) (h : InvC b f 32 C) (hne : C ≠ b) : S32 C ≠ S32 b := burst32 f h.len h.oct hb h.same hne
/-- Octets in a block of one's own. -/
structure Row (W : World) (base g : Nat) (l : List Int) : Prop where
  bl : ∃ cs : Array Value, W.heap[g]? = some (.cells cs 5 (0, 0)) ∧ ∀ i, i < l.length → cs[i]? = some (.int .u8 (l.getD i 0))
  ge : base ≤ g
theorem Row.keep {W W' : World} {base g : Nat} {l : List Int} (h : Row W base g l) (hk : W'.heap[g]? = W.heap[g]?) : Row W' base g l := by
  obtain ⟨⟨cs, h1, h2⟩, h3⟩ := h
  exact ⟨⟨cs, hk.trans h1, h2⟩, h3⟩
theorem Row.at_ {W : World} {base g : Nat} {l : List Int} (h : Row W base g l) (i : Nat) (hi : i < l.length) : W.cell? ⟨g, i, none⟩ = some (.int .u8 (l.getD i 0)) := by
  obtain ⟨⟨cs, h1, h2⟩, _⟩ := h
  rw [blk_cell h1, h2 i hi]
theorem Row.frozen {W : World} {base g : Nat} {l : List Int} (h : Row W base g l) (i : Nat) : W.frozen? ⟨g, i, none⟩ = false := by
  obtain ⟨⟨cs, h1, h2⟩, _⟩ := h
  exact blk_frozen h1 i
theorem Row.lt {W : World} {base g : Nat} {l : List Int} (h : Row W base g l) : g < W.heap.size := by
  obtain ⟨⟨cs, h1, h2⟩, _⟩ := h
  exact blk_lt h1
theorem Row.set_ {W : World} {base g : Nat} {l : List Int} (h : Row W base g l) (q : Nat) (hq : q < l.length) (x : Int) : Row (W.setCell ⟨g, q, none⟩ (.int .u8 x)) base g (l.set q x) := by
  obtain ⟨⟨cs, h1, h2⟩, h3⟩ := h
  refine ⟨⟨_, blk_set h1 q (.int .u8 x), fun i hi => ?_⟩, h3⟩
  rw [List.length_set] at hi
  have hq2 : q < cs.size := (Array.getElem?_eq_some_iff.1 (h2 q hq)).1
  rw [Array.getElem?_setIfInBounds, List.getD_eq_getElem?_getD, List.getElem?_set]
  by_cases e : q = i
  · subst e; simp [hq, hq2]
  · rw [if_neg e, if_neg e, h2 i hi, List.getD_eq_getElem?_getD]
theorem Row.far {W : World} {base g : Nat} {l : List Int} (h : Row W base g l) {p : Addr} (hp : g ≠ p.block) (x : Value) : Row (W.setCell p x) base g l := h.keep (Below.heap_setCell W p x g hp)
theorem Row.C {W : World} {base g : Nat} {l : List Int} (h : Row W base g l) (hm : l.length ≤ 9223372036854775807) : Kd.C (Kd.int .u8) W (some ⟨g, 0, none⟩) l.length l := by
  refine ⟨rfl, hm, fun _ => ⟨⟨g, 0, none⟩, rfl, fun j p hp => ⟨[.int .u8 p], rfl, rfl, fun i u hu => ?_⟩⟩⟩
  have hj := (List.getElem?_eq_some_iff.1 hp).1
  obtain rfl : i = 0 := by
    have := (List.getElem?_eq_some_iff.1 hu).1
    simp at this; exact this
  simp at hu
  subst hu
  rw [show j * (Kd.int .u8).sz + 0 = j from by show j * 1 + 0 = j; omega, add_plain, h.at_ j hj, List.getD_eq_getElem?_getD, hp]
  rfl
theorem Row.of_R {W : World} {base : Nat} {v : Value} {l : List Int} (h : Kd.R (Kd.int .u8) 5 W base (fun _ => True) v l) (h0 : 0 < l.length) : ∃ g c, v = .slice (some ⟨g, 0, none⟩) l.length c ∧ l.length ≤ c ∧ Row W base g l := by
  obtain ⟨A, c, rfl, hc, hC⟩ := Kd.R_reads h
  obtain ⟨inner, ho⟩ := Kd.R_own h
  rcases ho.2 with ⟨e, h1⟩ | ⟨g, cap, cur, e, hb, hh, _⟩
  · injection e with e1 e2 e3
    omega
  · injection e with e1 e2 e3
    subst e1
    refine ⟨g, c, rfl, hc, ⟨cur, hh, fun i hi => ?_⟩, hb⟩
    obtain ⟨ad, eA, hcx⟩ := (readsInt_of.2 (Kd.reads_of_C (d := (0 : Int)) hC)).at_ (i : Int) (by omega) (by omega)
    injection eA with eA
    subst eA
    rw [Int.toNat_natCast, add_plain, blk_cell hh] at hcx
    rw [hcx]
    unfold rd
    simp
end Go.Proofs.Ytfkfpeiocdjniaa.Ec
