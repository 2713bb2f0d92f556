/- The law CrcSums: what its functions tell of any pieces, and the call of the law itself. Conditions: the pieces are of octets. -/
import Derived.Test.YtdcljkdbdjbjiaaWalkCrcSums
import Derived.Test.YtdcljkdbdjbjiaaCrc
namespace Go.Proofs.Ytdcljkdbdjbjiaa.Pure
open Go.RowKit Go.Proofs.Ytdcljkdbdjbjiaa.PCrcSums Go.Proofs.YtdcljkdbdjbjiaaW.PrintWords Go.Proofs.YtdcljkdbdjbjiaaW.PrintLast Go.Proofs.YtdcljkdbdjbjiaaW.PrintMore Go.Proofs.Ytdcljkdbdjbjiaa.Math Go.Proofs.Ytdcljkdbdjbjiaa
/-! ### crc.step32, crc.Sum32, by bits -/
theorem and1_32 (s : Nat) (h : s < 2 ^ 32) : Go.bits .and .u32 (s : Int) 1 = ((s % 2 : Nat) : Int) := by
  have := Math.bits_and .u32 rfl s 1 h (by decide)
  rw [Nat.and_one_is_mod] at this; exact this
theorem xorP_32 (s : Nat) (h : s < 2 ^ 32) : Go.bits .xor .u32 (s : Int) 3988292384 = ((s ^^^ Crc.P32 : Nat) : Int) :=
  Math.bits_xor .u32 rfl s Crc.P32 h Crc.P32_lt
def it32 : Nat → Nat → Nat
  | 0, s => s
  | d + 1, s => it32 d (Crc.z32 s)
theorem step32_ev : ∀ (d : Nat) (s : Nat) (i : Int), s < 2 ^ 32 → 0 ≤ i → 8 - i = d → Ev (fun k => crc_step32.l0 k (s : Int) i) ((it32 d s : Nat) : Int)
  | 0, s, i, hs, h0, hd => by
    refine Ev.step (f := fun _ => some _) (fun k => ?_) (Ev.now _)
    simp only [crc_step32.l0]; rw [if_neg (by omega)]; rfl
  | d + 1, s, i, hs, h0, hd => by
    have ih := step32_ev d (Crc.z32 s) (i + 1) (Crc.z32_lt hs) (by omega) (by omega)
    refine Ev.step (fun k => ?_) ih
    have e2 : ((s : Int) / 2) = ((s / 2 : Nat) : Int) := by simp
    simp only [crc_step32.l0]
    rw [if_pos (by omega), and1_32 s hs, e2, xorP_32 _ (by omega), w64 (n := i + 1) (by omega) (by omega)]
    unfold Crc.z32
    by_cases h : s % 2 = 1
    · rw [if_pos (by omega), if_pos h]
    · rw [if_neg (by omega), if_neg h]
theorem step32_f (s : Nat) (x : Int) (hs : s < 2 ^ 32) (h0 : 0 ≤ x) (h1 : x < 256) : Ev (fun k => crc_step32.f k (s : Int) x) (((Crc.lo x.toNat).foldl Crc.b32 s : Nat) : Int) := by
  obtain ⟨n, rfl⟩ := Int.eq_ofNat_of_zero_le h0
  have hn : n < 256 := by omega
  rw [Int.toNat_natCast, ← Crc.by32_bits s n hn]
  have hx : s ^^^ n < 2 ^ 32 := Nat.xor_lt_two_pow hs (by omega)
  have := step32_ev 8 (s ^^^ n) 0 hx (by omega) (by omega)
  refine Ev.congr (fun k => ?_) this
  unfold crc_step32.f
  rw [show ((n : Int) % 4294967296) = (n : Int) from by omega, Math.bits_xor .u32 rfl s n hs (by show n < 2 ^ 32; omega)]
def Oct (xs : List Int) : Prop := ∀ x ∈ xs, 0 ≤ x ∧ x < 256
def nats (xs : List Int) : List Nat := xs.map Int.toNat
theorem rdL1_mid (pre : List (List Int)) (w : List Int) (ws : List (List Int)) : rd_L1 (pre ++ w :: ws) (pre.length : Int) = w := by
  unfold rd_L1; simp
theorem sum32_row (ls : List (List Int)) (n j : Int) (r : Int) : ∀ (xs pre : List Int) (s : Nat), s < 2 ^ 32 → Oct xs → pre.length + xs.length ≤ 1000000000000 → 
    Ev (fun k => crc_Sum32.l0 k ((Crc.c32 s (nats xs) : Nat) : Int) ls n (wrap64 (j + 1))) r →
    Ev (fun k => crc_Sum32.l1 k (s : Int) ls n j (pre ++ xs) ((pre ++ xs).length : Int) (pre.length : Int)) r
  | [], pre, s, hs, ho, hb, h => by
    refine Ev.step (fun k => ?_) h
    simp only [crc_Sum32.l1, List.append_nil]; rw [if_neg (by omega)]; rfl
  | x :: xs, pre, s, hs, ho, hb, h => by
    simp only [List.length_cons] at hb
    have hlen : (pre ++ x :: xs).length = pre.length + xs.length + 1 := by simp; omega
    obtain ⟨hx0, hx1⟩ := ho x List.mem_cons_self
    have hs' : (Crc.lo x.toNat).foldl Crc.b32 s < 2 ^ 32 := Crc.f32_lt _ hs
    have ih := sum32_row ls n j r xs (pre ++ [x]) ((Crc.lo x.toNat).foldl Crc.b32 s) hs' (fun y hy => ho y (List.mem_cons_of_mem _ hy)) (by simp; omega) (by
      have e : Crc.c32 s (nats (x :: xs)) = Crc.c32 ((Crc.lo x.toNat).foldl Crc.b32 s) (nats xs) := Crc.c32_cons _ _ _
      rw [← e]; exact h)
    have e1 : pre ++ [x] ++ xs = pre ++ x :: xs := by simp
    have e2 : ((pre ++ [x]).length : Int) = (pre.length : Int) + 1 := by simp
    rw [e1, e2] at ih
    refine Ev.step (f := fun k => (crc_step32.f k (s : Int) x).bind fun t => crc_Sum32.l1 k t ls n j (pre ++ x :: xs) ((pre ++ x :: xs).length : Int) ((pre.length : Int) + 1)) (fun k => ?_) (Ev.bind (step32_f s x hs hx0 hx1) ih)
    simp only [crc_Sum32.l1, hlen, rd_mid]
    rw [if_pos (by omega), if_pos (by omega), if_pos (by omega), w64 (n := (pre.length : Int) + 1) (by omega) (by omega)]
theorem sum32_ev : ∀ (L P : List (List Int)) (s : Nat), s < 2 ^ 32 → (∀ xs ∈ L, Oct xs ∧ xs.length ≤ 1000000000) → P.length + L.length ≤ 1000000000 →
    Ev (fun k => crc_Sum32.l0 k (s : Int) (P ++ L) ((P ++ L).length : Int) (P.length : Int)) (Go.bits .xor .u32 4294967295 ((Crc.c32 s (nats L.flatten) : Nat) : Int))
  | [], P, s, hs, ho, hb => by
    refine Ev.step (f := fun _ => some _) (fun k => ?_) (Ev.now _)
    simp only [crc_Sum32.l0, List.append_nil]; rw [if_neg (by omega)]; rfl
  | xs :: L, P, s, hs, ho, hb => by
    simp only [List.length_cons] at hb
    have hlen : (P ++ xs :: L).length = P.length + L.length + 1 := by simp; omega
    obtain ⟨hx, hl⟩ := ho xs List.mem_cons_self
    have ih := sum32_ev L (P ++ [xs]) (Crc.c32 s (nats xs)) (Crc.c32_lt _ hs) (fun y hy => ho y (List.mem_cons_of_mem _ hy)) (by simp; omega)
    have e1 : P ++ [xs] ++ L = P ++ xs :: L := by simp
    have e2 : ((P ++ [xs]).length : Int) = wrap64 ((P.length : Int) + 1) := by rw [w64 (n := (P.length : Int) + 1) (by omega) (by omega)]; simp
    have e3 : Crc.c32 (Crc.c32 s (nats xs)) (nats L.flatten) = Crc.c32 s (nats (xs :: L).flatten) := by
      rw [← Crc.c32_append]; simp [nats]
    rw [e1, e2, e3] at ih
    have h1 := sum32_row (P ++ xs :: L) ((P ++ xs :: L).length : Int) (P.length : Int) _ xs [] s hs hx (by simp; omega) ih
    refine Ev.step (fun k => ?_) h1
    simp only [crc_Sum32.l0, hlen, rdL1_mid]
    rw [if_pos (by omega), if_pos (by omega), if_pos (by omega)]; rfl
theorem ones32 (s : Nat) (h : s < 2 ^ 32) : Go.bits .xor .u32 4294967295 (s : Int) = 4294967295 - s := by
  have h1 := Math.bits_xor .u32 rfl 4294967295 s (by decide) h
  have h2 : 4294967295 ^^^ s = 2 ^ 32 - (s + 1) := by
    apply Nat.eq_of_testBit_eq
    intro i
    rw [Nat.testBit_two_pow_sub_succ h, Nat.testBit_xor, show (4294967295 : Nat) = 2 ^ 32 - 1 from rfl, Nat.testBit_two_pow_sub_one]
    by_cases hi : i < 32
    · simp [hi]
    · have := Nat.testBit_lt_two_pow (Nat.lt_of_lt_of_le h (Nat.pow_le_pow_right (by decide) (by omega : 32 ≤ i)))
      simp [hi, this]
  rw [h2] at h1
  refine h1.trans ?_
  omega
def S32 (xs : List Int) : Int := 4294967295 - ((Crc.c32 4294967295 (nats xs) : Nat) : Int)
theorem sum32_f (L : List (List Int)) (ho : ∀ xs ∈ L, Oct xs ∧ xs.length ≤ 1000000000) (hb : L.length ≤ 1000000000) : Ev (fun k => crc_Sum32.f k L) (S32 L.flatten) := by
  have := sum32_ev L [] 4294967295 (by decide) ho (by simpa using hb)
  rw [ones32 _ (Crc.c32_lt _ (by decide))] at this
  exact this
theorem S32_range (xs : List Int) : 0 ≤ S32 xs ∧ S32 xs < 4294967296 := by
  have := Crc.c32_lt (s := 4294967295) (nats xs) (by decide)
  unfold S32; omega
/-! ### crc.step16, crc.Sum16, by bits -/
theorem and_top (s : Nat) (h : s < 65536) : (Go.bits .and .u16 (s : Int) 32768 = 0) ↔ s / 32768 = 0 := by
  have h1 := Math.bits_and .u16 rfl s 32768 h (by decide)
  have h2 : (s &&& 32768 = 0) ↔ s / 32768 = 0 := by
    constructor
    · intro e
      have e1 : (s &&& 2 ^ 15).testBit 15 = false := by rw [show (2 : Nat) ^ 15 = 32768 from rfl, e]; simp
      rw [Nat.testBit_and, Nat.testBit_two_pow_self, Bool.and_true] at e1
      rcases Crc.bit_cases (a := s / 32768) (by omega) with q | q
      · exact q
      · have : s.testBit 15 = true := by rw [Nat.testBit_eq_decide_div_mod_eq]; simp; omega
        rw [this] at e1; cases e1
    · intro e
      have hs : s < 2 ^ 15 := by show s < 32768; omega
      apply Nat.eq_of_testBit_eq
      intro i
      rw [Nat.testBit_and, show (32768 : Nat) = 2 ^ 15 from rfl, Nat.testBit_two_pow]
      by_cases hi : 15 = i
      · subst hi; simp [Nat.testBit_lt_two_pow hs]
      · simp [hi]
  rw [← h2]
  constructor
  · intro e; have := h1.symm.trans e; exact_mod_cast this
  · intro e; exact h1.trans (by rw [e]; rfl)
theorem xorP_16 (s : Nat) (h : s < 65536) : Go.bits .xor .u16 (s : Int) 4129 = ((s ^^^ Crc.P16 : Nat) : Int) :=
  Math.bits_xor .u16 rfl s Crc.P16 h Crc.P16_lt
theorem twice_16 (s : Nat) : IntKind.u16.wrap ((s : Int) * 2) = ((s * 2 % 65536 : Nat) : Int) := by
  rw [Math.wrap_u .u16 rfl]; show (s : Int) * 2 % 65536 = _; omega
def it16 : Nat → Nat → Nat
  | 0, s => s
  | d + 1, s => it16 d (Crc.z16 s)
theorem step16_ev : ∀ (d : Nat) (s : Nat) (i : Int), s < 65536 → 0 ≤ i → 8 - i = d → Ev (fun k => crc_step16.l0 k (s : Int) i) ((it16 d s : Nat) : Int)
  | 0, s, i, hs, h0, hd => by
    refine Ev.step (f := fun _ => some _) (fun k => ?_) (Ev.now _)
    simp only [crc_step16.l0]; rw [if_neg (by omega)]; rfl
  | d + 1, s, i, hs, h0, hd => by
    have ih := step16_ev d (Crc.z16 s) (i + 1) (Crc.z16_lt s) (by omega) (by omega)
    refine Ev.step (fun k => ?_) ih
    have ht := and_top s hs
    simp only [crc_step16.l0]
    rw [if_pos (by omega), twice_16, xorP_16 _ (by omega), w64 (n := i + 1) (by omega) (by omega)]
    unfold Crc.z16
    by_cases h : s / 32768 = 0
    · rw [if_pos (ht.mpr h), if_pos h]
    · rw [if_neg (fun e => h (ht.mp e)), if_neg h]
theorem step16_f (s : Nat) (x : Int) (hs : s < 65536) (h0 : 0 ≤ x) (h1 : x < 256) : Ev (fun k => crc_step16.f k (s : Int) x) (((Crc.hi x.toNat).foldl Crc.b16 s : Nat) : Int) := by
  obtain ⟨n, rfl⟩ := Int.eq_ofNat_of_zero_le h0
  have hn : n < 256 := by omega
  rw [Int.toNat_natCast, ← Crc.by16_bits s n hs hn]
  have hx : s ^^^ (n * 256) < 2 ^ 16 := Nat.xor_lt_two_pow hs (by omega)
  have := step16_ev 8 (s ^^^ (n * 256)) 0 hx (by omega) (by omega)
  refine Ev.congr (fun k => ?_) this
  unfold crc_step16.f
  have e1 : IntKind.u16.wrap (n : Int) = n := u16_fit (by omega) (by omega)
  have e2 : IntKind.u16.wrap ((n : Int) * 256) = ((n * 256 : Nat) : Int) := by rw [u16_fit (by omega) (by omega)]; simp
  rw [e1, e2, Math.bits_xor .u16 rfl s (n * 256) hs (by show n * 256 < 2 ^ 16; omega)]
theorem sum16_row (ls : List (List Int)) (n j : Int) (r : Int) : ∀ (xs pre : List Int) (s : Nat), s < 65536 → Oct xs → pre.length + xs.length ≤ 1000000000000 → 
    Ev (fun k => crc_Sum16.l0 k ((Crc.c16 s (nats xs) : Nat) : Int) ls n (wrap64 (j + 1))) r →
    Ev (fun k => crc_Sum16.l1 k (s : Int) ls n j (pre ++ xs) ((pre ++ xs).length : Int) (pre.length : Int)) r
  | [], pre, s, hs, ho, hb, h => by
    refine Ev.step (fun k => ?_) h
    simp only [crc_Sum16.l1, List.append_nil]; rw [if_neg (by omega)]; rfl
  | x :: xs, pre, s, hs, ho, hb, h => by
    simp only [List.length_cons] at hb
    have hlen : (pre ++ x :: xs).length = pre.length + xs.length + 1 := by simp; omega
    obtain ⟨hx0, hx1⟩ := ho x List.mem_cons_self
    have hs' : (Crc.hi x.toNat).foldl Crc.b16 s < 65536 := Crc.f16_lt _ hs
    have ih := sum16_row ls n j r xs (pre ++ [x]) ((Crc.hi x.toNat).foldl Crc.b16 s) hs' (fun y hy => ho y (List.mem_cons_of_mem _ hy)) (by simp; omega) (by
      have e : Crc.c16 s (nats (x :: xs)) = Crc.c16 ((Crc.hi x.toNat).foldl Crc.b16 s) (nats xs) := Crc.c16_cons _ _ _
      rw [← e]; exact h)
    have e1 : pre ++ [x] ++ xs = pre ++ x :: xs := by simp
    have e2 : ((pre ++ [x]).length : Int) = (pre.length : Int) + 1 := by simp
    rw [e1, e2] at ih
    refine Ev.step (f := fun k => (crc_step16.f k (s : Int) x).bind fun t => crc_Sum16.l1 k t ls n j (pre ++ x :: xs) ((pre ++ x :: xs).length : Int) ((pre.length : Int) + 1)) (fun k => ?_) (Ev.bind (step16_f s x hs hx0 hx1) ih)
    simp only [crc_Sum16.l1, hlen, rd_mid]
    rw [if_pos (by omega), if_pos (by omega), if_pos (by omega), w64 (n := (pre.length : Int) + 1) (by omega) (by omega)]
theorem sum16_ev : ∀ (L P : List (List Int)) (s : Nat), s < 65536 → (∀ xs ∈ L, Oct xs ∧ xs.length ≤ 1000000000) → P.length + L.length ≤ 1000000000 →
    Ev (fun k => crc_Sum16.l0 k (s : Int) (P ++ L) ((P ++ L).length : Int) (P.length : Int)) ((Crc.c16 s (nats L.flatten) : Nat) : Int)
  | [], P, s, hs, ho, hb => by
    refine Ev.step (f := fun _ => some _) (fun k => ?_) (Ev.now _)
    simp only [crc_Sum16.l0, List.append_nil]; rw [if_neg (by omega)]; rfl
  | xs :: L, P, s, hs, ho, hb => by
    simp only [List.length_cons] at hb
    have hlen : (P ++ xs :: L).length = P.length + L.length + 1 := by simp; omega
    obtain ⟨hx, hl⟩ := ho xs List.mem_cons_self
    have ih := sum16_ev L (P ++ [xs]) (Crc.c16 s (nats xs)) (Crc.c16_lt _ hs) (fun y hy => ho y (List.mem_cons_of_mem _ hy)) (by simp; omega)
    have e1 : P ++ [xs] ++ L = P ++ xs :: L := by simp
    have e2 : ((P ++ [xs]).length : Int) = wrap64 ((P.length : Int) + 1) := by rw [w64 (n := (P.length : Int) + 1) (by omega) (by omega)]; simp
    have e3 : Crc.c16 (Crc.c16 s (nats xs)) (nats L.flatten) = Crc.c16 s (nats (xs :: L).flatten) := by
      rw [← Crc.c16_append]; simp [nats]
    rw [e1, e2, e3] at ih
    have h1 := sum16_row (P ++ xs :: L) ((P ++ xs :: L).length : Int) (P.length : Int) _ xs [] s hs hx (by simp; omega) ih
    refine Ev.step (fun k => ?_) h1
    simp only [crc_Sum16.l0, hlen, rdL1_mid]
    rw [if_pos (by omega), if_pos (by omega), if_pos (by omega)]; rfl
def S16 (xs : List Int) : Int := ((Crc.c16 65535 (nats xs) : Nat) : Int)
theorem sum16_f (L : List (List Int)) (ho : ∀ xs ∈ L, Oct xs ∧ xs.length ≤ 1000000000) (hb : L.length ≤ 1000000000) : Ev (fun k => crc_Sum16.f k L) (S16 L.flatten) :=
  sum16_ev L [] 65535 (by decide) ho (by simpa using hb)
theorem S16_range (xs : List Int) : 0 ≤ S16 xs ∧ S16 xs < 65536 := by
  have : Crc.c16 65535 (nats xs) < 65536 := Crc.c16_lt (s := 65535) (nats xs) (by decide)
  unfold S16; omega
/-! ### the document's sums of a text -/
def nb (s : ByteArray) : List Nat := s.data.toList.map UInt8.toNat
theorem nb_length (s : ByteArray) : (nb s).length = s.size := by unfold nb; rw [List.length_map, Array.length_toList]; rfl
theorem bt_nb (s : ByteArray) (i : Nat) (h : i < s.size) : bt s (i : Int) = (((nb s).getD i 0 : Nat) : Int) := by
  unfold bt
  rw [dif_pos (by simpa using h)]
  simp [nb, List.getD_eq_getElem?_getD, ByteArray.getElem_eq_getElem_data, h]
theorem nb_lt (s : ByteArray) (i : Nat) : (nb s).getD i 0 < 256 := by
  rw [List.getD_eq_getElem?_getD]
  rcases h : (nb s)[i]? with _ | x
  · simp
  · have hm := List.mem_of_getElem? h
    simp only [nb, List.mem_map] at hm
    obtain ⟨u, _, rfl⟩ := hm
    exact u.toNat_lt
theorem los_get : ∀ (l : List Nat) (i : Nat), i < 8 * l.length → (Crc.los l)[i]? = some (l.getD (i / 8) 0 / 2 ^ (i % 8) % 2)
  | [], i, h => by simp at h
  | x :: l, i, h => by
    simp only [List.length_cons] at h
    have e : Crc.los (x :: l) = Crc.lo x ++ Crc.los l := by simp [Crc.los]
    rw [e]
    by_cases hi : i < 8
    · rw [List.getElem?_append_left (by simp [Crc.lo]; omega)]
      have : i / 8 = 0 := by omega
      rw [this, show i % 8 = i from by omega]
      rcases i with _ | _ | _ | _ | _ | _ | _ | _ | i <;> first | omega | simp [Crc.lo]
    · rw [List.getElem?_append_right (by simp [Crc.lo]; omega), show i - (Crc.lo x).length = i - 8 from by simp [Crc.lo], los_get l (i - 8) (by omega)]
      rw [show (i - 8) % 8 = i % 8 from by omega, show i / 8 = (i - 8) / 8 + 1 from by omega]; rfl
theorem his_get : ∀ (l : List Nat) (i : Nat), i < 8 * l.length → (Crc.his l)[i]? = some (l.getD (i / 8) 0 / 2 ^ (7 - i % 8) % 2)
  | [], i, h => by simp at h
  | x :: l, i, h => by
    simp only [List.length_cons] at h
    have e : Crc.his (x :: l) = Crc.hi x ++ Crc.his l := by simp [Crc.his]
    rw [e]
    by_cases hi : i < 8
    · rw [List.getElem?_append_left (by simp [Crc.hi]; omega)]
      have : i / 8 = 0 := by omega
      rw [this, show i % 8 = i from by omega]
      rcases i with _ | _ | _ | _ | _ | _ | _ | _ | i <;> first | omega | simp [Crc.hi]
    · rw [List.getElem?_append_right (by simp [Crc.hi]; omega), show i - (Crc.hi x).length = i - 8 from by simp [Crc.hi], his_get l (i - 8) (by omega)]
      rw [show (i - 8) % 8 = i % 8 from by omega, show i / 8 = (i - 8) / 8 + 1 from by omega]; rfl
theorem los_length (l : List Nat) : (Crc.los l).length = 8 * l.length := by
  induction l with
  | nil => rfl
  | cons x l ih =>
    have e : Crc.los (x :: l) = Crc.lo x ++ Crc.los l := by simp [Crc.los]
    rw [e, List.length_append, ih]; simp [Crc.lo]; omega
theorem his_length (l : List Nat) : (Crc.his l).length = 8 * l.length := by
  induction l with
  | nil => rfl
  | cons x l ih =>
    have e : Crc.his (x :: l) = Crc.hi x ++ Crc.his l := by simp [Crc.his]
    rw [e, List.length_append, ih]; simp [Crc.hi]; omega
theorem drop_get {α : Type} {l : List α} {i : Nat} {a : α} (h : l[i]? = some a) : l.drop i = a :: l.drop (i + 1) := by
  obtain ⟨hl, e⟩ := List.getElem?_eq_some_iff.1 h
  rw [← e]; exact List.drop_eq_getElem_cons hl
theorem shr8 (x n : Nat) (hn : n ≤ 7) : shr .u8 (x : Int) (n : Int) = ((x / 2 ^ n : Nat) : Int) := by
  unfold shr
  rw [Int.toNat_natCast, Nat.min_eq_left (by show n ≤ 8; omega)]; simp
theorem and1_nat32 (x : Nat) (h : x < 256) : Go.bits .and .u32 (x : Int) 1 = ((x % 2 : Nat) : Int) := by
  have := Math.bits_and .u32 rfl x 1 (by show x < 2 ^ 32; omega) (by decide)
  rw [Nat.and_one_is_mod] at this; exact this
theorem and1_nat16 (x : Nat) (h : x < 256) : Go.bits .and .u16 (x : Int) 1 = ((x % 2 : Nat) : Int) := by
  have := Math.bits_and .u16 rfl x 1 (by show x < 2 ^ 16; omega) (by decide)
  rw [Nat.and_one_is_mod] at this; exact this
theorem div_pow_lt {x : Nat} (n : Nat) (h : x < 256) : x / 2 ^ n < 256 := Nat.lt_of_le_of_lt (Nat.div_le_self _ _) h
theorem nb_str (xs : List Int) (h : Oct xs) : nb (strOfNums xs) = nats xs := by
  simp only [nb, strOfNums, nats, List.map_map]
  apply List.map_congr_left
  intro x hx
  obtain ⟨h0, h1⟩ := h x hx
  simp [UInt8.toNat_ofNat']
  omega
theorem str_size (xs : List Int) : (strOfNums xs).size = xs.length := by simp [strOfNums, ByteArray.size]
theorem ref32_ev (s : ByteArray) (hb : s.size ≤ 1000000000) : ∀ (d i r : Nat), r < 2 ^ 32 → i + d = 8 * s.size →
    Ev (fun k => cantleref02_Sum32.l0 k s (r : Int) (i : Int)) (4294967295 - ((((Crc.los (nb s)).drop i).foldl Crc.b32 r : Nat) : Int))
  | 0, i, r, hr, hd => by
    rw [List.drop_of_length_le (by rw [los_length, nb_length]; omega)]
    refine Ev.step (f := fun _ => some _) (fun k => ?_) (Ev.now _)
    simp only [cantleref02_Sum32.l0, List.foldl_nil]
    rw [w64 (n := 8 * (s.size : Int)) (by omega) (by omega), if_neg (by omega), Int.emod_eq_of_lt (by omega) (by omega)]
  | d + 1, i, r, hr, hd => by
    have hi : i < 8 * (nb s).length := by rw [nb_length]; omega
    have hg := drop_get (los_get (nb s) i hi)
    rw [hg, List.foldl_cons]
    have ih := ref32_ev s hb d (i + 1) (Crc.b32 r ((nb s).getD (i / 8) 0 / 2 ^ (i % 8) % 2)) (Crc.b32_lt hr) (by omega)
    refine Ev.step (fun k => ?_) ih
    have q1 : Int.tdiv (i : Int) 8 = ((i / 8 : Nat) : Int) := by rw [Int.tdiv_eq_ediv_of_nonneg (by omega)]; omega
    have q2 : Int.tmod (i : Int) 8 = ((i % 8 : Nat) : Int) := by rw [Int.tmod_eq_emod_of_nonneg (by omega)]; omega
    have q3 : Int.tdiv (r : Int) 2 % 4294967296 = ((r / 2 : Nat) : Int) := by rw [Int.tdiv_eq_ediv_of_nonneg (by omega)]; omega
    have hx := nb_lt s (i / 8)
    have q4 : bt s ((i / 8 : Nat) : Int) = (((nb s).getD (i / 8) 0 : Nat) : Int) := bt_nb s (i / 8) (by omega)
    generalize hX : (nb s).getD (i / 8) 0 = X at *
    have q5 : (((X / 2 ^ (i % 8) : Nat) : Int)) % 4294967296 = ((X / 2 ^ (i % 8) : Nat) : Int) := by
      have hy := div_pow_lt (i % 8) hx
      generalize X / 2 ^ (i % 8) = Y at hy ⊢
      omega
    have h8 : i / 8 < s.size := by omega
    clear hg hi ih
    simp only [cantleref02_Sum32.l0]
    rw [w64 (n := 8 * (s.size : Int)) (by omega) (by omega), if_pos (by omega), q1, w64 (n := ((i / 8 : Nat) : Int)) (by omega) (by omega), if_pos (by omega), if_pos (by omega), q2, if_pos (by omega), q4, shr8 _ _ (by omega), q5, and1_nat32 _ (div_pow_lt _ hx), and1_32 r hr, q3, xorP_32 _ (by omega), w64 (n := (i : Int) + 1) (by omega) (by omega)]
    unfold Crc.b32
    by_cases h : X / 2 ^ (i % 8) % 2 = r % 2
    · rw [if_pos (by rw [h]), if_pos h]; rfl
    · rw [if_neg (fun e => h (by exact_mod_cast e)), if_neg h]; rfl
theorem ref32_f (s : ByteArray) (hb : s.size ≤ 1000000000) : Ev (fun k => cantleref02_Sum32.f k s) (4294967295 - ((Crc.c32 4294967295 (nb s) : Nat) : Int)) :=
  ref32_ev s hb (8 * s.size) 0 4294967295 (by decide) (by omega)
theorem ref16_ev (s : ByteArray) (hb : s.size ≤ 1000000000) : ∀ (d i r : Nat), r < 65536 → i + d = 8 * s.size →
    Ev (fun k => cantleref02_Sum16.l0 k s (r : Int) (i : Int)) ((((Crc.his (nb s)).drop i).foldl Crc.b16 r : Nat) : Int)
  | 0, i, r, hr, hd => by
    rw [List.drop_of_length_le (by rw [his_length, nb_length]; omega)]
    refine Ev.step (f := fun _ => some _) (fun k => ?_) (Ev.now _)
    simp only [cantleref02_Sum16.l0, List.foldl_nil]
    rw [w64 (n := 8 * (s.size : Int)) (by omega) (by omega), if_neg (by omega)]
  | d + 1, i, r, hr, hd => by
    have hi : i < 8 * (nb s).length := by rw [nb_length]; omega
    have hg := drop_get (his_get (nb s) i hi)
    rw [hg, List.foldl_cons]
    have ih := ref16_ev s hb d (i + 1) (Crc.b16 r ((nb s).getD (i / 8) 0 / 2 ^ (7 - i % 8) % 2)) (Crc.b16_lt _ _) (by omega)
    refine Ev.step (fun k => ?_) ih
    have q1 : Int.tdiv (i : Int) 8 = ((i / 8 : Nat) : Int) := by rw [Int.tdiv_eq_ediv_of_nonneg (by omega)]; omega
    have q2 : wrap64 (7 - Int.tmod (i : Int) 8) = ((7 - i % 8 : Nat) : Int) := by rw [Int.tmod_eq_emod_of_nonneg (by omega), w64 (by omega) (by omega)]; omega
    have q3 : IntKind.u16.wrap (Int.tdiv (r : Int) 32768) = ((r / 32768 : Nat) : Int) := by rw [Int.tdiv_eq_ediv_of_nonneg (by omega), u16_fit (by omega) (by omega)]; simp
    have hx := nb_lt s (i / 8)
    have q4 : bt s ((i / 8 : Nat) : Int) = (((nb s).getD (i / 8) 0 : Nat) : Int) := bt_nb s (i / 8) (by omega)
    generalize hX : (nb s).getD (i / 8) 0 = X at *
    have q5 : IntKind.u16.wrap ((X / 2 ^ (7 - i % 8) : Nat) : Int) = ((X / 2 ^ (7 - i % 8) : Nat) : Int) := by
      have hy := div_pow_lt (7 - i % 8) hx
      generalize X / 2 ^ (7 - i % 8) = Y at hy ⊢
      exact u16_fit (by omega) (by omega)
    have h8 : i / 8 < s.size := by omega
    clear hg hi ih
    simp only [cantleref02_Sum16.l0]
    rw [w64 (n := 8 * (s.size : Int)) (by omega) (by omega), if_pos (by omega), q1, w64 (n := ((i / 8 : Nat) : Int)) (by omega) (by omega), if_pos (by omega), if_pos (by omega), q2, if_pos (by omega), q4, shr8 _ _ (by omega), q5, and1_nat16 _ (div_pow_lt _ hx), q3, twice_16, xorP_16 _ (by omega), w64 (n := (i : Int) + 1) (by omega) (by omega)]
    unfold Crc.b16
    by_cases h : X / 2 ^ (7 - i % 8) % 2 = r / 32768
    · rw [if_pos (by rw [h]), if_pos h]; rfl
    · rw [if_neg (fun e => h (by exact_mod_cast e)), if_neg h]; rfl
theorem ref16_f (s : ByteArray) (hb : s.size ≤ 1000000000) : Ev (fun k => cantleref02_Sum16.f k s) ((Crc.c16 65535 (nb s) : Nat) : Int) :=
  ref16_ev s hb (8 * s.size) 0 65535 (by decide) (by omega)
def few (l : List (List Int)) (n : Nat) : Bool := l.all (fun x => decide (x.length ≤ 200)) && decide (n ≤ 20)
theorem few_ev (x0 : List (List Int)) : ∀ (L P : List (List Int)), P.length + L.length ≤ 9223372036854775807 → Ev (fun k => cantlelaw02_few.l0 k x0 (P ++ L) ((P ++ L).length : Int) (P.length : Int)) (few L x0.length)
  | [], P, hb => by
    refine Ev.step (f := fun _ => some _) (fun k => ?_) (Ev.now _)
    simp only [cantlelaw02_few.l0, List.append_nil]; rw [if_neg (by omega)]
    congr 1
    unfold few
    rw [List.all_nil, Bool.true_and, decide_eq_decide]; omega
  | x :: L, P, hb => by
    simp only [List.length_cons] at hb
    have hlen : (P ++ x :: L).length = P.length + L.length + 1 := by simp; omega
    have hr : rd_L1 (P ++ x :: L) (P.length : Int) = x := rdL1_mid P x L
    by_cases h : (x.length : Int) > 200
    · have e : few (x :: L) x0.length = false := by
        unfold few
        rw [List.all_cons, decide_eq_false (by omega : ¬ x.length ≤ 200)]; rfl
      rw [e]
      refine Ev.step (f := fun _ => some _) (fun k => ?_) (Ev.now _)
      simp only [cantlelaw02_few.l0, hlen, hr]
      rw [if_pos (by omega), if_pos (by omega), if_pos (by omega), if_pos h]
    · have e : few (x :: L) x0.length = few L x0.length := by
        unfold few
        rw [List.all_cons, decide_eq_true (by omega : x.length ≤ 200)]; rfl
      rw [e]
      have ih := few_ev x0 L (P ++ [x]) (by simp; omega)
      have e1 : P ++ [x] ++ L = P ++ x :: L := by simp
      have e2 : ((P ++ [x]).length : Int) = (P.length : Int) + 1 := by simp
      rw [e1, e2] at ih
      refine Ev.step (fun k => ?_) ih
      simp only [cantlelaw02_few.l0, hlen, hr]
      rw [if_pos (by omega), if_pos (by omega), if_pos (by omega), if_neg h, w64 (n := (P.length : Int) + 1) (by omega) (by omega)]
theorem few_f (l : List (List Int)) (hb : l.length ≤ 9223372036854775807) : Ev (fun k => cantlelaw02_few.f k l) (few l l.length) :=
  few_ev l l [] (by simpa using hb)
theorem flat_len : ∀ l : List (List Int), (∀ x ∈ l, x.length ≤ 200) → l.flatten.length ≤ 200 * l.length
  | [], _ => by simp
  | x :: l, h => by
    have := flat_len l (fun y hy => h y (List.mem_cons_of_mem _ hy))
    have := h x List.mem_cons_self
    simp only [List.flatten_cons, List.length_append, List.length_cons]; omega
/-- The law's call, of any pieces. -/
theorem sums_calls (A0 : Option Addr) (c0 : Nat) (l : List (List Int)) (w : World) (hr0 : Kd.C (Kd.slice 5 (Kd.int .u8)) w A0 l.length l) (hc0 : l.length ≤ c0) (ho : ∀ xs ∈ l, Oct xs) :
    Calls Try.prog 6 #[.slice A0 l.length c0] w fun e w' => e = .returned (.bool true) ∧ Below w.heap.size w w' := by
  have hf := few_f l hr0.2.1
  rcases hfew : few l l.length with _ | _
  · rw [hfew] at hf
    obtain ⟨k, hk⟩ := Ev.rounds hf
    exact short_calls k A0 c0 l w hr0 hc0 hk
  · rw [hfew] at hf
    unfold few at hfew
    rw [Bool.and_eq_true, decide_eq_true_eq, List.all_eq_true] at hfew
    obtain ⟨h200, h20⟩ := hfew
    have h2 : ∀ x ∈ l, x.length ≤ 200 := fun x hx => of_decide_eq_true (h200 x hx)
    have hfl := flat_len l h2
    have hof : Oct l.flatten := fun x hx => by
      obtain ⟨xs, h1, h3⟩ := List.mem_flatten.1 hx
      exact ho xs h1 x h3
    have a32 := sum32_f l (fun xs hx => ⟨ho xs hx, by have := h2 xs hx; omega⟩) (by omega)
    have a16 := sum16_f l (fun xs hx => ⟨ho xs hx, by have := h2 xs hx; omega⟩) (by omega)
    have b32 := sum32_f [l.flatten] (fun xs hx => by
      obtain rfl : xs = l.flatten := by simpa using hx
      exact ⟨hof, by omega⟩) (by simp)
    have b16 := sum16_f [l.flatten] (fun xs hx => by
      obtain rfl : xs = l.flatten := by simpa using hx
      exact ⟨hof, by omega⟩) (by simp)
    rw [show [l.flatten].flatten = l.flatten from by simp] at b32 b16
    have r32 := ref32_f (strOfNums l.flatten) (by rw [str_size]; omega)
    have r16 := ref16_f (strOfNums l.flatten) (by rw [str_size]; omega)
    rw [nb_str _ hof] at r32 r16
    obtain ⟨k0, q0⟩ := hf
    obtain ⟨k1, q1⟩ := a32
    obtain ⟨k2, q2⟩ := a16
    obtain ⟨k3, q3⟩ := b32
    obtain ⟨k4, q4⟩ := b16
    obtain ⟨k5, q5⟩ := r32
    obtain ⟨k6, q6⟩ := r16
    have hk : ∀ j ∈ [k0, k1, k2, k3, k4, k5, k6], j ≤ k0 + k1 + k2 + k3 + k4 + k5 + k6 := by
      intro j hj
      simp only [List.mem_cons, List.not_mem_nil, or_false] at hj
      omega
    exact long_calls (k0 + k1 + k2 + k3 + k4 + k5 + k6) _ _ A0 c0 l w hr0 hc0 (q0 _ (hk _ (by simp))) hof (by omega) h20
      (q1 _ (hk _ (by simp))) (q5 _ (hk _ (by simp))) (q3 _ (hk _ (by simp))) (q2 _ (hk _ (by simp))) (q6 _ (hk _ (by simp))) (q4 _ (hk _ (by simp)))
end Go.Proofs.Ytdcljkdbdjbjiaa.Pure
