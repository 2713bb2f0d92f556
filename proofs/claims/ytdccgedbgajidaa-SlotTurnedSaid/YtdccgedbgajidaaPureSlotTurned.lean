/- The law SlotTurned of the pure program: a word of which neighbouring bits of the numbers, or bits of the sum, are turned is none's. Conditions: the numbers are of their kinds. -/
import Derived.Test.YtdccgedbgajidaaPSlotTurnedx5
import Derived.Test.YtdccgedbgajidaaCrc
namespace Go.Proofs.Ytdccgedbgajidaa.Pure
open Go.RowKit Go.Proofs.Ytdccgedbgajidaa.PSlotTurned Go.Proofs.YtdccgedbgajidaaW.PrintWords Go.Proofs.YtdccgedbgajidaaW.PrintLast Go.Proofs.Ytdccgedbgajidaa.Math Go.Proofs.Ytdccgedbgajidaa
/-! ### pack.Split, by numbers -/
def sp : Int → Int → List Int → Option (List Int)
  | x, _, [] => if x = 0 then some [] else none
  | x, left, w :: ws => if w < 1 ∨ w > left then none else (sp (x / 2 ^ w.toNat) (left - w) ws).map (x % 2 ^ w.toNat :: ·)
def spR (out : List Int) : Option (List Int) → List Int × Bool
  | some r => (out ++ r, true)
  | none => ([], false)
theorem spR_map (out : List Int) (a : Int) : ∀ o : Option (List Int), spR out (o.map (a :: ·)) = spR (out ++ [a]) o
  | some r => by simp [spR]
  | none => rfl
theorem sp_length : ∀ (ws : List Int) (x left : Int) (r : List Int), sp x left ws = some r → r.length = ws.length
  | [], x, left, r, h => by
    simp only [sp] at h; split at h
    · cases h; rfl
    · cases h
  | w :: ws, x, left, r, h => by
    simp only [sp] at h; split at h
    · cases h
    · obtain ⟨q, hq, rfl⟩ := Option.map_eq_some_iff.mp h
      simp [sp_length ws _ _ q hq]
theorem split_ev : ∀ (ws pre : List Int) (x left : Int) (out : List Int), 0 ≤ x → x < 18446744073709551616 → 0 ≤ left → left ≤ 64 → pre.length + ws.length ≤ 1000000 → out.length ≤ pre.length →
    Ev (fun k => pack_Split.l0 k x out left (pre ++ ws) ((pre ++ ws).length : Int) (pre.length : Int)) (spR out (sp x left ws))
  | [], pre, x, left, out, h0, h1, hl0, hl, hb, ho => by
    refine Ev.step (f := fun _ => some (spR out (sp x left []))) (fun k => ?_) (Ev.now _)
    simp only [pack_Split.l0, List.append_nil]
    rw [if_neg (by omega)]
    simp only [sp]
    split <;> simp [spR]
  | w :: ws, pre, x, left, out, h0, h1, hl0, hl, hb, ho => by
    have hlen : (pre ++ w :: ws).length = pre.length + ws.length + 1 := by simp; omega
    simp only [List.length_cons] at hb
    by_cases hw : w < 1 ∨ w > left
    · refine Ev.step (f := fun _ => some (spR out (sp x left (w :: ws)))) (fun k => ?_) (Ev.now _)
      simp only [pack_Split.l0, rd_mid, hlen]
      rw [if_pos (by omega), if_pos (by omega), if_pos (by omega)]
      simp only [sp, if_pos hw, spR]
      by_cases hw1 : w < 1
      · rw [if_pos hw1]
      · rw [if_neg hw1, if_pos (by omega)]
    · have ih := split_ev ws (pre ++ [w]) (x / 2 ^ w.toNat) (left - w) (out ++ [x % 2 ^ w.toNat])
        (Int.ediv_nonneg h0 (Int.le_of_lt (pow_pos' _))) (Int.lt_of_le_of_lt (Int.ediv_le_self _ h0) h1) (by omega) (by omega) (by simp; omega) (by simp; omega)
      have e1 : pre ++ [w] ++ ws = pre ++ w :: ws := by simp
      have e2 : ((pre ++ [w]).length : Int) = (pre.length : Int) + 1 := by simp
      rw [e1, e2] at ih
      simp only [sp, if_neg hw, spR_map]
      refine Ev.step (fun k => ?_) ih
      simp only [pack_Split.l0, rd_mid, hlen]
      rw [if_pos (by omega), if_pos (by omega), if_pos (by omega), if_neg (by omega), if_neg (by omega), w64 (n := 64 - w) (by omega) (by omega), if_pos (by omega), if_pos (by omega), if_pos (by omega), shr_u64 x w (by omega) (by omega), cut_low x w (by omega) (by omega), w64 (n := left - w) (by omega) (by omega), w64 (n := (pre.length : Int) + 1) (by omega) (by omega)]
theorem split_f (x : Int) (ws : List Int) (h0 : 0 ≤ x) (h1 : x < 18446744073709551616) (hb : ws.length ≤ 1000000) :
    Ev (fun k => pack_Split.f k x ws) (spR [] (sp x 64 ws)) := split_ev ws [] x 64 [] h0 h1 (by omega) (by omega) (by simpa using hb) (by simp)
/-! ### pack.Pack, by numbers -/
def pk : Int → Int → List S80 → Option Int
  | acc, _, [] => some acc
  | acc, at_, f :: fs => if f.f0 < 1 ∨ f.f0 > 64 - at_ ∨ f.f1 ≥ 2 ^ f.f0.toNat then none else pk (acc + f.f1 * 2 ^ at_.toNat) (at_ + f.f0) fs
def pkR : Option Int → Int × Bool
  | some r => (r, true)
  | none => (0, false)
def fit (f : S80) : Prop := (-9223372036854775808 ≤ f.f0 ∧ f.f0 ≤ 9223372036854775807) ∧ 0 ≤ f.f1 ∧ f.f1 < 18446744073709551616
theorem may_is (f : S80) (h : fit f) : pack_Field_may.f f.f0 f.f1 = some (decide (1 ≤ f.f0 ∧ f.f0 ≤ 64 ∧ f.f1 < 2 ^ f.f0.toNat)) := by
  obtain ⟨⟨_, _⟩, h0, h1⟩ := h
  unfold pack_Field_may.f
  by_cases a : 1 ≤ f.f0
  · rw [if_pos (by omega)]
    by_cases b : f.f0 ≤ 64
    · rw [if_pos b]
      by_cases c : f.f0 = 64
      · rw [if_pos c]; rw [decide_eq_true]; refine ⟨a, b, ?_⟩; rw [c]; exact h1
      · rw [if_neg c, if_pos (by omega), shr_u64 _ _ (by omega) (by omega)]
        have : (f.f1 / 2 ^ f.f0.toNat == 0) = decide (f.f1 < 2 ^ f.f0.toNat) := by
          rw [Bool.eq_iff_iff]; simp only [beq_iff_eq, decide_eq_true_eq]
          constructor
          · intro e
            rcases Int.lt_or_le f.f1 (2 ^ f.f0.toNat) with hlt | hle
            · exact hlt
            · have := Int.le_ediv_of_mul_le (pow_pos' f.f0.toNat) (by omega : 1 * 2 ^ f.f0.toNat ≤ f.f1); omega
          · intro e; exact Int.ediv_eq_zero_of_lt h0 e
        rw [this]; simp [a, b]
    · rw [if_neg b]; simp [b]
  · rw [if_neg (by omega)]; simp [a]
theorem rd28_mid (pre : List S80) (f : S80) (fs : List S80) : rd_T80 (pre ++ f :: fs) (pre.length : Int) = f := by unfold rd_T80; simp
theorem pack_ev : ∀ (fs pre : List S80) (acc at_ : Int), (∀ f ∈ fs, fit f) → 0 ≤ at_ → at_ ≤ 64 → 0 ≤ acc → acc < 2 ^ at_.toNat → pre.length + fs.length ≤ 1000000 →
    Ev (fun k => pack_Pack.l0 k acc at_ (pre ++ fs) ((pre ++ fs).length : Int) (pre.length : Int)) (pkR (pk acc at_ fs))
  | [], pre, acc, at_, hf, h0, h1, ha0, ha, hb => by
    refine Ev.step (f := fun _ => some _) (fun k => ?_) (Ev.now _)
    simp only [pack_Pack.l0, List.append_nil]; rw [if_neg (by omega)]; rfl
  | f :: fs, pre, acc, at_, hf, h0, h1, ha0, ha, hb => by
    have hlen : (pre ++ f :: fs).length = pre.length + fs.length + 1 := by simp; omega
    simp only [List.length_cons] at hb
    have hfit := hf f List.mem_cons_self
    have hmay := may_is f hfit
    have e64 : wrap64 (64 - at_) = 64 - at_ := w64 (by omega) (by omega)
    have ei : wrap64 ((pre.length : Int) + 1) = (pre.length : Int) + 1 := w64 (by omega) (by omega)
    by_cases hw : f.f0 < 1 ∨ f.f0 > 64 - at_ ∨ f.f1 ≥ 2 ^ f.f0.toNat
    · refine Ev.step (f := fun _ => some (pkR (pk acc at_ (f :: fs)))) (fun k => ?_) (Ev.now _)
      simp only [pack_Pack.l0, rd28_mid, hlen, hmay, Option.bind_some]
      rw [if_pos (by omega), if_pos (by omega), if_pos (by omega)]
      simp only [pk, if_pos hw, pkR]
      by_cases hm : 1 ≤ f.f0 ∧ f.f0 ≤ 64 ∧ f.f1 < 2 ^ f.f0.toNat
      · rw [decide_eq_true hm, if_pos rfl, e64, if_pos (by omega)]
      · rw [decide_eq_false hm]; rfl
    · obtain ⟨⟨_, _⟩, hv0, hv1⟩ := hfit
      have hv : f.f1 < 2 ^ f.f0.toNat := by omega
      have hsum : acc + f.f1 * 2 ^ at_.toNat < 2 ^ (at_ + f.f0).toNat := by
        have e : (at_ + f.f0).toNat = f.f0.toNat + at_.toNat := by omega
        rw [e, pow_add']
        have h3 : (f.f1 + 1) * 2 ^ at_.toNat ≤ 2 ^ f.f0.toNat * 2 ^ at_.toNat := Int.mul_le_mul_of_nonneg_right (by omega) (Int.le_of_lt (pow_pos' _))
        rw [Int.add_mul, Int.one_mul] at h3; omega
      have hle : (2 : Int) ^ (at_ + f.f0).toNat ≤ 2 ^ 64 := pow_le' (by omega)
      have hmul : 0 ≤ f.f1 * 2 ^ at_.toNat := Int.mul_nonneg hv0 (Int.le_of_lt (pow_pos' _))
      have ih := pack_ev fs (pre ++ [f]) (acc + f.f1 * 2 ^ at_.toNat) (at_ + f.f0) (fun g hg => hf g (List.mem_cons_of_mem _ hg)) (by omega) (by omega) (by omega) hsum (by simp; omega)
      have e1 : pre ++ [f] ++ fs = pre ++ f :: fs := by simp
      have e2 : ((pre ++ [f]).length : Int) = (pre.length : Int) + 1 := by simp
      rw [e1, e2] at ih
      simp only [pk, if_neg hw]
      refine Ev.step (fun k => ?_) ih
      have eo : Go.bits .or .u64 acc (shl .u64 f.f1 at_) = acc + f.f1 * 2 ^ at_.toNat := by
        rw [shl_u64_fit _ _ h0 h1 hv0 (by omega)]
        exact or_above acc f.f1 at_.toNat ha0 ha hv0 (by omega)
      have ea : wrap64 (at_ + f.f0) = at_ + f.f0 := w64 (by omega) (by omega)
      simp only [pack_Pack.l0, rd28_mid, hlen, hmay, Option.bind_some]
      rw [if_pos (by omega), if_pos (by omega), if_pos (by omega), if_pos (by rw [decide_eq_true]; exact ⟨by omega, by omega, hv⟩), e64, if_neg (by omega), if_pos (by omega), eo, ea, ei]
theorem pack_f (fs : List S80) (hf : ∀ f ∈ fs, fit f) (hb : fs.length ≤ 1000000) : Ev (fun k => pack_Pack.f k fs) (pkR (pk 0 0 fs)) :=
  pack_ev fs [] 0 0 hf (by omega) (by omega) (by omega) (by simp) (by simpa using hb)
/-! ### crc.step32, crc.Sum32, by bits -/
theorem and1_32 (s : Nat) (h : s < 2 ^ 32) : Go.bits .and .u32 (s : Int) 1 = ((s % 2 : Nat) : Int) := by
  have := Math.bits_and .u32 rfl s 1 h (by decide)
  rw [Nat.and_one_is_mod] at this; exact this
theorem xorP_32 (s : Nat) (h : s < 2 ^ 32) : Go.bits .xor .u32 (s : Int) 3988292384 = ((s ^^^ Crc.P32 : Nat) : Int) :=
  Math.bits_xor .u32 rfl s Crc.P32 h Crc.P32_lt
def it32 : Nat → Nat → Nat
  | 0, s => s
  | d + 1, s => it32 d (Crc.z32 s)
theorem step32_ev : ∀ (d : Nat) (s : Nat) (i : Int), s < 2 ^ 32 → 0 ≤ i → 8 - i = d → Ev (fun k => crc_step32.l0 k (s : Int) i) ((it32 d s : Nat) : Int)
  | 0, s, i, hs, h0, hd => by
    refine Ev.step (f := fun _ => some _) (fun k => ?_) (Ev.now _)
    simp only [crc_step32.l0]; rw [if_neg (by omega)]; rfl
  | d + 1, s, i, hs, h0, hd => by
    have ih := step32_ev d (Crc.z32 s) (i + 1) (Crc.z32_lt hs) (by omega) (by omega)
    refine Ev.step (fun k => ?_) ih
    have e2 : ((s : Int) / 2) = ((s / 2 : Nat) : Int) := by simp
    simp only [crc_step32.l0]
    rw [if_pos (by omega), and1_32 s hs, e2, xorP_32 _ (by omega), w64 (n := i + 1) (by omega) (by omega)]
    unfold Crc.z32
    by_cases h : s % 2 = 1
    · rw [if_pos (by omega), if_pos h]
    · rw [if_neg (by omega), if_neg h]
theorem step32_f (s : Nat) (x : Int) (hs : s < 2 ^ 32) (h0 : 0 ≤ x) (h1 : x < 256) : Ev (fun k => crc_step32.f k (s : Int) x) (((Crc.lo x.toNat).foldl Crc.b32 s : Nat) : Int) := by
  obtain ⟨n, rfl⟩ := Int.eq_ofNat_of_zero_le h0
  have hn : n < 256 := by omega
  rw [Int.toNat_natCast, ← Crc.by32_bits s n hn]
  have hx : s ^^^ n < 2 ^ 32 := Nat.xor_lt_two_pow hs (by omega)
  have := step32_ev 8 (s ^^^ n) 0 hx (by omega) (by omega)
  refine Ev.congr (fun k => ?_) this
  unfold crc_step32.f
  rw [show ((n : Int) % 4294967296) = (n : Int) from by omega, Math.bits_xor .u32 rfl s n hs (by show n < 2 ^ 32; omega)]
def Oct (xs : List Int) : Prop := ∀ x ∈ xs, 0 ≤ x ∧ x < 256
def nats (xs : List Int) : List Nat := xs.map Int.toNat
theorem rdL1_mid (pre : List (List Int)) (w : List Int) (ws : List (List Int)) : rd_L4 (pre ++ w :: ws) (pre.length : Int) = w := by
  unfold rd_L4; simp
theorem sum32_row (ls : List (List Int)) (n j : Int) (r : Int) : ∀ (xs pre : List Int) (s : Nat), s < 2 ^ 32 → Oct xs → pre.length + xs.length ≤ 1000000000000 → 
    Ev (fun k => crc_Sum32.l0 k ((Crc.c32 s (nats xs) : Nat) : Int) ls n (wrap64 (j + 1))) r →
    Ev (fun k => crc_Sum32.l1 k (s : Int) ls n j (pre ++ xs) ((pre ++ xs).length : Int) (pre.length : Int)) r
  | [], pre, s, hs, ho, hb, h => by
    refine Ev.step (fun k => ?_) h
    simp only [crc_Sum32.l1, List.append_nil]; rw [if_neg (by omega)]; rfl
  | x :: xs, pre, s, hs, ho, hb, h => by
    simp only [List.length_cons] at hb
    have hlen : (pre ++ x :: xs).length = pre.length + xs.length + 1 := by simp; omega
    obtain ⟨hx0, hx1⟩ := ho x List.mem_cons_self
    have hs' : (Crc.lo x.toNat).foldl Crc.b32 s < 2 ^ 32 := Crc.f32_lt _ hs
    have ih := sum32_row ls n j r xs (pre ++ [x]) ((Crc.lo x.toNat).foldl Crc.b32 s) hs' (fun y hy => ho y (List.mem_cons_of_mem _ hy)) (by simp; omega) (by
      have e : Crc.c32 s (nats (x :: xs)) = Crc.c32 ((Crc.lo x.toNat).foldl Crc.b32 s) (nats xs) := Crc.c32_cons _ _ _
      rw [← e]; exact h)
    have e1 : pre ++ [x] ++ xs = pre ++ x :: xs := by simp
    have e2 : ((pre ++ [x]).length : Int) = (pre.length : Int) + 1 := by simp
    rw [e1, e2] at ih
    refine Ev.step (f := fun k => (crc_step32.f k (s : Int) x).bind fun t => crc_Sum32.l1 k t ls n j (pre ++ x :: xs) ((pre ++ x :: xs).length : Int) ((pre.length : Int) + 1)) (fun k => ?_) (Ev.bind (step32_f s x hs hx0 hx1) ih)
    simp only [crc_Sum32.l1, hlen, rd_mid]
    rw [if_pos (by omega), if_pos (by omega), if_pos (by omega), w64 (n := (pre.length : Int) + 1) (by omega) (by omega)]
theorem sum32_ev : ∀ (L P : List (List Int)) (s : Nat), s < 2 ^ 32 → (∀ xs ∈ L, Oct xs ∧ xs.length ≤ 1000000000) → P.length + L.length ≤ 1000000000 →
    Ev (fun k => crc_Sum32.l0 k (s : Int) (P ++ L) ((P ++ L).length : Int) (P.length : Int)) (Go.bits .xor .u32 4294967295 ((Crc.c32 s (nats L.flatten) : Nat) : Int))
  | [], P, s, hs, ho, hb => by
    refine Ev.step (f := fun _ => some _) (fun k => ?_) (Ev.now _)
    simp only [crc_Sum32.l0, List.append_nil]; rw [if_neg (by omega)]; rfl
  | xs :: L, P, s, hs, ho, hb => by
    simp only [List.length_cons] at hb
    have hlen : (P ++ xs :: L).length = P.length + L.length + 1 := by simp; omega
    obtain ⟨hx, hl⟩ := ho xs List.mem_cons_self
    have ih := sum32_ev L (P ++ [xs]) (Crc.c32 s (nats xs)) (Crc.c32_lt _ hs) (fun y hy => ho y (List.mem_cons_of_mem _ hy)) (by simp; omega)
    have e1 : P ++ [xs] ++ L = P ++ xs :: L := by simp
    have e2 : ((P ++ [xs]).length : Int) = wrap64 ((P.length : Int) + 1) := by rw [w64 (n := (P.length : Int) + 1) (by omega) (by omega)]; simp
    have e3 : Crc.c32 (Crc.c32 s (nats xs)) (nats L.flatten) = Crc.c32 s (nats (xs :: L).flatten) := by
      rw [← Crc.c32_append]; simp [nats]
    rw [e1, e2, e3] at ih
    have h1 := sum32_row (P ++ xs :: L) ((P ++ xs :: L).length : Int) (P.length : Int) _ xs [] s hs hx (by simp; omega) ih
    refine Ev.step (fun k => ?_) h1
    simp only [crc_Sum32.l0, hlen, rdL1_mid]
    rw [if_pos (by omega), if_pos (by omega), if_pos (by omega)]; rfl
theorem ones32 (s : Nat) (h : s < 2 ^ 32) : Go.bits .xor .u32 4294967295 (s : Int) = 4294967295 - s := by
  have h1 := Math.bits_xor .u32 rfl 4294967295 s (by decide) h
  have h2 : 4294967295 ^^^ s = 2 ^ 32 - (s + 1) := by
    apply Nat.eq_of_testBit_eq
    intro i
    rw [Nat.testBit_two_pow_sub_succ h, Nat.testBit_xor, show (4294967295 : Nat) = 2 ^ 32 - 1 from rfl, Nat.testBit_two_pow_sub_one]
    by_cases hi : i < 32
    · simp [hi]
    · have := Nat.testBit_lt_two_pow (Nat.lt_of_lt_of_le h (Nat.pow_le_pow_right (by decide) (by omega : 32 ≤ i)))
      simp [hi, this]
  rw [h2] at h1
  refine h1.trans ?_
  omega
def S32 (xs : List Int) : Int := 4294967295 - ((Crc.c32 4294967295 (nats xs) : Nat) : Int)
theorem sum32_f (L : List (List Int)) (ho : ∀ xs ∈ L, Oct xs ∧ xs.length ≤ 1000000000) (hb : L.length ≤ 1000000000) : Ev (fun k => crc_Sum32.f k L) (S32 L.flatten) := by
  have := sum32_ev L [] 4294967295 (by decide) ho (by simpa using hb)
  rw [ones32 _ (Crc.c32_lt _ (by decide))] at this
  exact this
theorem S32_range (xs : List Int) : 0 ≤ S32 xs ∧ S32 xs < 4294967296 := by
  have := Crc.c32_lt (s := 4294967295) (nats xs) (by decide)
  unfold S32; omega
/-! ### crc.step16, crc.Sum16, by bits -/
theorem and_top (s : Nat) (h : s < 65536) : (Go.bits .and .u16 (s : Int) 32768 = 0) ↔ s / 32768 = 0 := by
  have h1 := Math.bits_and .u16 rfl s 32768 h (by decide)
  have h2 : (s &&& 32768 = 0) ↔ s / 32768 = 0 := by
    constructor
    · intro e
      have e1 : (s &&& 2 ^ 15).testBit 15 = false := by rw [show (2 : Nat) ^ 15 = 32768 from rfl, e]; simp
      rw [Nat.testBit_and, Nat.testBit_two_pow_self, Bool.and_true] at e1
      rcases Crc.bit_cases (a := s / 32768) (by omega) with q | q
      · exact q
      · have : s.testBit 15 = true := by rw [Nat.testBit_eq_decide_div_mod_eq]; simp; omega
        rw [this] at e1; cases e1
    · intro e
      have hs : s < 2 ^ 15 := by show s < 32768; omega
      apply Nat.eq_of_testBit_eq
      intro i
      rw [Nat.testBit_and, show (32768 : Nat) = 2 ^ 15 from rfl, Nat.testBit_two_pow]
      by_cases hi : 15 = i
      · subst hi; simp [Nat.testBit_lt_two_pow hs]
      · simp [hi]
  rw [← h2]
  constructor
  · intro e; have := h1.symm.trans e; exact_mod_cast this
  · intro e; exact h1.trans (by rw [e]; rfl)
theorem xorP_16 (s : Nat) (h : s < 65536) : Go.bits .xor .u16 (s : Int) 4129 = ((s ^^^ Crc.P16 : Nat) : Int) :=
  Math.bits_xor .u16 rfl s Crc.P16 h Crc.P16_lt
theorem twice_16 (s : Nat) : IntKind.u16.wrap ((s : Int) * 2) = ((s * 2 % 65536 : Nat) : Int) := by
  rw [Math.wrap_u .u16 rfl]; show (s : Int) * 2 % 65536 = _; omega
def it16 : Nat → Nat → Nat
  | 0, s => s
  | d + 1, s => it16 d (Crc.z16 s)
theorem step16_ev : ∀ (d : Nat) (s : Nat) (i : Int), s < 65536 → 0 ≤ i → 8 - i = d → Ev (fun k => crc_step16.l0 k (s : Int) i) ((it16 d s : Nat) : Int)
  | 0, s, i, hs, h0, hd => by
    refine Ev.step (f := fun _ => some _) (fun k => ?_) (Ev.now _)
    simp only [crc_step16.l0]; rw [if_neg (by omega)]; rfl
  | d + 1, s, i, hs, h0, hd => by
    have ih := step16_ev d (Crc.z16 s) (i + 1) (Crc.z16_lt s) (by omega) (by omega)
    refine Ev.step (fun k => ?_) ih
    have ht := and_top s hs
    simp only [crc_step16.l0]
    rw [if_pos (by omega), twice_16, xorP_16 _ (by omega), w64 (n := i + 1) (by omega) (by omega)]
    unfold Crc.z16
    by_cases h : s / 32768 = 0
    · rw [if_pos (ht.mpr h), if_pos h]
    · rw [if_neg (fun e => h (ht.mp e)), if_neg h]
theorem step16_f (s : Nat) (x : Int) (hs : s < 65536) (h0 : 0 ≤ x) (h1 : x < 256) : Ev (fun k => crc_step16.f k (s : Int) x) (((Crc.hi x.toNat).foldl Crc.b16 s : Nat) : Int) := by
  obtain ⟨n, rfl⟩ := Int.eq_ofNat_of_zero_le h0
  have hn : n < 256 := by omega
  rw [Int.toNat_natCast, ← Crc.by16_bits s n hs hn]
  have hx : s ^^^ (n * 256) < 2 ^ 16 := Nat.xor_lt_two_pow hs (by omega)
  have := step16_ev 8 (s ^^^ (n * 256)) 0 hx (by omega) (by omega)
  refine Ev.congr (fun k => ?_) this
  unfold crc_step16.f
  have e1 : IntKind.u16.wrap (n : Int) = n := u16_fit (by omega) (by omega)
  have e2 : IntKind.u16.wrap ((n : Int) * 256) = ((n * 256 : Nat) : Int) := by rw [u16_fit (by omega) (by omega)]; simp
  rw [e1, e2, Math.bits_xor .u16 rfl s (n * 256) hs (by show n * 256 < 2 ^ 16; omega)]
theorem sum16_row (ls : List (List Int)) (n j : Int) (r : Int) : ∀ (xs pre : List Int) (s : Nat), s < 65536 → Oct xs → pre.length + xs.length ≤ 1000000000000 → 
    Ev (fun k => crc_Sum16.l0 k ((Crc.c16 s (nats xs) : Nat) : Int) ls n (wrap64 (j + 1))) r →
    Ev (fun k => crc_Sum16.l1 k (s : Int) ls n j (pre ++ xs) ((pre ++ xs).length : Int) (pre.length : Int)) r
  | [], pre, s, hs, ho, hb, h => by
    refine Ev.step (fun k => ?_) h
    simp only [crc_Sum16.l1, List.append_nil]; rw [if_neg (by omega)]; rfl
  | x :: xs, pre, s, hs, ho, hb, h => by
    simp only [List.length_cons] at hb
    have hlen : (pre ++ x :: xs).length = pre.length + xs.length + 1 := by simp; omega
    obtain ⟨hx0, hx1⟩ := ho x List.mem_cons_self
    have hs' : (Crc.hi x.toNat).foldl Crc.b16 s < 65536 := Crc.f16_lt _ hs
    have ih := sum16_row ls n j r xs (pre ++ [x]) ((Crc.hi x.toNat).foldl Crc.b16 s) hs' (fun y hy => ho y (List.mem_cons_of_mem _ hy)) (by simp; omega) (by
      have e : Crc.c16 s (nats (x :: xs)) = Crc.c16 ((Crc.hi x.toNat).foldl Crc.b16 s) (nats xs) := Crc.c16_cons _ _ _
      rw [← e]; exact h)
    have e1 : pre ++ [x] ++ xs = pre ++ x :: xs := by simp
    have e2 : ((pre ++ [x]).length : Int) = (pre.length : Int) + 1 := by simp
    rw [e1, e2] at ih
    refine Ev.step (f := fun k => (crc_step16.f k (s : Int) x).bind fun t => crc_Sum16.l1 k t ls n j (pre ++ x :: xs) ((pre ++ x :: xs).length : Int) ((pre.length : Int) + 1)) (fun k => ?_) (Ev.bind (step16_f s x hs hx0 hx1) ih)
    simp only [crc_Sum16.l1, hlen, rd_mid]
    rw [if_pos (by omega), if_pos (by omega), if_pos (by omega), w64 (n := (pre.length : Int) + 1) (by omega) (by omega)]
theorem sum16_ev : ∀ (L P : List (List Int)) (s : Nat), s < 65536 → (∀ xs ∈ L, Oct xs ∧ xs.length ≤ 1000000000) → P.length + L.length ≤ 1000000000 →
    Ev (fun k => crc_Sum16.l0 k (s : Int) (P ++ L) ((P ++ L).length : Int) (P.length : Int)) ((Crc.c16 s (nats L.flatten) : Nat) : Int)
  | [], P, s, hs, ho, hb => by
    refine Ev.step (f := fun _ => some _) (fun k => ?_) (Ev.now _)
    simp only [crc_Sum16.l0, List.append_nil]; rw [if_neg (by omega)]; rfl
  | xs :: L, P, s, hs, ho, hb => by
    simp only [List.length_cons] at hb
    have hlen : (P ++ xs :: L).length = P.length + L.length + 1 := by simp; omega
    obtain ⟨hx, hl⟩ := ho xs List.mem_cons_self
    have ih := sum16_ev L (P ++ [xs]) (Crc.c16 s (nats xs)) (Crc.c16_lt _ hs) (fun y hy => ho y (List.mem_cons_of_mem _ hy)) (by simp; omega)
    have e1 : P ++ [xs] ++ L = P ++ xs :: L := by simp
    have e2 : ((P ++ [xs]).length : Int) = wrap64 ((P.length : Int) + 1) := by rw [w64 (n := (P.length : Int) + 1) (by omega) (by omega)]; simp
    have e3 : Crc.c16 (Crc.c16 s (nats xs)) (nats L.flatten) = Crc.c16 s (nats (xs :: L).flatten) := by
      rw [← Crc.c16_append]; simp [nats]
    rw [e1, e2, e3] at ih
    have h1 := sum16_row (P ++ xs :: L) ((P ++ xs :: L).length : Int) (P.length : Int) _ xs [] s hs hx (by simp; omega) ih
    refine Ev.step (fun k => ?_) h1
    simp only [crc_Sum16.l0, hlen, rdL1_mid]
    rw [if_pos (by omega), if_pos (by omega), if_pos (by omega)]; rfl
def S16 (xs : List Int) : Int := ((Crc.c16 65535 (nats xs) : Nat) : Int)
theorem sum16_f (L : List (List Int)) (ho : ∀ xs ∈ L, Oct xs ∧ xs.length ≤ 1000000000) (hb : L.length ≤ 1000000000) : Ev (fun k => crc_Sum16.f k L) (S16 L.flatten) :=
  sum16_ev L [] 65535 (by decide) ho (by simpa using hb)
theorem S16_range (xs : List Int) : 0 ≤ S16 xs ∧ S16 xs < 65536 := by
  have : Crc.c16 65535 (nats xs) < 65536 := Crc.c16_lt (s := 65535) (nats xs) (by decide)
  unfold S16; omega
/-! ### a word's bytes -/
def w8from (x : Int) : Nat → List Int
  | 0 => []
  | d + 1 => x % 256 :: w8from (x / 2 ^ 8) d
def octs (l : List Int) : List Int := l.flatMap fun x => w8from x 8
theorem w8from_length : ∀ (d : Nat) (x : Int), (w8from x d).length = d
  | 0, _ => rfl
  | d + 1, x => by simp [w8from, w8from_length d]
theorem w8from_oct : ∀ (d : Nat) (x : Int), ∀ y ∈ w8from x d, 0 ≤ y ∧ y < 256
  | 0, _, y, h => by simp [w8from] at h
  | d + 1, x, y, h => by
    simp only [w8from, List.mem_cons] at h
    rcases h with rfl | h
    · omega
    · exact w8from_oct d _ y h
theorem octs_oct (l : List Int) : ∀ y ∈ octs l, 0 ≤ y ∧ y < 256 := by
  intro y h
  simp only [octs, List.mem_flatMap] at h
  obtain ⟨x, _, hx⟩ := h
  exact w8from_oct 8 x y hx
theorem octs_length (l : List Int) : (octs l).length = 8 * l.length := by
  induction l with
  | nil => rfl
  | cons x l ih =>
    have e : octs (x :: l) = w8from x 8 ++ octs l := by simp [octs]
    rw [e, List.length_append, ih, w8from_length]; simp; omega
/-! ### words' bytes: pack_Bytes -/
theorem pack_Bytes_row (ws : List Int) (n j : Int) (r : List Int) : ∀ (d : Nat) (x : Int) (i : Int) (out : List Int), 0 ≤ x → 0 ≤ i → 8 - i = d → out.length + d < 100000000000 →
    Ev (fun k => pack_Bytes.l0 k (out ++ w8from (x / 2 ^ (8 * i).toNat) d) ws n (wrap64 (j + 1))) r → Ev (fun k => pack_Bytes.l1 k out x ws n j i) r
  | 0, x, i, out, hx, h0, hd, hb, h => by
    refine Ev.step (fun k => ?_) h
    simp only [pack_Bytes.l1, w8from, List.append_nil]; rw [if_neg (by omega)]
  | d + 1, x, i, out, hx, h0, hd, hb, h => by
    have hs : (8 * (i + 1)).toNat = (8 * i).toNat + 8 := by omega
    have ih := pack_Bytes_row ws n j r d x (i + 1) (out ++ [x / 2 ^ (8 * i).toNat % 256]) hx (by omega) (by omega) (by simp; omega) (by
      rw [hs, pow_add', ← Int.ediv_ediv_of_nonneg (Int.le_of_lt (pow_pos' _))]
      have : out ++ [x / 2 ^ (8 * i).toNat % 256] ++ w8from (x / 2 ^ (8 * i).toNat / 2 ^ 8) d = out ++ w8from (x / 2 ^ (8 * i).toNat) (d + 1) := by simp [w8from]
      rw [this]; exact h)
    refine Ev.step (fun k => ?_) ih
    simp only [pack_Bytes.l1]
    rw [if_pos (by omega), w64 (n := 8 * i) (by omega) (by omega), if_pos (by omega), if_pos (by omega), shr_u64 x (8 * i) (by omega) (by omega), w64 (n := i + 1) (by omega) (by omega)]
theorem pack_Bytes_ev : ∀ (ws pre out : List Int), (∀ w ∈ ws, 0 ≤ w) → pre.length + ws.length ≤ 1000000000 → out.length ≤ 8 * pre.length →
    Ev (fun k => pack_Bytes.l0 k out (pre ++ ws) ((pre ++ ws).length : Int) (pre.length : Int)) (out ++ octs ws)
  | [], pre, out, hw, hb, ho => by
    refine Ev.step (f := fun _ => some _) (fun k => ?_) (Ev.now _)
    simp only [pack_Bytes.l0, List.append_nil]; rw [if_neg (by omega)]; simp [octs]
  | w :: ws, pre, out, hw, hb, ho => by
    simp only [List.length_cons] at hb
    have hlen : (pre ++ w :: ws).length = pre.length + ws.length + 1 := by simp; omega
    have ih := pack_Bytes_ev ws (pre ++ [w]) (out ++ w8from w 8) (fun y hy => hw y (List.mem_cons_of_mem _ hy)) (by simp; omega) (by simp [w8from_length]; omega)
    have e1 : pre ++ [w] ++ ws = pre ++ w :: ws := by simp
    have e2 : ((pre ++ [w]).length : Int) = wrap64 ((pre.length : Int) + 1) := by rw [w64 (n := (pre.length : Int) + 1) (by omega) (by omega)]; simp
    have e3 : out ++ w8from w 8 ++ octs ws = out ++ octs (w :: ws) := by simp [octs]
    rw [e1, e2, e3] at ih
    have h1 := pack_Bytes_row (pre ++ w :: ws) ((pre ++ w :: ws).length : Int) (pre.length : Int) _ 8 w 0 out (hw w List.mem_cons_self) (by omega) (by omega) (by omega) (by
      rw [show w / 2 ^ (8 * (0 : Int)).toNat = w from by simp]; exact ih)
    refine Ev.step (fun k => ?_) h1
    simp only [pack_Bytes.l0, hlen, rd_mid]
    rw [if_pos (by omega), if_pos (by omega), if_pos (by omega)]
theorem pack_Bytes_f (ws : List Int) (hw : ∀ w ∈ ws, 0 ≤ w) (hb : ws.length ≤ 1000000000) : Ev (fun k => pack_Bytes.f k ws) (octs ws) :=
  pack_Bytes_ev ws [] [] hw (by simpa using hb) (by simp)
/-! ### slots, by numbers -/
def mayS (s c n : Int) : Prop := (0 ≤ s ∧ s < 65534) ∧ (1 ≤ c ∧ c ≤ 65534 - s) ∧ -1 ≤ n ∧ n < 65534
instance (s c n : Int) : Decidable (mayS s c n) := by unfold mayS; infer_instance
def nx (n : Int) : Int := if n ≥ 0 then n else 65535
def X3 (s c n : Int) : Int := s + c * 65536 + n * 4294967296
def sumS (x : Int) : Int := S16 ((octs [x]).take 6)
def wordS (s c n : Int) : Int := X3 s c (nx n) + sumS (X3 s c (nx n)) * 281474976710656
def encS (s c n : Int) : Int × Int := if mayS s c n then (wordS s c n, 0) else (0, 1)
theorem yes {p : Prop} [Decidable p] (h : p) : some true = some (decide p) := by rw [decide_eq_true h]
theorem no {p : Prop} [Decidable p] (h : ¬ p) : some false = some (decide p) := by rw [decide_eq_false h]
theorem slotmay_is (s c n : Int) (hs : -9223372036854775808 ≤ s ∧ s ≤ 9223372036854775807) : slot_Slot_May.f s c n = some (decide (mayS s c n)) := by
  unfold slot_Slot_May.f
  by_cases a : s ≥ 0
  · rw [if_pos a]
    by_cases b : s < 65534
    · rw [if_pos b, w64 (n := 65534 - s) (by omega) (by omega)]
      by_cases d : c ≥ 1
      · rw [if_pos d]
        by_cases e : c ≤ 65534 - s
        · rw [if_pos e]
          by_cases f : n ≥ -1
          · rw [if_pos f]; congr 1; rw [decide_eq_decide]; unfold mayS; omega
          · rw [if_neg f]; refine no ?_; unfold mayS; omega
        · rw [if_neg e]; refine no ?_; unfold mayS; omega
      · rw [if_neg d]; refine no ?_; unfold mayS; omega
    · rw [if_neg b]; refine no ?_; unfold mayS; omega
  · rw [if_neg a]; refine no ?_; unfold mayS; omega
theorem sumS_range (x : Int) : 0 ≤ sumS x ∧ sumS x < 65536 := S16_range _
theorem take6 (x : Int) : (octs [x]).length = 8 := by rw [octs_length]; rfl
theorem sum6_f (x : Int) : Ev (fun k => crc_Sum16.f k [(octs [x]).take 6]) (sumS x) := by
  have h := sum16_f [(octs [x]).take 6] (fun xs hx => by
    obtain rfl : xs = (octs [x]).take 6 := by simpa using hx
    exact ⟨fun y hy => octs_oct [x] y (List.mem_of_mem_take hy), by rw [List.length_take, take6]; omega⟩) (by simp)
  rw [show [(octs [x]).take 6].flatten = (octs [x]).take 6 from by simp] at h
  exact h
/-- What Encode does of numbers that fit. -/
theorem encj_f (s c n n' : Int) (hs : 0 ≤ s ∧ s < 65536) (hc : 0 ≤ c ∧ c < 65536) (hn : 0 ≤ n' ∧ n' < 65536) :
    Ev (fun k => slot_Encode.j0 k n' s c n) (X3 s c n' + sumS (X3 s c n') * 281474976710656, 0) := by
  have es : IntKind.u64.wrap s = s := u64_fit (by omega) (by omega)
  have ec : IntKind.u64.wrap c = c := u64_fit (by omega) (by omega)
  have fs : fit (⟨16, s⟩ : S80) := ⟨⟨by show (-9223372036854775808 : Int) ≤ 16; omega, by show (16 : Int) ≤ _; omega⟩, by show 0 ≤ s; omega, by show s < _; omega⟩
  have fc : fit (⟨16, c⟩ : S80) := ⟨⟨by show (-9223372036854775808 : Int) ≤ 16; omega, by show (16 : Int) ≤ _; omega⟩, by show 0 ≤ c; omega, by show c < _; omega⟩
  have fn : fit (⟨16, n'⟩ : S80) := ⟨⟨by show (-9223372036854775808 : Int) ≤ 16; omega, by show (16 : Int) ≤ _; omega⟩, by show 0 ≤ n'; omega, by show n' < _; omega⟩
  have h3 : pk 0 0 [(⟨16, s⟩ : S80), ⟨16, c⟩, ⟨16, n'⟩] = some (X3 s c n') := by
    simp only [pk, X3]
    simp
    exact ⟨by omega, by omega, by omega⟩
  obtain ⟨t0, t1⟩ := sumS_range (X3 s c n')
  have ft : fit (⟨16, sumS (X3 s c n')⟩ : S80) := ⟨⟨by show (-9223372036854775808 : Int) ≤ 16; omega, by show (16 : Int) ≤ _; omega⟩, t0, by show sumS _ < _; omega⟩
  have h4 : ∀ t : Int, 0 ≤ t → t < 65536 → pk 0 0 ([(⟨16, s⟩ : S80), ⟨16, c⟩, ⟨16, n'⟩] ++ [⟨16, t⟩]) = some (X3 s c n' + t * 281474976710656) := by
    intro t h0 h1
    simp only [pk, X3, List.cons_append, List.nil_append]
    simp
    exact ⟨by omega, by omega, by omega, by omega⟩
  have p3 := pack_f [(⟨16, s⟩ : S80), ⟨16, c⟩, ⟨16, n'⟩] (by intro f hf; simp only [List.mem_cons, List.not_mem_nil, or_false] at hf; rcases hf with rfl | rfl | rfl <;> assumption) (by simp)
  have p4 := pack_f ([(⟨16, s⟩ : S80), ⟨16, c⟩, ⟨16, n'⟩] ++ [⟨16, sumS (X3 s c n')⟩]) (by intro f hf; simp only [List.cons_append, List.nil_append, List.mem_cons, List.not_mem_nil, or_false] at hf; rcases hf with rfl | rfl | rfl | rfl <;> assumption) (by simp)
  rw [h3] at p3
  rw [h4 _ t0 t1] at p4
  have hx0 : 0 ≤ X3 s c n' := by unfold X3; omega
  refine Ev.step (f := fun k => (pack_Pack.f k [(⟨16, s⟩ : S80), ⟨16, c⟩, ⟨16, n'⟩]).bind fun bt118 => ((pack_Bytes.f k (([bt118.1] : List Int))).bind fun t123 => (if 6 ≤ (t123.length : Int) then ((crc_Sum16.f k (([(t123.take 6)] : List (List Int)))).bind fun t134 => (if [(⟨16, s⟩ : S80), ⟨16, c⟩, ⟨16, n'⟩].length < 8796093022208 then ((pack_Pack.f k ([(⟨16, s⟩ : S80), ⟨16, c⟩, ⟨16, n'⟩] ++ [(⟨16, IntKind.u64.wrap (t134)⟩ : S80)])).bind fun bt138 => (some (bt138.1, 0))) else (none))) else (none)))) (fun k => by simp only [slot_Encode.j0, es, ec, Option.bind_some]) ?_
  refine Ev.bind p3 (Ev.bind (pack_Bytes_f [X3 s c n'] (fun w hw => by simp at hw; omega) (by simp)) ?_)
  refine Ev.congr (f := fun k => (crc_Sum16.f k [(octs [X3 s c n']).take 6]).bind fun t134 => (pack_Pack.f k ([(⟨16, s⟩ : S80), ⟨16, c⟩, ⟨16, n'⟩] ++ [⟨16, IntKind.u64.wrap t134⟩])).bind fun bt138 => some (bt138.1, 0)) (fun k => ?_) ?_
  · simp only [take6]; rw [if_pos (by decide)]; simp
  · refine Ev.bind (sum6_f _) ?_
    rw [u64_fit t0 (by omega)]
    exact Ev.bind p4 (Ev.now _)
theorem enc_f (s c n : Int) (hs : -9223372036854775808 ≤ s ∧ s ≤ 9223372036854775807) : Ev (fun k => slot_Encode.f k s c n) (encS s c n) := by
  unfold slot_Encode.f encS
  simp only [slotmay_is s c n hs, Option.bind_some]
  by_cases hm : mayS s c n
  · simp only [decide_eq_true hm, if_true, if_pos hm]
    obtain ⟨⟨a, b⟩, ⟨d, e⟩, f, g⟩ := hm
    unfold wordS nx
    by_cases h : n ≥ 0
    · simp only [if_pos h]
      rw [u64_fit h (by omega)]
      exact encj_f s c n n ⟨a, by omega⟩ ⟨by omega, by omega⟩ ⟨h, by omega⟩
    · simp only [if_neg h]
      exact encj_f s c n 65535 ⟨a, by omega⟩ ⟨by omega, by omega⟩ ⟨by omega, by omega⟩
  · simp only [decide_eq_false hm, if_neg hm, Bool.false_eq_true, if_false]
    exact Ev.now _
/-! ### a word's four numbers -/
def q0 (x : Int) : Int := x % 65536
def q1 (x : Int) : Int := x / 65536 % 65536
def q2 (x : Int) : Int := x / 4294967296 % 65536
def q3 (x : Int) : Int := x / 281474976710656
theorem split4 (x : Int) (h0 : 0 ≤ x) (h1 : x < 18446744073709551616) : Ev (fun k => pack_Split.f k x [16, 16, 16, 16]) ([q0 x, q1 x, q2 x, q3 x], true) := by
  have h := split_f x [16, 16, 16, 16] h0 h1 (by simp)
  have e : sp x 64 [16, 16, 16, 16] = some [q0 x, q1 x, q2 x, q3 x] := by
    simp only [sp, q0, q1, q2, q3]
    simp
    exact ⟨by omega, by omega, by omega⟩
  rw [e] at h
  exact h
def nxt (f : Int) : Int := if f = 65535 then -1 else f
def decS (x : Int) : Int × Int × Int × Int := if encS (q0 x) (q1 x) (nxt (q2 x)) = (x, 0) then (q0 x, q1 x, nxt (q2 x), 0) else (0, 0, 0, 2)
theorem q_range (x : Int) (_h0 : 0 ≤ x) : (0 ≤ q0 x ∧ q0 x < 65536) ∧ (0 ≤ q1 x ∧ q1 x < 65536) ∧ (0 ≤ q2 x ∧ q2 x < 65536) := by unfold q0 q1 q2; omega
theorem dec_f (x : Int) (h0 : 0 ≤ x) (h1 : x < 18446744073709551616) : Ev (fun k => slot_Decode.f k x) (decS x) := by
  obtain ⟨⟨a0, a1⟩, ⟨b0, b1⟩, c0, c1⟩ := q_range x h0
  unfold slot_Decode.f
  refine Ev.bind (split4 x h0 h1) ?_
  have r0 : rd [q0 x, q1 x, q2 x, q3 x] 0 = q0 x := rfl
  have r1 : rd [q0 x, q1 x, q2 x, q3 x] 1 = q1 x := rfl
  have r2 : rd [q0 x, q1 x, q2 x, q3 x] 2 = q2 x := rfl
  have hl : (([q0 x, q1 x, q2 x, q3 x] : List Int).length : Int) = 4 := rfl
  simp only [r0, r1, r2, hl, w64 (n := q0 x) (by omega) (by omega), w64 (n := q1 x) (by omega) (by omega), w64 (n := q2 x) (by omega) (by omega)]
  clear r0 r1 r2 hl
  simp only [show (0 : Int) < 4 from by omega, show (1 : Int) < 4 from by omega, show (2 : Int) < 4 from by omega, if_true]
  have fin : ∀ n : Int, Ev (fun k => slot_Decode.j0 k x (q0 x) (q1 x) n) (if encS (q0 x) (q1 x) n = (x, 0) then (q0 x, q1 x, n, 0) else (0, 0, 0, 2)) := by
    intro n
    refine Ev.step (f := fun k => (slot_Encode.f k (q0 x) (q1 x) n).bind fun bt177 => (if bt177.2 = 0 then (slot_Decode.j1 k (bt177.1 != x) (q0 x) (q1 x) n) else (slot_Decode.j1 k true (q0 x) (q1 x) n))) (fun k => by simp only [slot_Decode.j0]) ?_
    refine Ev.bind (enc_f (q0 x) (q1 x) n (by omega)) ?_
    generalize encS (q0 x) (q1 x) n = E
    obtain ⟨E1, E2⟩ := E
    simp only [Prod.mk.injEq]
    by_cases e2 : E2 = 0
    · simp only [if_pos e2]
      by_cases e1 : E1 = x
      · rw [if_pos ⟨e1, e2⟩]
        refine Ev.step (f := fun _ => some _) (fun k => ?_) (Ev.now _)
        simp only [slot_Decode.j1, e1, bne_self_eq_false, Bool.false_eq_true, if_false]
      · rw [if_neg (fun h => e1 h.1)]
        refine Ev.step (f := fun _ => some _) (fun k => ?_) (Ev.now _)
        simp only [slot_Decode.j1]
        rw [if_pos (by simp [e1])]
    · simp only [if_neg e2]
      rw [if_neg (fun h => e2 h.2)]
      exact Ev.step (f := fun _ => some _) (fun k => by simp only [slot_Decode.j1, if_true]) (Ev.now _)
  unfold decS nxt
  by_cases h : q2 x = 65535
  · simp only [if_pos h]; exact fin (-1)
  · simp only [if_neg h]; exact fin (q2 x)
theorem slot_lives : Ev (fun k => cantlelaw07_Lives.f k) true := Ev.of cantlelaw07_Lives.mono (k := 40) (by decide +kernel)
/-! ### one bit of a word -/
theorem shl_one (j : Nat) (hj : j < 64) : shl .u64 1 (j : Int) = ((2 ^ j : Nat) : Int) := by
  have h2 : (2 : Int) ^ j < 2 ^ 64 := pow_lt' hj
  rw [shl_u64_fit 1 _ (by omega) (by omega) (by omega) (by rw [Int.toNat_natCast]; omega), Int.toNat_natCast]
  simp
theorem w8_nats (x : Int) (h0 : 0 ≤ x) : nats (w8from x 8) = Crc.w8 x.toNat := by
  obtain ⟨n, rfl⟩ := Int.eq_ofNat_of_zero_le h0
  simp only [w8from, nats, Crc.w8, List.map_cons, List.map_nil, Int.toNat_natCast]
  have e : ∀ a b : Nat, ((a : Int) / (b : Int)) = ((a / b : Nat) : Int) := fun a b => by simp
  simp only [List.cons.injEq, and_true]
  refine ⟨?_, ?_, ?_, ?_, ?_, ?_, ?_, ?_⟩ <;> omega
/-! ### six bytes, bit by bit -/
def hb (n : Nat) : List Nat := (List.range 48).map fun p => (n.testBit (8 * (p / 8) + (7 - p % 8))).toNat
theorem his_w8 (x : Nat) : Crc.his ((Crc.w8 x).take 6) = hb x := by
  have h := Crc.hi_byte x
  have e : (Crc.w8 x).take 6 = [x / 2 ^ 0 % 256, x / 2 ^ 8 % 256, x / 2 ^ 16 % 256, x / 2 ^ 24 % 256, x / 2 ^ 32 % 256, x / 2 ^ 40 % 256] := by simp [Crc.w8]
  rw [e]
  simp only [Crc.his, List.flatMap_cons, List.flatMap_nil, h]
  unfold hb
  rw [show List.range 8 = [0, 1, 2, 3, 4, 5, 6, 7] from rfl, show List.range 48 = [0, 1, 2, 3, 4, 5, 6, 7, 8, 9, 10, 11, 12, 13, 14, 15, 16, 17, 18, 19, 20, 21, 22, 23, 24, 25, 26, 27, 28, 29, 30, 31, 32, 33, 34, 35, 36, 37, 38, 39, 40, 41, 42, 43, 44, 45, 46, 47] from rfl]
  simp only [List.map_cons, List.map_nil, List.cons_append, List.nil_append, Nat.reduceAdd, Nat.reduceSub, Nat.reduceDiv, Nat.reduceMod, Nat.reduceMul]
theorem hb_get (n p : Nat) (h : p < 48) : (hb n)[p]? = some (n.testBit (8 * (p / 8) + (7 - p % 8))).toNat := by simp [hb, h]
theorem hb_length (n : Nat) : (hb n).length = 48 := by simp [hb]
theorem hb_bits (n : Nat) : Crc.Bits (hb n) := by
  intro b hb'
  simp only [hb, List.mem_map] at hb'
  obtain ⟨t, _, rfl⟩ := hb'
  cases n.testBit (8 * (t / 8) + (7 - t % 8)) <;> decide
theorem sum_nat (n : Nat) : sumS (n : Int) = (((hb n).foldl Crc.b16 65535 : Nat) : Int) := by
  have e : nats ((octs [(n : Int)]).take 6) = (Crc.w8 n).take 6 := by
    have e1 : octs [(n : Int)] = w8from (n : Int) 8 := by simp [octs]
    have e2 := w8_nats (n : Int) (by omega)
    rw [Int.toNat_natCast] at e2
    rw [e1, ← e2]; simp [nats, List.map_take]
  unfold sumS S16
  rw [e]
  unfold Crc.c16
  rw [his_w8]
theorem told_slot (X Y a : Nat) (hX : X < 2 ^ 48) (hY : Y < 2 ^ 48) (h : ∀ t, t < 48 → Y.testBit t ≠ X.testBit t → ∃ p, a ≤ p ∧ p < a + 16 ∧ t = 8 * (p / 8) + (7 - p % 8)) (hne : Y ≠ X) : sumS (Y : Int) ≠ sumS (X : Int) := by
  rw [sum_nat, sum_nat]
  intro e
  have e' : (hb Y).foldl Crc.b16 65535 = (hb X).foldl Crc.b16 65535 := by exact_mod_cast e
  refine Crc.told16w a 16 (by decide) (by rw [hb_length, hb_length]) (hb_bits Y) (hb_bits X) (by omega) ?_ ?_ e'
  · intro p hp
    by_cases hlt : p < 48
    · rw [hb_get _ _ hlt, hb_get _ _ hlt]
      by_cases q : Y.testBit (8 * (p / 8) + (7 - p % 8)) = X.testBit (8 * (p / 8) + (7 - p % 8))
      · rw [q]
      · obtain ⟨p', h1, h2, h3⟩ := h _ (by omega) q
        exfalso; omega
    · rw [List.getElem?_eq_none (by rw [hb_length]; omega), List.getElem?_eq_none (by rw [hb_length]; omega)]
  · intro q
    apply hne
    apply Nat.eq_of_testBit_eq
    intro t
    by_cases ht : t < 48
    · have g1 := hb_get Y (8 * (t / 8) + (7 - t % 8)) (by omega)
      have g2 := hb_get X (8 * (t / 8) + (7 - t % 8)) (by omega)
      rw [q, g2] at g1
      have et : 8 * ((8 * (t / 8) + (7 - t % 8)) / 8) + (7 - (8 * (t / 8) + (7 - t % 8)) % 8) = t := by omega
      rw [et] at g1
      simp only [Option.some.injEq] at g1
      revert g1
      cases Y.testBit t <;> cases X.testBit t <;> simp
    · rw [Nat.testBit_lt_two_pow (Nat.lt_of_lt_of_le hY (Nat.pow_le_pow_right (by decide) (by omega))), Nat.testBit_lt_two_pow (Nat.lt_of_lt_of_le hX (Nat.pow_le_pow_right (by decide) (by omega)))]
/-! ### what is none's -/
theorem nx_nxt (f : Int) (h : 0 ≤ f ∧ f < 65536) : nx (nxt f) = f := by unfold nx nxt; split <;> split <;> omega
theorem bad_word (y : Int) (h0 : 0 ≤ y) (h : y / 281474976710656 ≠ sumS (y % 281474976710656)) : decS y = (0, 0, 0, 2) := by
  unfold decS
  refine if_neg (fun e => h ?_)
  unfold encS at e
  split at e
  · simp only [Prod.mk.injEq, and_true] at e
    obtain ⟨_, _, r2⟩ := q_range y h0
    unfold wordS at e
    rw [nx_nxt _ r2] at e
    have ex : X3 (q0 y) (q1 y) (q2 y) = y % 281474976710656 := by unfold X3 q0 q1 q2; omega
    rw [ex] at e
    obtain ⟨t0, t1⟩ := sumS_range (y % 281474976710656)
    generalize sumS (y % 281474976710656) = t at *
    omega
  · simp at e
/-- The word's sum is its numbers'. -/
def SumOk (x : Nat) : Prop := (x : Int) / 281474976710656 = sumS ((x : Int) % 281474976710656)
def Inv (x a y : Nat) : Prop := y < 2 ^ 64 ∧ ∀ t, y.testBit t ≠ x.testBit t → ∃ p, a ≤ p ∧ p < a + 16 ∧ p < 48 ∧ t = 8 * (p / 8) + (7 - p % 8)
theorem inv_flip {x a y p : Nat} (h : Inv x a y) (h1 : a ≤ p) (h2 : p < a + 16) (h3 : p < 48) : Inv x a (y ^^^ 2 ^ (8 * (p / 8) + (7 - p % 8))) := by
  refine ⟨Nat.xor_lt_two_pow h.1 (Nat.pow_lt_pow_right (by decide) (by omega)), fun t ht => ?_⟩
  by_cases q : t = 8 * (p / 8) + (7 - p % 8)
  · exact ⟨p, h1, h2, h3, q⟩
  · refine h.2 t ?_
    rw [Nat.testBit_xor, Nat.testBit_two_pow, decide_eq_false (fun e => q e.symm), Bool.xor_false] at ht
    exact ht
/-- The end: neighbouring bits of the numbers. -/
theorem turned_nums (x y a : Nat) (hs : SumOk x) (h : Inv x a y) (hne : y ≠ x) : decS (y : Int) = (0, 0, 0, 2) := by
  refine bad_word _ (by omega) ?_
  have ht : y / 2 ^ 48 = x / 2 ^ 48 := by
    apply Nat.eq_of_testBit_eq
    intro t
    rw [Nat.testBit_div_two_pow, Nat.testBit_div_two_pow]
    by_cases q : y.testBit (t + 48) = x.testBit (t + 48)
    · exact q
    · obtain ⟨p, _, _, h3, h4⟩ := h.2 _ q
      exfalso; omega
  have hm : y % 2 ^ 48 ≠ x % 2 ^ 48 := by
    intro e
    apply hne
    have d1 := Nat.div_add_mod y (2 ^ 48)
    have d2 := Nat.div_add_mod x (2 ^ 48)
    rw [ht, e] at d1
    omega
  have key := told_slot (x % 2 ^ 48) (y % 2 ^ 48) a (Nat.mod_lt _ (by decide)) (Nat.mod_lt _ (by decide)) (fun t ht' hq => by
    rw [Nat.testBit_mod_two_pow, Nat.testBit_mod_two_pow, decide_eq_true ht', Bool.true_and, Bool.true_and] at hq
    obtain ⟨p, h1, h2, _, h4⟩ := h.2 t hq
    exact ⟨p, h1, h2, h4⟩) hm
  have c1 : ((y % 2 ^ 48 : Nat) : Int) = (y : Int) % 281474976710656 := by omega
  have c2 : ((x % 2 ^ 48 : Nat) : Int) = (x : Int) % 281474976710656 := by omega
  have hs' : (x : Int) / 281474976710656 = sumS ((x : Int) % 281474976710656) := hs
  rw [c1, c2, ← hs'] at key
  clear hs'
  intro e
  apply key
  rw [← e]
  have : (y : Int) / 281474976710656 = ((y / 2 ^ 48 : Nat) : Int) := by omega
  have : (x : Int) / 281474976710656 = ((x / 2 ^ 48 : Nat) : Int) := by omega
  omega
/-- The end: bits of the sum. -/
theorem turned_sum (x m : Nat) (hs : SumOk x) (hne : x ^^^ (m * 2 ^ 48) ≠ x) : decS ((x ^^^ (m * 2 ^ 48) : Nat) : Int) = (0, 0, 0, 2) := by
  have hl : (x ^^^ (m * 2 ^ 48)) % 2 ^ 48 = x % 2 ^ 48 := by
    rw [Nat.xor_mod_two_pow, Nat.mul_mod_left, Nat.xor_zero]
  generalize x ^^^ (m * 2 ^ 48) = y at *
  refine bad_word _ (by omega) ?_
  have c : (y : Int) % 281474976710656 = (x : Int) % 281474976710656 := by omega
  have hs' : (x : Int) / 281474976710656 = sumS ((x : Int) % 281474976710656) := hs
  rw [c, ← hs']
  clear hs'
  omega
theorem and1_16' (x : Nat) (h : x < 65536) : Go.bits .and .u16 (x : Int) 1 = ((x % 2 : Nat) : Int) := by
  have := Math.bits_and .u16 rfl x 1 (by show x < 2 ^ 16; omega) (by decide)
  rw [Nat.and_one_is_mod] at this; exact this
theorem shr16 (x n : Nat) (hn : n ≤ 16) : shr .u16 (x : Int) (n : Int) = ((x / 2 ^ n : Nat) : Int) := by
  unfold shr
  rw [Int.toNat_natCast, Nat.min_eq_left (by show n ≤ 16; omega)]; simp
theorem xor64 (x y : Nat) (hx : x < 2 ^ 64) (hy : y < 2 ^ 64) : Go.bits .xor .u64 (x : Int) (y : Int) = ((x ^^^ y : Nat) : Int) := Math.bits_xor .u64 rfl x y hx hy
theorem place_is (p : Nat) (h : p < 48) : wrap64 (wrap64 (wrap64 (8 * wrap64 (Int.tdiv (p : Int) 8)) + 7) - Int.tmod (p : Int) 8) = ((8 * (p / 8) + (7 - p % 8) : Nat) : Int) := by
  rw [Int.tdiv_eq_ediv_of_nonneg (by omega), Int.tmod_eq_emod_of_nonneg (by omega), w64 (n := ((p : Nat) : Int) / 8) (by omega) (by omega), w64 (n := 8 * (((p : Nat) : Int) / 8)) (by omega) (by omega), w64 (n := 8 * (((p : Nat) : Int) / 8) + 7) (by omega) (by omega), w64 (by omega) (by omega)]
  omega
theorem at_is (at_ : Int) (h : 0 ≤ at_) : wrap64 (Int.tmod at_ 64) = (((at_ % 64).toNat : Nat) : Int) := by
  rw [Int.tmod_eq_emod_of_nonneg h, w64 (by omega) (by omega)]; omega
theorem add_is (a i : Nat) (h : a ≤ 1000) (h' : i ≤ 1000) : wrap64 ((a : Int) + (i : Int)) = ((a + i : Nat) : Int) := by
  rw [w64 (by omega) (by omega)]; omega
theorem one_is (i : Nat) (h' : i ≤ 1000) : wrap64 ((i : Int) + 1) = ((i + 1 : Nat) : Int) := by
  rw [w64 (by omega) (by omega)]; omega
theorem mask_is (m : Nat) (h : m < 65536) : IntKind.u64.wrap (IntKind.u64.wrap (m : Int) * 281474976710656) = ((m * 2 ^ 48 : Nat) : Int) := by
  rw [u64_fit (n := (m : Int)) (by omega) (by omega), u64_fit (by omega) (by omega)]; simp
theorem mask_lt (m : Nat) (h : m < 65536) : m * 2 ^ 48 < 2 ^ 64 := by omega
theorem dec_nat (y : Nat) (h : y < 2 ^ 64) : Ev (fun k => slot_Decode.f k (y : Int)) (decS (y : Int)) := dec_f (y : Int) (by omega) (by omega)
theorem turned_loop (at_ : Int) (m x : Nat) (h0 : 0 ≤ at_) (hm : m < 65536) (hx : x < 2 ^ 64) (hs : SumOk x) (a : Nat) (hae : (at_ % 64).toNat = a) (ha : a < 64) :
    ∀ (d i y : Nat), 16 - i = d → i ≤ 16 → Inv x a y → Ev (fun k => cantlelaw07_SlotTurned.l0 k at_ (m : Int) (x : Int) (y : Int) (i : Int)) true
  | 0, i, y, hd, hi, hinv => by
    have hi16 : ¬ ((i : Int) < 16) := by omega
    by_cases hat : Int.tmod at_ 64 ≥ 48
    · by_cases hxy : x ^^^ (m * 2 ^ 48) = x
      · refine Ev.step (f := fun _ => some true) (fun k => ?_) (Ev.now _)
        simp only [cantlelaw07_SlotTurned.l0]
        rw [if_neg hi16, if_pos hat, mask_is m hm, xor64 x _ hx (mask_lt m hm), if_pos (by rw [hxy])]
      · have hd := dec_nat (x ^^^ (m * 2 ^ 48)) (Nat.xor_lt_two_pow hx (mask_lt m hm))
        rw [turned_sum x m hs hxy] at hd
        refine Ev.step (fun k => ?_) (Ev.bind hd (f := fun (_ : Nat) (bt169 : Int × Int × Int × Int) => (if bt169.2.2.2 = 2 then (some (bt169.1 == 0 && (bt169.2.1 == 0 && (bt169.2.2.1 == 0)))) else (some false))) (Ev.now true))
        simp only [cantlelaw07_SlotTurned.l0]
        rw [if_neg hi16, if_pos hat, mask_is m hm, xor64 x _ hx (mask_lt m hm), if_neg (fun e => hxy (by exact_mod_cast e))]
    · by_cases hxy : y = x
      · refine Ev.step (f := fun _ => some true) (fun k => ?_) (Ev.now _)
        simp only [cantlelaw07_SlotTurned.l0]
        rw [if_neg hi16, if_neg hat, if_pos (by rw [hxy])]
      · have hd := dec_nat y hinv.1
        rw [turned_nums x y _ hs hinv hxy] at hd
        refine Ev.step (fun k => ?_) (Ev.bind hd (f := fun (_ : Nat) (bt174 : Int × Int × Int × Int) => (if bt174.2.2.2 = 2 then (some (bt174.1 == 0 && (bt174.2.1 == 0 && (bt174.2.2.1 == 0)))) else (some false))) (Ev.now true))
        simp only [cantlelaw07_SlotTurned.l0]
        rw [if_neg hi16, if_neg hat, if_neg (fun e => hxy (by exact_mod_cast e))]
  | d + 1, i, y, hd, hi, hinv => by
    have hi16 : (i : Int) < 16 := by omega
    have hi0 : (0 : Int) ≤ (i : Int) := by omega
    have ih := fun y' => turned_loop at_ m x h0 hm hx hs a hae ha d (i + 1) y' (by omega) (by omega)
    by_cases hk : a + i < 48
    · have hk' : ((a + i : Nat) : Int) < 48 := by omega
      by_cases hbit : m / 2 ^ i % 2 = 1
      · have hj : 8 * ((a + i) / 8) + (7 - (a + i) % 8) < 64 := by omega
        have hj0 : (0 : Int) ≤ ((8 * ((a + i) / 8) + (7 - (a + i) % 8) : Nat) : Int) := by omega
        refine Ev.step (fun k => ?_) (ih _ (inv_flip hinv (p := a + i) (by omega) (by omega) hk))
        simp only [cantlelaw07_SlotTurned.l0]
        rw [if_pos hi16, at_is at_ h0, hae, add_is a i (by omega) (by omega), if_pos hk', if_pos hi0, shr16 m i (by omega), and1_16' _ (Nat.lt_of_le_of_lt (Nat.div_le_self _ _) hm), if_pos (by rw [hbit]; rfl), place_is _ hk, if_pos hj0, shl_one _ hj, xor64 y _ hinv.1 (Nat.pow_lt_pow_right (by decide) hj), one_is i (by omega)]
      · refine Ev.step (fun k => ?_) (ih _ hinv)
        simp only [cantlelaw07_SlotTurned.l0]
        rw [if_pos hi16, at_is at_ h0, hae, add_is a i (by omega) (by omega), if_pos hk', if_pos hi0, shr16 m i (by omega), and1_16' _ (Nat.lt_of_le_of_lt (Nat.div_le_self _ _) hm), if_neg (fun e => hbit (by exact_mod_cast e)), one_is i (by omega)]
    · refine Ev.step (fun k => ?_) (ih _ hinv)
      simp only [cantlelaw07_SlotTurned.l0]
      rw [if_pos hi16, at_is at_ h0, hae, add_is a i (by omega) (by omega), if_neg (show ¬ ((a + i : Nat) : Int) < 48 from by omega), one_is i (by omega)]
theorem SlotTurned : cantlelaw07_SlotTurned.Pure := by
  intro start count next at_ mask hs hc hn ha hm
  obtain ⟨s0, s1⟩ := wf_u16 hs
  obtain ⟨c0, c1⟩ := wf_u16 hc
  obtain ⟨n0, n1⟩ := wf_u16 hn
  obtain ⟨a0, a1⟩ := wf_u8 ha
  obtain ⟨m0, m1⟩ := wf_u16 hm
  refine Ev.rounds (r := true) ?_
  unfold cantlelaw07_SlotTurned.f
  refine Ev.bind slot_lives ?_
  have es : Int.tmod (wrap64 start) 60000 = start % 60000 := by rw [w64 (by omega) (by omega), Int.tmod_eq_emod_of_nonneg s0]
  have ec : wrap64 (1 + Int.tmod (wrap64 count) 5000) = 1 + count % 5000 := by rw [w64 (n := count) (by omega) (by omega), Int.tmod_eq_emod_of_nonneg c0, w64 (by omega) (by omega)]
  have en : wrap64 (Int.tmod (wrap64 next) 65535 - 1) = next % 65535 - 1 := by rw [w64 (n := next) (by omega) (by omega), Int.tmod_eq_emod_of_nonneg n0, w64 (by omega) (by omega)]
  simp only [if_true, es, ec, en]
  have he := enc_f (start % 60000) (1 + count % 5000) (next % 65535 - 1) (by omega)
  have hmay : mayS (start % 60000) (1 + count % 5000) (next % 65535 - 1) := by unfold mayS; omega
  rw [show encS (start % 60000) (1 + count % 5000) (next % 65535 - 1) = (wordS (start % 60000) (1 + count % 5000) (next % 65535 - 1), 0) from if_pos hmay] at he
  refine Ev.bind he ?_
  simp only [if_true]
  unfold wordS
  have hx : 0 ≤ X3 (start % 60000) (1 + count % 5000) (nx (next % 65535 - 1)) ∧ X3 (start % 60000) (1 + count % 5000) (nx (next % 65535 - 1)) < 281474976710656 := by unfold X3 nx; split <;> omega
  generalize X3 (start % 60000) (1 + count % 5000) (nx (next % 65535 - 1)) = X at hx
  obtain ⟨t0, t1⟩ := sumS_range X
  have hr : 0 ≤ X + sumS X * 281474976710656 ∧ X + sumS X * 281474976710656 < 18446744073709551616 := by omega
  have hs : (X + sumS X * 281474976710656) / 281474976710656 = sumS ((X + sumS X * 281474976710656) % 281474976710656) := by
    have e : (X + sumS X * 281474976710656) % 281474976710656 = X := by omega
    rw [e]; omega
  generalize X + sumS X * 281474976710656 = x at hs hr
  obtain ⟨xn, rfl⟩ := Int.eq_ofNat_of_zero_le hr.1
  have hs' : SumOk xn := hs
  clear hs
  obtain ⟨mn, rfl⟩ := Int.eq_ofNat_of_zero_le m0
  exact turned_loop at_ mn xn a0 (by omega) (by omega) hs' _ rfl (by omega) 16 0 xn rfl (by omega) ⟨by omega, fun t ht => absurd rfl ht⟩
end Go.Proofs.Ytdccgedbgajidaa.Pure
