/- The law SlotDecodes of the pure program: of any word the slot, or that it is none's, is the document's. Conditions: the word is of its kind. -/
import Derived.Test.YtdccgedbgajidaaPSlotDecodesx5
import Derived.Test.YtdccgedbgajidaaCrc
namespace Go.Proofs.Ytdccgedbgajidaa.Pure
open Go.RowKit Go.Proofs.Ytdccgedbgajidaa.PSlotDecodes Go.Proofs.YtdccgedbgajidaaW.PrintWords Go.Proofs.YtdccgedbgajidaaW.PrintLast Go.Proofs.Ytdccgedbgajidaa.Math Go.Proofs.Ytdccgedbgajidaa
/-! ### pack.Split, by numbers -/
def sp : Int → Int → List Int → Option (List Int)
  | x, _, [] => if x = 0 then some [] else none
  | x, left, w :: ws => if w < 1 ∨ w > left then none else (sp (x / 2 ^ w.toNat) (left - w) ws).map (x % 2 ^ w.toNat :: ·)
def spR (out : List Int) : Option (List Int) → List Int × Bool
  | some r => (out ++ r, true)
  | none => ([], false)
theorem spR_map (out : List Int) (a : Int) : ∀ o : Option (List Int), spR out (o.map (a :: ·)) = spR (out ++ [a]) o
  | some r => by simp [spR]
  | none => rfl
theorem sp_length : ∀ (ws : List Int) (x left : Int) (r : List Int), sp x left ws = some r → r.length = ws.length
  | [], x, left, r, h => by
    simp only [sp] at h; split at h
    · cases h; rfl
    · cases h
  | w :: ws, x, left, r, h => by
    simp only [sp] at h; split at h
    · cases h
    · obtain ⟨q, hq, rfl⟩ := Option.map_eq_some_iff.mp h
      simp [sp_length ws _ _ q hq]
theorem split_ev : ∀ (ws pre : List Int) (x left : Int) (out : List Int), 0 ≤ x → x < 18446744073709551616 → 0 ≤ left → left ≤ 64 → pre.length + ws.length ≤ 1000000 → out.length ≤ pre.length →
    Ev (fun k => pack_Split.l0 k x out left (pre ++ ws) ((pre ++ ws).length : Int) (pre.length : Int)) (spR out (sp x left ws))
  | [], pre, x, left, out, h0, h1, hl0, hl, hb, ho => by
    refine Ev.step (f := fun _ => some (spR out (sp x left []))) (fun k => ?_) (Ev.now _)
    simp only [pack_Split.l0, List.append_nil]
    rw [if_neg (by omega)]
    simp only [sp]
    split <;> simp [spR]
  | w :: ws, pre, x, left, out, h0, h1, hl0, hl, hb, ho => by
    have hlen : (pre ++ w :: ws).length = pre.length + ws.length + 1 := by simp; omega
    simp only [List.length_cons] at hb
    by_cases hw : w < 1 ∨ w > left
    · refine Ev.step (f := fun _ => some (spR out (sp x left (w :: ws)))) (fun k => ?_) (Ev.now _)
      simp only [pack_Split.l0, rd_mid, hlen]
      rw [if_pos (by omega), if_pos (by omega), if_pos (by omega)]
      simp only [sp, if_pos hw, spR]
      by_cases hw1 : w < 1
      · rw [if_pos hw1]
      · rw [if_neg hw1, if_pos (by omega)]
    · have ih := split_ev ws (pre ++ [w]) (x / 2 ^ w.toNat) (left - w) (out ++ [x % 2 ^ w.toNat])
        (Int.ediv_nonneg h0 (Int.le_of_lt (pow_pos' _))) (Int.lt_of_le_of_lt (Int.ediv_le_self _ h0) h1) (by omega) (by omega) (by simp; omega) (by simp; omega)
      have e1 : pre ++ [w] ++ ws = pre ++ w :: ws := by simp
      have e2 : ((pre ++ [w]).length : Int) = (pre.length : Int) + 1 := by simp
      rw [e1, e2] at ih
      simp only [sp, if_neg hw, spR_map]
      refine Ev.step (fun k => ?_) ih
      simp only [pack_Split.l0, rd_mid, hlen]
      rw [if_pos (by omega), if_pos (by omega), if_pos (by omega), if_neg (by omega), if_neg (by omega), w64 (n := 64 - w) (by omega) (by omega), if_pos (by omega), if_pos (by omega), if_pos (by omega), shr_u64 x w (by omega) (by omega), cut_low x w (by omega) (by omega), w64 (n := left - w) (by omega) (by omega), w64 (n := (pre.length : Int) + 1) (by omega) (by omega)]
theorem split_f (x : Int) (ws : List Int) (h0 : 0 ≤ x) (h1 : x < 18446744073709551616) (hb : ws.length ≤ 1000000) :
    Ev (fun k => pack_Split.f k x ws) (spR [] (sp x 64 ws)) := split_ev ws [] x 64 [] h0 h1 (by omega) (by omega) (by simpa using hb) (by simp)
/-! ### pack.Pack, by numbers -/
def pk : Int → Int → List S80 → Option Int
  | acc, _, [] => some acc
  | acc, at_, f :: fs => if f.f0 < 1 ∨ f.f0 > 64 - at_ ∨ f.f1 ≥ 2 ^ f.f0.toNat then none else pk (acc + f.f1 * 2 ^ at_.toNat) (at_ + f.f0) fs
def pkR : Option Int → Int × Bool
  | some r => (r, true)
  | none => (0, false)
def fit (f : S80) : Prop := (-9223372036854775808 ≤ f.f0 ∧ f.f0 ≤ 9223372036854775807) ∧ 0 ≤ f.f1 ∧ f.f1 < 18446744073709551616
theorem may_is (f : S80) (h : fit f) : pack_Field_may.f f.f0 f.f1 = some (decide (1 ≤ f.f0 ∧ f.f0 ≤ 64 ∧ f.f1 < 2 ^ f.f0.toNat)) := by
  obtain ⟨⟨_, _⟩, h0, h1⟩ := h
  unfold pack_Field_may.f
  by_cases a : 1 ≤ f.f0
  · rw [if_pos (by omega)]
    by_cases b : f.f0 ≤ 64
    · rw [if_pos b]
      by_cases c : f.f0 = 64
      · rw [if_pos c]; rw [decide_eq_true]; refine ⟨a, b, ?_⟩; rw [c]; exact h1
      · rw [if_neg c, if_pos (by omega), shr_u64 _ _ (by omega) (by omega)]
        have : (f.f1 / 2 ^ f.f0.toNat == 0) = decide (f.f1 < 2 ^ f.f0.toNat) := by
          rw [Bool.eq_iff_iff]; simp only [beq_iff_eq, decide_eq_true_eq]
          constructor
          · intro e
            rcases Int.lt_or_le f.f1 (2 ^ f.f0.toNat) with hlt | hle
            · exact hlt
            · have := Int.le_ediv_of_mul_le (pow_pos' f.f0.toNat) (by omega : 1 * 2 ^ f.f0.toNat ≤ f.f1); omega
          · intro e; exact Int.ediv_eq_zero_of_lt h0 e
        rw [this]; simp [a, b]
    · rw [if_neg b]; simp [b]
  · rw [if_neg (by omega)]; simp [a]
theorem rd28_mid (pre : List S80) (f : S80) (fs : List S80) : rd_T80 (pre ++ f :: fs) (pre.length : Int) = f := by unfold rd_T80; simp
theorem pack_ev : ∀ (fs pre : List S80) (acc at_ : Int), (∀ f ∈ fs, fit f) → 0 ≤ at_ → at_ ≤ 64 → 0 ≤ acc → acc < 2 ^ at_.toNat → pre.length + fs.length ≤ 1000000 →
    Ev (fun k => pack_Pack.l0 k acc at_ (pre ++ fs) ((pre ++ fs).length : Int) (pre.length : Int)) (pkR (pk acc at_ fs))
  | [], pre, acc, at_, hf, h0, h1, ha0, ha, hb => by
    refine Ev.step (f := fun _ => some _) (fun k => ?_) (Ev.now _)
    simp only [pack_Pack.l0, List.append_nil]; rw [if_neg (by omega)]; rfl
  | f :: fs, pre, acc, at_, hf, h0, h1, ha0, ha, hb => by
    have hlen : (pre ++ f :: fs).length = pre.length + fs.length + 1 := by simp; omega
    simp only [List.length_cons] at hb
    have hfit := hf f List.mem_cons_self
    have hmay := may_is f hfit
    have e64 : wrap64 (64 - at_) = 64 - at_ := w64 (by omega) (by omega)
    have ei : wrap64 ((pre.length : Int) + 1) = (pre.length : Int) + 1 := w64 (by omega) (by omega)
    by_cases hw : f.f0 < 1 ∨ f.f0 > 64 - at_ ∨ f.f1 ≥ 2 ^ f.f0.toNat
    · refine Ev.step (f := fun _ => some (pkR (pk acc at_ (f :: fs)))) (fun k => ?_) (Ev.now _)
      simp only [pack_Pack.l0, rd28_mid, hlen, hmay, Option.bind_some]
      rw [if_pos (by omega), if_pos (by omega), if_pos (by omega)]
      simp only [pk, if_pos hw, pkR]
      by_cases hm : 1 ≤ f.f0 ∧ f.f0 ≤ 64 ∧ f.f1 < 2 ^ f.f0.toNat
      · rw [decide_eq_true hm, if_pos rfl, e64, if_pos (by omega)]
      · rw [decide_eq_false hm]; rfl
    · obtain ⟨⟨_, _⟩, hv0, hv1⟩ := hfit
      have hv : f.f1 < 2 ^ f.f0.toNat := by omega
      have hsum : acc + f.f1 * 2 ^ at_.toNat < 2 ^ (at_ + f.f0).toNat := by
        have e : (at_ + f.f0).toNat = f.f0.toNat + at_.toNat := by omega
        rw [e, pow_add']
        have h3 : (f.f1 + 1) * 2 ^ at_.toNat ≤ 2 ^ f.f0.toNat * 2 ^ at_.toNat := Int.mul_le_mul_of_nonneg_right (by omega) (Int.le_of_lt (pow_pos' _))
        rw [Int.add_mul, Int.one_mul] at h3; omega
      have hle : (2 : Int) ^ (at_ + f.f0).toNat ≤ 2 ^ 64 := pow_le' (by omega)
      have hmul : 0 ≤ f.f1 * 2 ^ at_.toNat := Int.mul_nonneg hv0 (Int.le_of_lt (pow_pos' _))
      have ih := pack_ev fs (pre ++ [f]) (acc + f.f1 * 2 ^ at_.toNat) (at_ + f.f0) (fun g hg => hf g (List.mem_cons_of_mem _ hg)) (by omega) (by omega) (by omega) hsum (by simp; omega)
      have e1 : pre ++ [f] ++ fs = pre ++ f :: fs := by simp
      have e2 : ((pre ++ [f]).length : Int) = (pre.length : Int) + 1 := by simp
      rw [e1, e2] at ih
      simp only [pk, if_neg hw]
      refine Ev.step (fun k => ?_) ih
      have eo : Go.bits .or .u64 acc (shl .u64 f.f1 at_) = acc + f.f1 * 2 ^ at_.toNat := by
        rw [shl_u64_fit _ _ h0 h1 hv0 (by omega)]
        exact or_above acc f.f1 at_.toNat ha0 ha hv0 (by omega)
      have ea : wrap64 (at_ + f.f0) = at_ + f.f0 := w64 (by omega) (by omega)
      simp only [pack_Pack.l0, rd28_mid, hlen, hmay, Option.bind_some]
      rw [if_pos (by omega), if_pos (by omega), if_pos (by omega), if_pos (by rw [decide_eq_true]; exact ⟨by omega, by omega, hv⟩), e64, if_neg (by omega), if_pos (by omega), eo, ea, ei]
theorem pack_f (fs : List S80) (hf : ∀ f ∈ fs, fit f) (hb : fs.length ≤ 1000000) : Ev (fun k => pack_Pack.f k fs) (pkR (pk 0 0 fs)) :=
  pack_ev fs [] 0 0 hf (by omega) (by omega) (by omega) (by simp) (by simpa using hb)
/-! ### crc.step32, crc.Sum32, by bits -/
theorem and1_32 (s : Nat) (h : s < 2 ^ 32) : Go.bits .and .u32 (s : Int) 1 = ((s % 2 : Nat) : Int) := by
  have := Math.bits_and .u32 rfl s 1 h (by decide)
  rw [Nat.and_one_is_mod] at this; exact this
theorem xorP_32 (s : Nat) (h : s < 2 ^ 32) : Go.bits .xor .u32 (s : Int) 3988292384 = ((s ^^^ Crc.P32 : Nat) : Int) :=
  Math.bits_xor .u32 rfl s Crc.P32 h Crc.P32_lt
def it32 : Nat → Nat → Nat
  | 0, s => s
  | d + 1, s => it32 d (Crc.z32 s)
theorem step32_ev : ∀ (d : Nat) (s : Nat) (i : Int), s < 2 ^ 32 → 0 ≤ i → 8 - i = d → Ev (fun k => crc_step32.l0 k (s : Int) i) ((it32 d s : Nat) : Int)
  | 0, s, i, hs, h0, hd => by
    refine Ev.step (f := fun _ => some _) (fun k => ?_) (Ev.now _)
    simp only [crc_step32.l0]; rw [if_neg (by omega)]; rfl
  | d + 1, s, i, hs, h0, hd => by
    have ih := step32_ev d (Crc.z32 s) (i + 1) (Crc.z32_lt hs) (by omega) (by omega)
    refine Ev.step (fun k => ?_) ih
    have e2 : ((s : Int) / 2) = ((s / 2 : Nat) : Int) := by simp
    simp only [crc_step32.l0]
    rw [if_pos (by omega), and1_32 s hs, e2, xorP_32 _ (by omega), w64 (n := i + 1) (by omega) (by omega)]
    unfold Crc.z32
    by_cases h : s % 2 = 1
    · rw [if_pos (by omega), if_pos h]
    · rw [if_neg (by omega), if_neg h]
theorem step32_f (s : Nat) (x : Int) (hs : s < 2 ^ 32) (h0 : 0 ≤ x) (h1 : x < 256) : Ev (fun k => crc_step32.f k (s : Int) x) (((Crc.lo x.toNat).foldl Crc.b32 s : Nat) : Int) := by
  obtain ⟨n, rfl⟩ := Int.eq_ofNat_of_zero_le h0
  have hn : n < 256 := by omega
  rw [Int.toNat_natCast, ← Crc.by32_bits s n hn]
  have hx : s ^^^ n < 2 ^ 32 := Nat.xor_lt_two_pow hs (by omega)
  have := step32_ev 8 (s ^^^ n) 0 hx (by omega) (by omega)
  refine Ev.congr (fun k => ?_) this
  unfold crc_step32.f
  rw [show ((n : Int) % 4294967296) = (n : Int) from by omega, Math.bits_xor .u32 rfl s n hs (by show n < 2 ^ 32; omega)]
def Oct (xs : List Int) : Prop := ∀ x ∈ xs, 0 ≤ x ∧ x < 256
def nats (xs : List Int) : List Nat := xs.map Int.toNat
theorem rdL1_mid (pre : List (List Int)) (w : List Int) (ws : List (List Int)) : rd_L4 (pre ++ w :: ws) (pre.length : Int) = w := by
  unfold rd_L4; simp
theorem sum32_row (ls : List (List Int)) (n j : Int) (r : Int) : ∀ (xs pre : List Int) (s : Nat), s < 2 ^ 32 → Oct xs → pre.length + xs.length ≤ 1000000000000 → 
    Ev (fun k => crc_Sum32.l0 k ((Crc.c32 s (nats xs) : Nat) : Int) ls n (wrap64 (j + 1))) r →
    Ev (fun k => crc_Sum32.l1 k (s : Int) ls n j (pre ++ xs) ((pre ++ xs).length : Int) (pre.length : Int)) r
  | [], pre, s, hs, ho, hb, h => by
    refine Ev.step (fun k => ?_) h
    simp only [crc_Sum32.l1, List.append_nil]; rw [if_neg (by omega)]; rfl
  | x :: xs, pre, s, hs, ho, hb, h => by
    simp only [List.length_cons] at hb
    have hlen : (pre ++ x :: xs).length = pre.length + xs.length + 1 := by simp; omega
    obtain ⟨hx0, hx1⟩ := ho x List.mem_cons_self
    have hs' : (Crc.lo x.toNat).foldl Crc.b32 s < 2 ^ 32 := Crc.f32_lt _ hs
    have ih := sum32_row ls n j r xs (pre ++ [x]) ((Crc.lo x.toNat).foldl Crc.b32 s) hs' (fun y hy => ho y (List.mem_cons_of_mem _ hy)) (by simp; omega) (by
      have e : Crc.c32 s (nats (x :: xs)) = Crc.c32 ((Crc.lo x.toNat).foldl Crc.b32 s) (nats xs) := Crc.c32_cons _ _ _
      rw [← e]; exact h)
    have e1 : pre ++ [x] ++ xs = pre ++ x :: xs := by simp
    have e2 : ((pre ++ [x]).length : Int) = (pre.length : Int) + 1 := by simp
    rw [e1, e2] at ih
    refine Ev.step (f := fun k => (crc_step32.f k (s : Int) x).bind fun t => crc_Sum32.l1 k t ls n j (pre ++ x :: xs) ((pre ++ x :: xs).length : Int) ((pre.length : Int) + 1)) (fun k => ?_) (Ev.bind (step32_f s x hs hx0 hx1) ih)
    simp only [crc_Sum32.l1, hlen, rd_mid]
    rw [if_pos (by omega), if_pos (by omega), if_pos (by omega), w64 (n := (pre.length : Int) + 1) (by omega) (by omega)]
theorem sum32_ev : ∀ (L P : List (List Int)) (s : Nat), s < 2 ^ 32 → (∀ xs ∈ L, Oct xs ∧ xs.length ≤ 1000000000) → P.length + L.length ≤ 1000000000 →
    Ev (fun k => crc_Sum32.l0 k (s : Int) (P ++ L) ((P ++ L).length : Int) (P.length : Int)) (Go.bits .xor .u32 4294967295 ((Crc.c32 s (nats L.flatten) : Nat) : Int))
  | [], P, s, hs, ho, hb => by
    refine Ev.step (f := fun _ => some _) (fun k => ?_) (Ev.now _)
    simp only [crc_Sum32.l0, List.append_nil]; rw [if_neg (by omega)]; rfl
  | xs :: L, P, s, hs, ho, hb => by
    simp only [List.length_cons] at hb
    have hlen : (P ++ xs :: L).length = P.length + L.length + 1 := by simp; omega
    obtain ⟨hx, hl⟩ := ho xs List.mem_cons_self
    have ih := sum32_ev L (P ++ [xs]) (Crc.c32 s (nats xs)) (Crc.c32_lt _ hs) (fun y hy => ho y (List.mem_cons_of_mem _ hy)) (by simp; omega)
    have e1 : P ++ [xs] ++ L = P ++ xs :: L := by simp
    have e2 : ((P ++ [xs]).length : Int) = wrap64 ((P.length : Int) + 1) := by rw [w64 (n := (P.length : Int) + 1) (by omega) (by omega)]; simp
    have e3 : Crc.c32 (Crc.c32 s (nats xs)) (nats L.flatten) = Crc.c32 s (nats (xs :: L).flatten) := by
      rw [← Crc.c32_append]; simp [nats]
    rw [e1, e2, e3] at ih
    have h1 := sum32_row (P ++ xs :: L) ((P ++ xs :: L).length : Int) (P.length : Int) _ xs [] s hs hx (by simp; omega) ih
    refine Ev.step (fun k => ?_) h1
    simp only [crc_Sum32.l0, hlen, rdL1_mid]
    rw [if_pos (by omega), if_pos (by omega), if_pos (by omega)]; rfl
theorem ones32 (s : Nat) (h : s < 2 ^ 32) : Go.bits .xor .u32 4294967295 (s : Int) = 4294967295 - s := by
  have h1 := Math.bits_xor .u32 rfl 4294967295 s (by decide) h
  have h2 : 4294967295 ^^^ s = 2 ^ 32 - (s + 1) := by
    apply Nat.eq_of_testBit_eq
    intro i
    rw [Nat.testBit_two_pow_sub_succ h, Nat.testBit_xor, show (4294967295 : Nat) = 2 ^ 32 - 1 from rfl, Nat.testBit_two_pow_sub_one]
    by_cases hi : i < 32
    · simp [hi]
    · have := Nat.testBit_lt_two_pow (Nat.lt_of_lt_of_le h (Nat.pow_le_pow_right (by decide) (by omega : 32 ≤ i)))
      simp [hi, this]
  rw [h2] at h1
  refine h1.trans ?_
  omega
def S32 (xs : List Int) : Int := 4294967295 - ((Crc.c32 4294967295 (nats xs) : Nat) : Int)
theorem sum32_f (L : List (List Int)) (ho : ∀ xs ∈ L, Oct xs ∧ xs.length ≤ 1000000000) (hb : L.length ≤ 1000000000) : Ev (fun k => crc_Sum32.f k L) (S32 L.flatten) := by
  have := sum32_ev L [] 4294967295 (by decide) ho (by simpa using hb)
  rw [ones32 _ (Crc.c32_lt _ (by decide))] at this
  exact this
theorem S32_range (xs : List Int) : 0 ≤ S32 xs ∧ S32 xs < 4294967296 := by
  have := Crc.c32_lt (s := 4294967295) (nats xs) (by decide)
  unfold S32; omega
/-! ### crc.step16, crc.Sum16, by bits -/
theorem and_top (s : Nat) (h : s < 65536) : (Go.bits .and .u16 (s : Int) 32768 = 0) ↔ s / 32768 = 0 := by
  have h1 := Math.bits_and .u16 rfl s 32768 h (by decide)
  have h2 : (s &&& 32768 = 0) ↔ s / 32768 = 0 := by
    constructor
    · intro e
      have e1 : (s &&& 2 ^ 15).testBit 15 = false := by rw [show (2 : Nat) ^ 15 = 32768 from rfl, e]; simp
      rw [Nat.testBit_and, Nat.testBit_two_pow_self, Bool.and_true] at e1
      rcases Crc.bit_cases (a := s / 32768) (by omega) with q | q
      · exact q
      · have : s.testBit 15 = true := by rw [Nat.testBit_eq_decide_div_mod_eq]; simp; omega
        rw [this] at e1; cases e1
    · intro e
      have hs : s < 2 ^ 15 := by show s < 32768; omega
      apply Nat.eq_of_testBit_eq
      intro i
      rw [Nat.testBit_and, show (32768 : Nat) = 2 ^ 15 from rfl, Nat.testBit_two_pow]
      by_cases hi : 15 = i
      · subst hi; simp [Nat.testBit_lt_two_pow hs]
      · simp [hi]
  rw [← h2]
  constructor
  · intro e; have := h1.symm.trans e; exact_mod_cast this
  · intro e; exact h1.trans (by rw [e]; rfl)
theorem xorP_16 (s : Nat) (h : s < 65536) : Go.bits .xor .u16 (s : Int) 4129 = ((s ^^^ Crc.P16 : Nat) : Int) :=
  Math.bits_xor .u16 rfl s Crc.P16 h Crc.P16_lt
theorem twice_16 (s : Nat) : IntKind.u16.wrap ((s : Int) * 2) = ((s * 2 % 65536 : Nat) : Int) := by
  rw [Math.wrap_u .u16 rfl]; show (s : Int) * 2 % 65536 = _; omega
def it16 : Nat → Nat → Nat
  | 0, s => s
  | d + 1, s => it16 d (Crc.z16 s)
theorem step16_ev : ∀ (d : Nat) (s : Nat) (i : Int), s < 65536 → 0 ≤ i → 8 - i = d → Ev (fun k => crc_step16.l0 k (s : Int) i) ((it16 d s : Nat) : Int)
  | 0, s, i, hs, h0, hd => by
    refine Ev.step (f := fun _ => some _) (fun k => ?_) (Ev.now _)
    simp only [crc_step16.l0]; rw [if_neg (by omega)]; rfl
  | d + 1, s, i, hs, h0, hd => by
    have ih := step16_ev d (Crc.z16 s) (i + 1) (Crc.z16_lt s) (by omega) (by omega)
    refine Ev.step (fun k => ?_) ih
    have ht := and_top s hs
    simp only [crc_step16.l0]
    rw [if_pos (by omega), twice_16, xorP_16 _ (by omega), w64 (n := i + 1) (by omega) (by omega)]
    unfold Crc.z16
    by_cases h : s / 32768 = 0
    · rw [if_pos (ht.mpr h), if_pos h]
    · rw [if_neg (fun e => h (ht.mp e)), if_neg h]
theorem step16_f (s : Nat) (x : Int) (hs : s < 65536) (h0 : 0 ≤ x) (h1 : x < 256) : Ev (fun k => crc_step16.f k (s : Int) x) (((Crc.hi x.toNat).foldl Crc.b16 s : Nat) : Int) := by
  obtain ⟨n, rfl⟩ := Int.eq_ofNat_of_zero_le h0
  have hn : n < 256 := by omega
  rw [Int.toNat_natCast, ← Crc.by16_bits s n hs hn]
  have hx : s ^^^ (n * 256) < 2 ^ 16 := Nat.xor_lt_two_pow hs (by omega)
  have := step16_ev 8 (s ^^^ (n * 256)) 0 hx (by omega) (by omega)
  refine Ev.congr (fun k => ?_) this
  unfold crc_step16.f
  have e1 : IntKind.u16.wrap (n : Int) = n := u16_fit (by omega) (by omega)
  have e2 : IntKind.u16.wrap ((n : Int) * 256) = ((n * 256 : Nat) : Int) := by rw [u16_fit (by omega) (by omega)]; simp
  rw [e1, e2, Math.bits_xor .u16 rfl s (n * 256) hs (by show n * 256 < 2 ^ 16; omega)]
theorem sum16_row (ls : List (List Int)) (n j : Int) (r : Int) : ∀ (xs pre : List Int) (s : Nat), s < 65536 → Oct xs → pre.length + xs.length ≤ 1000000000000 → 
    Ev (fun k => crc_Sum16.l0 k ((Crc.c16 s (nats xs) : Nat) : Int) ls n (wrap64 (j + 1))) r →
    Ev (fun k => crc_Sum16.l1 k (s : Int) ls n j (pre ++ xs) ((pre ++ xs).length : Int) (pre.length : Int)) r
  | [], pre, s, hs, ho, hb, h => by
    refine Ev.step (fun k => ?_) h
    simp only [crc_Sum16.l1, List.append_nil]; rw [if_neg (by omega)]; rfl
  | x :: xs, pre, s, hs, ho, hb, h => by
    simp only [List.length_cons] at hb
    have hlen : (pre ++ x :: xs).length = pre.length + xs.length + 1 := by simp; omega
    obtain ⟨hx0, hx1⟩ := ho x List.mem_cons_self
    have hs' : (Crc.hi x.toNat).foldl Crc.b16 s < 65536 := Crc.f16_lt _ hs
    have ih := sum16_row ls n j r xs (pre ++ [x]) ((Crc.hi x.toNat).foldl Crc.b16 s) hs' (fun y hy => ho y (List.mem_cons_of_mem _ hy)) (by simp; omega) (by
      have e : Crc.c16 s (nats (x :: xs)) = Crc.c16 ((Crc.hi x.toNat).foldl Crc.b16 s) (nats xs) := Crc.c16_cons _ _ _
      rw [← e]; exact h)
    have e1 : pre ++ [x] ++ xs = pre ++ x :: xs := by simp
    have e2 : ((pre ++ [x]).length : Int) = (pre.length : Int) + 1 := by simp
    rw [e1, e2] at ih
    refine Ev.step (f := fun k => (crc_step16.f k (s : Int) x).bind fun t => crc_Sum16.l1 k t ls n j (pre ++ x :: xs) ((pre ++ x :: xs).length : Int) ((pre.length : Int) + 1)) (fun k => ?_) (Ev.bind (step16_f s x hs hx0 hx1) ih)
    simp only [crc_Sum16.l1, hlen, rd_mid]
    rw [if_pos (by omega), if_pos (by omega), if_pos (by omega), w64 (n := (pre.length : Int) + 1) (by omega) (by omega)]
theorem sum16_ev : ∀ (L P : List (List Int)) (s : Nat), s < 65536 → (∀ xs ∈ L, Oct xs ∧ xs.length ≤ 1000000000) → P.length + L.length ≤ 1000000000 →
    Ev (fun k => crc_Sum16.l0 k (s : Int) (P ++ L) ((P ++ L).length : Int) (P.length : Int)) ((Crc.c16 s (nats L.flatten) : Nat) : Int)
  | [], P, s, hs, ho, hb => by
    refine Ev.step (f := fun _ => some _) (fun k => ?_) (Ev.now _)
    simp only [crc_Sum16.l0, List.append_nil]; rw [if_neg (by omega)]; rfl
  | xs :: L, P, s, hs, ho, hb => by
    simp only [List.length_cons] at hb
    have hlen : (P ++ xs :: L).length = P.length + L.length + 1 := by simp; omega
    obtain ⟨hx, hl⟩ := ho xs List.mem_cons_self
    have ih := sum16_ev L (P ++ [xs]) (Crc.c16 s (nats xs)) (Crc.c16_lt _ hs) (fun y hy => ho y (List.mem_cons_of_mem _ hy)) (by simp; omega)
    have e1 : P ++ [xs] ++ L = P ++ xs :: L := by simp
    have e2 : ((P ++ [xs]).length : Int) = wrap64 ((P.length : Int) + 1) := by rw [w64 (n := (P.length : Int) + 1) (by omega) (by omega)]; simp
    have e3 : Crc.c16 (Crc.c16 s (nats xs)) (nats L.flatten) = Crc.c16 s (nats (xs :: L).flatten) := by
      rw [← Crc.c16_append]; simp [nats]
    rw [e1, e2, e3] at ih
    have h1 := sum16_row (P ++ xs :: L) ((P ++ xs :: L).length : Int) (P.length : Int) _ xs [] s hs hx (by simp; omega) ih
    refine Ev.step (fun k => ?_) h1
    simp only [crc_Sum16.l0, hlen, rdL1_mid]
    rw [if_pos (by omega), if_pos (by omega), if_pos (by omega)]; rfl
def S16 (xs : List Int) : Int := ((Crc.c16 65535 (nats xs) : Nat) : Int)
theorem sum16_f (L : List (List Int)) (ho : ∀ xs ∈ L, Oct xs ∧ xs.length ≤ 1000000000) (hb : L.length ≤ 1000000000) : Ev (fun k => crc_Sum16.f k L) (S16 L.flatten) :=
  sum16_ev L [] 65535 (by decide) ho (by simpa using hb)
theorem S16_range (xs : List Int) : 0 ≤ S16 xs ∧ S16 xs < 65536 := by
  have : Crc.c16 65535 (nats xs) < 65536 := Crc.c16_lt (s := 65535) (nats xs) (by decide)
  unfold S16; omega
/-! ### the document's sums of a text -/
def nb (s : ByteArray) : List Nat := s.data.toList.map UInt8.toNat
theorem nb_length (s : ByteArray) : (nb s).length = s.size := by unfold nb; rw [List.length_map, Array.length_toList]; rfl
theorem bt_nb (s : ByteArray) (i : Nat) (h : i < s.size) : bt s (i : Int) = (((nb s).getD i 0 : Nat) : Int) := by
  unfold bt
  rw [dif_pos (by simpa using h)]
  simp [nb, List.getD_eq_getElem?_getD, ByteArray.getElem_eq_getElem_data, h]
theorem nb_lt (s : ByteArray) (i : Nat) : (nb s).getD i 0 < 256 := by
  rw [List.getD_eq_getElem?_getD]
  rcases h : (nb s)[i]? with _ | x
  · simp
  · have hm := List.mem_of_getElem? h
    simp only [nb, List.mem_map] at hm
    obtain ⟨u, _, rfl⟩ := hm
    exact u.toNat_lt
theorem los_get : ∀ (l : List Nat) (i : Nat), i < 8 * l.length → (Crc.los l)[i]? = some (l.getD (i / 8) 0 / 2 ^ (i % 8) % 2)
  | [], i, h => by simp at h
  | x :: l, i, h => by
    simp only [List.length_cons] at h
    have e : Crc.los (x :: l) = Crc.lo x ++ Crc.los l := by simp [Crc.los]
    rw [e]
    by_cases hi : i < 8
    · rw [List.getElem?_append_left (by simp [Crc.lo]; omega)]
      have : i / 8 = 0 := by omega
      rw [this, show i % 8 = i from by omega]
      rcases i with _ | _ | _ | _ | _ | _ | _ | _ | i <;> first | omega | simp [Crc.lo]
    · rw [List.getElem?_append_right (by simp [Crc.lo]; omega), show i - (Crc.lo x).length = i - 8 from by simp [Crc.lo], los_get l (i - 8) (by omega)]
      rw [show (i - 8) % 8 = i % 8 from by omega, show i / 8 = (i - 8) / 8 + 1 from by omega]; rfl
theorem his_get : ∀ (l : List Nat) (i : Nat), i < 8 * l.length → (Crc.his l)[i]? = some (l.getD (i / 8) 0 / 2 ^ (7 - i % 8) % 2)
  | [], i, h => by simp at h
  | x :: l, i, h => by
    simp only [List.length_cons] at h
    have e : Crc.his (x :: l) = Crc.hi x ++ Crc.his l := by simp [Crc.his]
    rw [e]
    by_cases hi : i < 8
    · rw [List.getElem?_append_left (by simp [Crc.hi]; omega)]
      have : i / 8 = 0 := by omega
      rw [this, show i % 8 = i from by omega]
      rcases i with _ | _ | _ | _ | _ | _ | _ | _ | i <;> first | omega | simp [Crc.hi]
    · rw [List.getElem?_append_right (by simp [Crc.hi]; omega), show i - (Crc.hi x).length = i - 8 from by simp [Crc.hi], his_get l (i - 8) (by omega)]
      rw [show (i - 8) % 8 = i % 8 from by omega, show i / 8 = (i - 8) / 8 + 1 from by omega]; rfl
theorem los_length (l : List Nat) : (Crc.los l).length = 8 * l.length := by
  induction l with
  | nil => rfl
  | cons x l ih =>
    have e : Crc.los (x :: l) = Crc.lo x ++ Crc.los l := by simp [Crc.los]
    rw [e, List.length_append, ih]; simp [Crc.lo]; omega
theorem his_length (l : List Nat) : (Crc.his l).length = 8 * l.length := by
  induction l with
  | nil => rfl
  | cons x l ih =>
    have e : Crc.his (x :: l) = Crc.hi x ++ Crc.his l := by simp [Crc.his]
    rw [e, List.length_append, ih]; simp [Crc.hi]; omega
theorem drop_get {α : Type} {l : List α} {i : Nat} {a : α} (h : l[i]? = some a) : l.drop i = a :: l.drop (i + 1) := by
  obtain ⟨hl, e⟩ := List.getElem?_eq_some_iff.1 h
  rw [← e]; exact List.drop_eq_getElem_cons hl
theorem shr8 (x n : Nat) (hn : n ≤ 7) : shr .u8 (x : Int) (n : Int) = ((x / 2 ^ n : Nat) : Int) := by
  unfold shr
  rw [Int.toNat_natCast, Nat.min_eq_left (by show n ≤ 8; omega)]; simp
theorem and1_nat32 (x : Nat) (h : x < 256) : Go.bits .and .u32 (x : Int) 1 = ((x % 2 : Nat) : Int) := by
  have := Math.bits_and .u32 rfl x 1 (by show x < 2 ^ 32; omega) (by decide)
  rw [Nat.and_one_is_mod] at this; exact this
theorem and1_nat16 (x : Nat) (h : x < 256) : Go.bits .and .u16 (x : Int) 1 = ((x % 2 : Nat) : Int) := by
  have := Math.bits_and .u16 rfl x 1 (by show x < 2 ^ 16; omega) (by decide)
  rw [Nat.and_one_is_mod] at this; exact this
theorem div_pow_lt {x : Nat} (n : Nat) (h : x < 256) : x / 2 ^ n < 256 := Nat.lt_of_le_of_lt (Nat.div_le_self _ _) h
theorem nb_str (xs : List Int) (h : Oct xs) : nb (strOfNums xs) = nats xs := by
  simp only [nb, strOfNums, nats, List.map_map]
  apply List.map_congr_left
  intro x hx
  obtain ⟨h0, h1⟩ := h x hx
  simp [UInt8.toNat_ofNat']
  omega
theorem str_size (xs : List Int) : (strOfNums xs).size = xs.length := by simp [strOfNums, ByteArray.size]
theorem ref16_ev (s : ByteArray) (hb : s.size ≤ 1000000000) : ∀ (d i r : Nat), r < 65536 → i + d = 8 * s.size →
    Ev (fun k => cantleref02_Sum16.l0 k s (r : Int) (i : Int)) ((((Crc.his (nb s)).drop i).foldl Crc.b16 r : Nat) : Int)
  | 0, i, r, hr, hd => by
    rw [List.drop_of_length_le (by rw [his_length, nb_length]; omega)]
    refine Ev.step (f := fun _ => some _) (fun k => ?_) (Ev.now _)
    simp only [cantleref02_Sum16.l0, List.foldl_nil]
    rw [w64 (n := 8 * (s.size : Int)) (by omega) (by omega), if_neg (by omega)]
  | d + 1, i, r, hr, hd => by
    have hi : i < 8 * (nb s).length := by rw [nb_length]; omega
    have hg := drop_get (his_get (nb s) i hi)
    rw [hg, List.foldl_cons]
    have ih := ref16_ev s hb d (i + 1) (Crc.b16 r ((nb s).getD (i / 8) 0 / 2 ^ (7 - i % 8) % 2)) (Crc.b16_lt _ _) (by omega)
    refine Ev.step (fun k => ?_) ih
    have q1 : Int.tdiv (i : Int) 8 = ((i / 8 : Nat) : Int) := by rw [Int.tdiv_eq_ediv_of_nonneg (by omega)]; omega
    have q2 : wrap64 (7 - Int.tmod (i : Int) 8) = ((7 - i % 8 : Nat) : Int) := by rw [Int.tmod_eq_emod_of_nonneg (by omega), w64 (by omega) (by omega)]; omega
    have q3 : IntKind.u16.wrap (Int.tdiv (r : Int) 32768) = ((r / 32768 : Nat) : Int) := by rw [Int.tdiv_eq_ediv_of_nonneg (by omega), u16_fit (by omega) (by omega)]; simp
    have hx := nb_lt s (i / 8)
    have q4 : bt s ((i / 8 : Nat) : Int) = (((nb s).getD (i / 8) 0 : Nat) : Int) := bt_nb s (i / 8) (by omega)
    generalize hX : (nb s).getD (i / 8) 0 = X at *
    have q5 : IntKind.u16.wrap ((X / 2 ^ (7 - i % 8) : Nat) : Int) = ((X / 2 ^ (7 - i % 8) : Nat) : Int) := by
      have hy := div_pow_lt (7 - i % 8) hx
      generalize X / 2 ^ (7 - i % 8) = Y at hy ⊢
      exact u16_fit (by omega) (by omega)
    have h8 : i / 8 < s.size := by omega
    clear hg hi ih
    simp only [cantleref02_Sum16.l0]
    rw [w64 (n := 8 * (s.size : Int)) (by omega) (by omega), if_pos (by omega), q1, w64 (n := ((i / 8 : Nat) : Int)) (by omega) (by omega), if_pos (by omega), if_pos (by omega), q2, if_pos (by omega), q4, shr8 _ _ (by omega), q5, and1_nat16 _ (div_pow_lt _ hx), q3, twice_16, xorP_16 _ (by omega), w64 (n := (i : Int) + 1) (by omega) (by omega)]
    unfold Crc.b16
    by_cases h : X / 2 ^ (7 - i % 8) % 2 = r / 32768
    · rw [if_pos (by rw [h]), if_pos h]; rfl
    · rw [if_neg (fun e => h (by exact_mod_cast e)), if_neg h]; rfl
theorem ref16_f (s : ByteArray) (hb : s.size ≤ 1000000000) : Ev (fun k => cantleref02_Sum16.f k s) ((Crc.c16 65535 (nb s) : Nat) : Int) :=
  ref16_ev s hb (8 * s.size) 0 65535 (by decide) (by omega)
/-! ### a word's bytes -/
def w8from (x : Int) : Nat → List Int
  | 0 => []
  | d + 1 => x % 256 :: w8from (x / 2 ^ 8) d
def octs (l : List Int) : List Int := l.flatMap fun x => w8from x 8
theorem w8from_length : ∀ (d : Nat) (x : Int), (w8from x d).length = d
  | 0, _ => rfl
  | d + 1, x => by simp [w8from, w8from_length d]
theorem w8from_oct : ∀ (d : Nat) (x : Int), ∀ y ∈ w8from x d, 0 ≤ y ∧ y < 256
  | 0, _, y, h => by simp [w8from] at h
  | d + 1, x, y, h => by
    simp only [w8from, List.mem_cons] at h
    rcases h with rfl | h
    · omega
    · exact w8from_oct d _ y h
theorem octs_oct (l : List Int) : ∀ y ∈ octs l, 0 ≤ y ∧ y < 256 := by
  intro y h
  simp only [octs, List.mem_flatMap] at h
  obtain ⟨x, _, hx⟩ := h
  exact w8from_oct 8 x y hx
theorem octs_length (l : List Int) : (octs l).length = 8 * l.length := by
  induction l with
  | nil => rfl
  | cons x l ih =>
    have e : octs (x :: l) = w8from x 8 ++ octs l := by simp [octs]
    rw [e, List.length_append, ih, w8from_length]; simp; omega
/-! ### words' bytes: pack_Bytes -/
theorem pack_Bytes_row (ws : List Int) (n j : Int) (r : List Int) : ∀ (d : Nat) (x : Int) (i : Int) (out : List Int), 0 ≤ x → 0 ≤ i → 8 - i = d → out.length + d < 100000000000 →
    Ev (fun k => pack_Bytes.l0 k (out ++ w8from (x / 2 ^ (8 * i).toNat) d) ws n (wrap64 (j + 1))) r → Ev (fun k => pack_Bytes.l1 k out x ws n j i) r
  | 0, x, i, out, hx, h0, hd, hb, h => by
    refine Ev.step (fun k => ?_) h
    simp only [pack_Bytes.l1, w8from, List.append_nil]; rw [if_neg (by omega)]
  | d + 1, x, i, out, hx, h0, hd, hb, h => by
    have hs : (8 * (i + 1)).toNat = (8 * i).toNat + 8 := by omega
    have ih := pack_Bytes_row ws n j r d x (i + 1) (out ++ [x / 2 ^ (8 * i).toNat % 256]) hx (by omega) (by omega) (by simp; omega) (by
      rw [hs, pow_add', ← Int.ediv_ediv_of_nonneg (Int.le_of_lt (pow_pos' _))]
      have : out ++ [x / 2 ^ (8 * i).toNat % 256] ++ w8from (x / 2 ^ (8 * i).toNat / 2 ^ 8) d = out ++ w8from (x / 2 ^ (8 * i).toNat) (d + 1) := by simp [w8from]
      rw [this]; exact h)
    refine Ev.step (fun k => ?_) ih
    simp only [pack_Bytes.l1]
    rw [if_pos (by omega), w64 (n := 8 * i) (by omega) (by omega), if_pos (by omega), if_pos (by omega), shr_u64 x (8 * i) (by omega) (by omega), w64 (n := i + 1) (by omega) (by omega)]
theorem pack_Bytes_ev : ∀ (ws pre out : List Int), (∀ w ∈ ws, 0 ≤ w) → pre.length + ws.length ≤ 1000000000 → out.length ≤ 8 * pre.length →
    Ev (fun k => pack_Bytes.l0 k out (pre ++ ws) ((pre ++ ws).length : Int) (pre.length : Int)) (out ++ octs ws)
  | [], pre, out, hw, hb, ho => by
    refine Ev.step (f := fun _ => some _) (fun k => ?_) (Ev.now _)
    simp only [pack_Bytes.l0, List.append_nil]; rw [if_neg (by omega)]; simp [octs]
  | w :: ws, pre, out, hw, hb, ho => by
    simp only [List.length_cons] at hb
    have hlen : (pre ++ w :: ws).length = pre.length + ws.length + 1 := by simp; omega
    have ih := pack_Bytes_ev ws (pre ++ [w]) (out ++ w8from w 8) (fun y hy => hw y (List.mem_cons_of_mem _ hy)) (by simp; omega) (by simp [w8from_length]; omega)
    have e1 : pre ++ [w] ++ ws = pre ++ w :: ws := by simp
    have e2 : ((pre ++ [w]).length : Int) = wrap64 ((pre.length : Int) + 1) := by rw [w64 (n := (pre.length : Int) + 1) (by omega) (by omega)]; simp
    have e3 : out ++ w8from w 8 ++ octs ws = out ++ octs (w :: ws) := by simp [octs]
    rw [e1, e2, e3] at ih
    have h1 := pack_Bytes_row (pre ++ w :: ws) ((pre ++ w :: ws).length : Int) (pre.length : Int) _ 8 w 0 out (hw w List.mem_cons_self) (by omega) (by omega) (by omega) (by
      rw [show w / 2 ^ (8 * (0 : Int)).toNat = w from by simp]; exact ih)
    refine Ev.step (fun k => ?_) h1
    simp only [pack_Bytes.l0, hlen, rd_mid]
    rw [if_pos (by omega), if_pos (by omega), if_pos (by omega)]
theorem pack_Bytes_f (ws : List Int) (hw : ∀ w ∈ ws, 0 ≤ w) (hb : ws.length ≤ 1000000000) : Ev (fun k => pack_Bytes.f k ws) (octs ws) :=
  pack_Bytes_ev ws [] [] hw (by simpa using hb) (by simp)
/-! ### the document's bytes of words -/
theorem rbytes_row (ws : List Int) (n j : Int) (r : ByteArray) : ∀ (d : Nat) (x : Int) (i : Int) (out : List Int), 0 ≤ x → x < 18446744073709551616 → 0 ≤ i → 8 - i = d → out.length + d < 100000000000 →
    Ev (fun k => cantleref02_Bytes.l0 k (out ++ w8from x d) ws n (wrap64 (j + 1))) r → Ev (fun k => cantleref02_Bytes.l1 k out x ws n j i) r
  | 0, x, i, out, hx, hx1, h0, hd, hb, h => by
    refine Ev.step (fun k => ?_) h
    simp only [cantleref02_Bytes.l1, w8from, List.append_nil]; rw [if_neg (by omega)]
  | d + 1, x, i, out, hx, hx1, h0, hd, hb, h => by
    have ih := rbytes_row ws n j r d (x / 2 ^ 8) (i + 1) (out ++ [x % 256]) (by omega) (by omega) (by omega) (by omega) (by simp; omega) (by
      have : out ++ [x % 256] ++ w8from (x / 2 ^ 8) d = out ++ w8from x (d + 1) := by simp [w8from]
      rw [this]; exact h)
    refine Ev.step (fun k => ?_) ih
    have q1 : Int.tmod x 256 % 256 = x % 256 := by rw [Int.tmod_eq_emod_of_nonneg hx]; omega
    have q2 : IntKind.u64.wrap (Int.tdiv x 256) = x / 2 ^ 8 := by rw [Int.tdiv_eq_ediv_of_nonneg hx, u64_fit (by omega) (by omega)]; rfl
    simp only [cantleref02_Bytes.l1, q1, q2]
    rw [if_pos (by omega), if_pos (by omega), w64 (n := i + 1) (by omega) (by omega)]
theorem rbytes_ev : ∀ (ws pre out : List Int), (∀ w ∈ ws, 0 ≤ w ∧ w < 18446744073709551616) → pre.length + ws.length ≤ 1000000000 → out.length ≤ 8 * pre.length →
    Ev (fun k => cantleref02_Bytes.l0 k out (pre ++ ws) ((pre ++ ws).length : Int) (pre.length : Int)) (strOfNums (out ++ octs ws))
  | [], pre, out, hw, hb, ho => by
    refine Ev.step (f := fun _ => some _) (fun k => ?_) (Ev.now _)
    simp only [cantleref02_Bytes.l0, List.append_nil]; rw [if_neg (by omega)]; simp [octs]
  | w :: ws, pre, out, hw, hb, ho => by
    simp only [List.length_cons] at hb
    have hlen : (pre ++ w :: ws).length = pre.length + ws.length + 1 := by simp; omega
    have ih := rbytes_ev ws (pre ++ [w]) (out ++ w8from w 8) (fun y hy => hw y (List.mem_cons_of_mem _ hy)) (by simp; omega) (by simp [w8from_length]; omega)
    have e1 : pre ++ [w] ++ ws = pre ++ w :: ws := by simp
    have e2 : ((pre ++ [w]).length : Int) = wrap64 ((pre.length : Int) + 1) := by rw [w64 (n := (pre.length : Int) + 1) (by omega) (by omega)]; simp
    have e3 : out ++ w8from w 8 ++ octs ws = out ++ octs (w :: ws) := by simp [octs]
    rw [e1, e2, e3] at ih
    obtain ⟨hw0, hw1⟩ := hw w List.mem_cons_self
    have h1 := rbytes_row (pre ++ w :: ws) ((pre ++ w :: ws).length : Int) (pre.length : Int) _ 8 w 0 out hw0 hw1 (by omega) (by omega) (by omega) ih
    refine Ev.step (fun k => ?_) h1
    simp only [cantleref02_Bytes.l0, hlen, rd_mid]
    rw [if_pos (by omega), if_pos (by omega), if_pos (by omega)]
theorem rbytes_f (ws : List Int) (hw : ∀ w ∈ ws, 0 ≤ w ∧ w < 18446744073709551616) (hb : ws.length ≤ 1000000000) : Ev (fun k => cantleref02_Bytes.f k ws) (strOfNums (octs ws)) :=
  rbytes_ev ws [] [] hw (by simpa using hb) (by simp)
/-! ### slots, by numbers -/
def mayS (s c n : Int) : Prop := (0 ≤ s ∧ s < 65534) ∧ (1 ≤ c ∧ c ≤ 65534 - s) ∧ -1 ≤ n ∧ n < 65534
instance (s c n : Int) : Decidable (mayS s c n) := by unfold mayS; infer_instance
def nx (n : Int) : Int := if n ≥ 0 then n else 65535
def X3 (s c n : Int) : Int := s + c * 65536 + n * 4294967296
def sumS (x : Int) : Int := S16 ((octs [x]).take 6)
def wordS (s c n : Int) : Int := X3 s c (nx n) + sumS (X3 s c (nx n)) * 281474976710656
def encS (s c n : Int) : Int × Int := if mayS s c n then (wordS s c n, 0) else (0, 1)
theorem yes {p : Prop} [Decidable p] (h : p) : some true = some (decide p) := by rw [decide_eq_true h]
theorem no {p : Prop} [Decidable p] (h : ¬ p) : some false = some (decide p) := by rw [decide_eq_false h]
theorem slotmay_is (s c n : Int) (hs : -9223372036854775808 ≤ s ∧ s ≤ 9223372036854775807) : slot_Slot_May.f s c n = some (decide (mayS s c n)) := by
  unfold slot_Slot_May.f
  by_cases a : s ≥ 0
  · rw [if_pos a]
    by_cases b : s < 65534
    · rw [if_pos b, w64 (n := 65534 - s) (by omega) (by omega)]
      by_cases d : c ≥ 1
      · rw [if_pos d]
        by_cases e : c ≤ 65534 - s
        · rw [if_pos e]
          by_cases f : n ≥ -1
          · rw [if_pos f]; congr 1; rw [decide_eq_decide]; unfold mayS; omega
          · rw [if_neg f]; refine no ?_; unfold mayS; omega
        · rw [if_neg e]; refine no ?_; unfold mayS; omega
      · rw [if_neg d]; refine no ?_; unfold mayS; omega
    · rw [if_neg b]; refine no ?_; unfold mayS; omega
  · rw [if_neg a]; refine no ?_; unfold mayS; omega
theorem sumS_range (x : Int) : 0 ≤ sumS x ∧ sumS x < 65536 := S16_range _
theorem take6 (x : Int) : (octs [x]).length = 8 := by rw [octs_length]; rfl
theorem sum6_f (x : Int) : Ev (fun k => crc_Sum16.f k [(octs [x]).take 6]) (sumS x) := by
  have h := sum16_f [(octs [x]).take 6] (fun xs hx => by
    obtain rfl : xs = (octs [x]).take 6 := by simpa using hx
    exact ⟨fun y hy => octs_oct [x] y (List.mem_of_mem_take hy), by rw [List.length_take, take6]; omega⟩) (by simp)
  rw [show [(octs [x]).take 6].flatten = (octs [x]).take 6 from by simp] at h
  exact h
/-- What Encode does of numbers that fit. -/
theorem encj_f (s c n n' : Int) (hs : 0 ≤ s ∧ s < 65536) (hc : 0 ≤ c ∧ c < 65536) (hn : 0 ≤ n' ∧ n' < 65536) :
    Ev (fun k => slot_Encode.j0 k n' s c n) (X3 s c n' + sumS (X3 s c n') * 281474976710656, 0) := by
  have es : IntKind.u64.wrap s = s := u64_fit (by omega) (by omega)
  have ec : IntKind.u64.wrap c = c := u64_fit (by omega) (by omega)
  have fs : fit (⟨16, s⟩ : S80) := ⟨⟨by show (-9223372036854775808 : Int) ≤ 16; omega, by show (16 : Int) ≤ _; omega⟩, by show 0 ≤ s; omega, by show s < _; omega⟩
  have fc : fit (⟨16, c⟩ : S80) := ⟨⟨by show (-9223372036854775808 : Int) ≤ 16; omega, by show (16 : Int) ≤ _; omega⟩, by show 0 ≤ c; omega, by show c < _; omega⟩
  have fn : fit (⟨16, n'⟩ : S80) := ⟨⟨by show (-9223372036854775808 : Int) ≤ 16; omega, by show (16 : Int) ≤ _; omega⟩, by show 0 ≤ n'; omega, by show n' < _; omega⟩
  have h3 : pk 0 0 [(⟨16, s⟩ : S80), ⟨16, c⟩, ⟨16, n'⟩] = some (X3 s c n') := by
    simp only [pk, X3]
    simp
    exact ⟨by omega, by omega, by omega⟩
  obtain ⟨t0, t1⟩ := sumS_range (X3 s c n')
  have ft : fit (⟨16, sumS (X3 s c n')⟩ : S80) := ⟨⟨by show (-9223372036854775808 : Int) ≤ 16; omega, by show (16 : Int) ≤ _; omega⟩, t0, by show sumS _ < _; omega⟩
  have h4 : ∀ t : Int, 0 ≤ t → t < 65536 → pk 0 0 ([(⟨16, s⟩ : S80), ⟨16, c⟩, ⟨16, n'⟩] ++ [⟨16, t⟩]) = some (X3 s c n' + t * 281474976710656) := by
    intro t h0 h1
    simp only [pk, X3, List.cons_append, List.nil_append]
    simp
    exact ⟨by omega, by omega, by omega, by omega⟩
  have p3 := pack_f [(⟨16, s⟩ : S80), ⟨16, c⟩, ⟨16, n'⟩] (by intro f hf; simp only [List.mem_cons, List.not_mem_nil, or_false] at hf; rcases hf with rfl | rfl | rfl <;> assumption) (by simp)
  have p4 := pack_f ([(⟨16, s⟩ : S80), ⟨16, c⟩, ⟨16, n'⟩] ++ [⟨16, sumS (X3 s c n')⟩]) (by intro f hf; simp only [List.cons_append, List.nil_append, List.mem_cons, List.not_mem_nil, or_false] at hf; rcases hf with rfl | rfl | rfl | rfl <;> assumption) (by simp)
  rw [h3] at p3
  rw [h4 _ t0 t1] at p4
  have hx0 : 0 ≤ X3 s c n' := by unfold X3; omega
  refine Ev.step (f := fun k => (pack_Pack.f k [(⟨16, s⟩ : S80), ⟨16, c⟩, ⟨16, n'⟩]).bind fun bt118 => ((pack_Bytes.f k (([bt118.1] : List Int))).bind fun t123 => (if 6 ≤ (t123.length : Int) then ((crc_Sum16.f k (([(t123.take 6)] : List (List Int)))).bind fun t134 => (if [(⟨16, s⟩ : S80), ⟨16, c⟩, ⟨16, n'⟩].length < 8796093022208 then ((pack_Pack.f k ([(⟨16, s⟩ : S80), ⟨16, c⟩, ⟨16, n'⟩] ++ [(⟨16, IntKind.u64.wrap (t134)⟩ : S80)])).bind fun bt138 => (some (bt138.1, 0))) else (none))) else (none)))) (fun k => by simp only [slot_Encode.j0, es, ec, Option.bind_some]) ?_
  refine Ev.bind p3 (Ev.bind (pack_Bytes_f [X3 s c n'] (fun w hw => by simp at hw; omega) (by simp)) ?_)
  refine Ev.congr (f := fun k => (crc_Sum16.f k [(octs [X3 s c n']).take 6]).bind fun t134 => (pack_Pack.f k ([(⟨16, s⟩ : S80), ⟨16, c⟩, ⟨16, n'⟩] ++ [⟨16, IntKind.u64.wrap t134⟩])).bind fun bt138 => some (bt138.1, 0)) (fun k => ?_) ?_
  · simp only [take6]; rw [if_pos (by decide)]; simp
  · refine Ev.bind (sum6_f _) ?_
    rw [u64_fit t0 (by omega)]
    exact Ev.bind p4 (Ev.now _)
theorem enc_f (s c n : Int) (hs : -9223372036854775808 ≤ s ∧ s ≤ 9223372036854775807) : Ev (fun k => slot_Encode.f k s c n) (encS s c n) := by
  unfold slot_Encode.f encS
  simp only [slotmay_is s c n hs, Option.bind_some]
  by_cases hm : mayS s c n
  · simp only [decide_eq_true hm, if_true, if_pos hm]
    obtain ⟨⟨a, b⟩, ⟨d, e⟩, f, g⟩ := hm
    unfold wordS nx
    by_cases h : n ≥ 0
    · simp only [if_pos h]
      rw [u64_fit h (by omega)]
      exact encj_f s c n n ⟨a, by omega⟩ ⟨by omega, by omega⟩ ⟨h, by omega⟩
    · simp only [if_neg h]
      exact encj_f s c n 65535 ⟨a, by omega⟩ ⟨by omega, by omega⟩ ⟨by omega, by omega⟩
  · simp only [decide_eq_false hm, if_neg hm, Bool.false_eq_true, if_false]
    exact Ev.now _
/-! ### a word's four numbers -/
def q0 (x : Int) : Int := x % 65536
def q1 (x : Int) : Int := x / 65536 % 65536
def q2 (x : Int) : Int := x / 4294967296 % 65536
def q3 (x : Int) : Int := x / 281474976710656
theorem split4 (x : Int) (h0 : 0 ≤ x) (h1 : x < 18446744073709551616) : Ev (fun k => pack_Split.f k x [16, 16, 16, 16]) ([q0 x, q1 x, q2 x, q3 x], true) := by
  have h := split_f x [16, 16, 16, 16] h0 h1 (by simp)
  have e : sp x 64 [16, 16, 16, 16] = some [q0 x, q1 x, q2 x, q3 x] := by
    simp only [sp, q0, q1, q2, q3]
    simp
    exact ⟨by omega, by omega, by omega⟩
  rw [e] at h
  exact h
def nxt (f : Int) : Int := if f = 65535 then -1 else f
def decS (x : Int) : Int × Int × Int × Int := if encS (q0 x) (q1 x) (nxt (q2 x)) = (x, 0) then (q0 x, q1 x, nxt (q2 x), 0) else (0, 0, 0, 2)
theorem q_range (x : Int) (_h0 : 0 ≤ x) : (0 ≤ q0 x ∧ q0 x < 65536) ∧ (0 ≤ q1 x ∧ q1 x < 65536) ∧ (0 ≤ q2 x ∧ q2 x < 65536) := by unfold q0 q1 q2; omega
theorem dec_f (x : Int) (h0 : 0 ≤ x) (h1 : x < 18446744073709551616) : Ev (fun k => slot_Decode.f k x) (decS x) := by
  obtain ⟨⟨a0, a1⟩, ⟨b0, b1⟩, c0, c1⟩ := q_range x h0
  unfold slot_Decode.f
  refine Ev.bind (split4 x h0 h1) ?_
  have r0 : rd [q0 x, q1 x, q2 x, q3 x] 0 = q0 x := rfl
  have r1 : rd [q0 x, q1 x, q2 x, q3 x] 1 = q1 x := rfl
  have r2 : rd [q0 x, q1 x, q2 x, q3 x] 2 = q2 x := rfl
  have hl : (([q0 x, q1 x, q2 x, q3 x] : List Int).length : Int) = 4 := rfl
  simp only [r0, r1, r2, hl, w64 (n := q0 x) (by omega) (by omega), w64 (n := q1 x) (by omega) (by omega), w64 (n := q2 x) (by omega) (by omega)]
  clear r0 r1 r2 hl
  simp only [show (0 : Int) < 4 from by omega, show (1 : Int) < 4 from by omega, show (2 : Int) < 4 from by omega, if_true]
  have fin : ∀ n : Int, Ev (fun k => slot_Decode.j0 k x (q0 x) (q1 x) n) (if encS (q0 x) (q1 x) n = (x, 0) then (q0 x, q1 x, n, 0) else (0, 0, 0, 2)) := by
    intro n
    refine Ev.step (f := fun k => (slot_Encode.f k (q0 x) (q1 x) n).bind fun bt177 => (if bt177.2 = 0 then (slot_Decode.j1 k (bt177.1 != x) (q0 x) (q1 x) n) else (slot_Decode.j1 k true (q0 x) (q1 x) n))) (fun k => by simp only [slot_Decode.j0]) ?_
    refine Ev.bind (enc_f (q0 x) (q1 x) n (by omega)) ?_
    generalize encS (q0 x) (q1 x) n = E
    obtain ⟨E1, E2⟩ := E
    simp only [Prod.mk.injEq]
    by_cases e2 : E2 = 0
    · simp only [if_pos e2]
      by_cases e1 : E1 = x
      · rw [if_pos ⟨e1, e2⟩]
        refine Ev.step (f := fun _ => some _) (fun k => ?_) (Ev.now _)
        simp only [slot_Decode.j1, e1, bne_self_eq_false, Bool.false_eq_true, if_false]
      · rw [if_neg (fun h => e1 h.1)]
        refine Ev.step (f := fun _ => some _) (fun k => ?_) (Ev.now _)
        simp only [slot_Decode.j1]
        rw [if_pos (by simp [e1])]
    · simp only [if_neg e2]
      rw [if_neg (fun h => e2 h.2)]
      exact Ev.step (f := fun _ => some _) (fun k => by simp only [slot_Decode.j1, if_true]) (Ev.now _)
  unfold decS nxt
  by_cases h : q2 x = 65535
  · simp only [if_pos h]; exact fin (-1)
  · simp only [if_neg h]; exact fin (q2 x)
theorem slot_lives : Ev (fun k => cantlelaw07_Lives.f k) true := Ev.of cantlelaw07_Lives.mono (k := 40) (by decide +kernel)
/-! ### the document's slots -/
theorem rmay_is (s c n : Int) (hs : -9223372036854775808 ≤ s ∧ s ≤ 9223372036854775807) : cantleref07_May.f s c n = some (decide (mayS s c n)) := by
  unfold cantleref07_May.f
  by_cases a : s < 0
  · rw [if_pos a]; refine no ?_; unfold mayS; omega
  · rw [if_neg a]
    by_cases b : s > 65533
    · rw [if_pos b]; refine no ?_; unfold mayS; omega
    · rw [if_neg b]
      by_cases d : n < -1
      · rw [if_pos d]; refine no ?_; unfold mayS; omega
      · rw [if_neg d]
        by_cases e : n > 65533
        · rw [if_pos e]; refine no ?_; unfold mayS; omega
        · rw [if_neg e]
          by_cases f : c > 0
          · rw [if_pos f]
            by_cases g : c ≤ 65534
            · rw [if_pos g, w64 (n := s + c) (by omega) (by omega)]; congr 1; rw [decide_eq_decide]; unfold mayS; omega
            · rw [if_neg g]; refine no ?_; unfold mayS; omega
          · rw [if_neg f]; refine no ?_; unfold mayS; omega
theorem rsum6_f (x : Int) : Ev (fun k => cantleref02_Sum16.f k ((strOfNums (octs [x])).extract 0 6)) (sumS x) := by
  have e : (strOfNums (octs [x])).extract 0 6 = strOfNums ((octs [x]).take 6) := by
    unfold strOfNums
    apply ByteArray.ext
    simp [ByteArray.data_extract, List.map_take]
  rw [e]
  have ho : Oct ((octs [x]).take 6) := fun y hy => octs_oct [x] y (List.mem_of_mem_take hy)
  have h := ref16_f (strOfNums ((octs [x]).take 6)) (by rw [str_size, List.length_take, take6]; omega)
  rw [nb_str _ ho] at h
  exact h
def rE (e : Int × Int) : Int × Bool := (e.1, e.2 == 0)
theorem renc_f (s c n : Int) (hs : -9223372036854775808 ≤ s ∧ s ≤ 9223372036854775807) : Ev (fun k => cantleref07_Encode.f k s c n) (rE (encS s c n)) := by
  unfold cantleref07_Encode.f encS
  simp only [rmay_is s c n hs, Option.bind_some]
  by_cases hm : mayS s c n
  · simp only [decide_eq_true hm, if_true, if_pos hm]
    obtain ⟨⟨a, b⟩, ⟨d, e⟩, f, g⟩ := hm
    have core : ∀ n' : Int, 0 ≤ n' → n' < 65536 → Ev (fun k => (cantleref02_Bytes.f k [X3 s c n']).bind fun t191 => (if (0 : Int) ≤ 6 then (if 6 ≤ (t191.size : Int) then ((cantleref02_Sum16.f k (t191.extract 0 6)).bind fun t192 => (some (IntKind.u64.wrap (X3 s c n' + (IntKind.u64.wrap (281474976710656 * (IntKind.u64.wrap (t192))))), true))) else (none)) else (none))) (X3 s c n' + sumS (X3 s c n') * 281474976710656, true) := by
      intro n' hn0 hn1
      have hX0 : 0 ≤ X3 s c n' := by unfold X3; omega
      have hX1 : X3 s c n' < 281474976710656 := by unfold X3; omega
      obtain ⟨t0, t1⟩ := sumS_range (X3 s c n')
      refine Ev.bind (rbytes_f [X3 s c n'] (fun w hw => by simp at hw; omega) (by simp)) ?_
      simp only [str_size, take6, show (0 : Int) ≤ 6 from by omega, show (6 : Int) ≤ ((8 : Nat) : Int) from by omega, if_true]
      refine Ev.bind (rsum6_f (X3 s c n')) ?_
      generalize sumS (X3 s c n') = t at *
      generalize X3 s c n' = X at *
      rw [u64_fit t0 (by omega), u64_fit (n := 281474976710656 * t) (by omega) (by omega), u64_fit (by omega) (by omega), Int.mul_comm]
      exact Ev.now _
    have es : IntKind.u64.wrap s = s := u64_fit a (by omega)
    have ec : IntKind.u64.wrap c = c := u64_fit (by omega) (by omega)
    have e1 : IntKind.u64.wrap (65536 * c) = c * 65536 := by rw [u64_fit (by omega) (by omega), Int.mul_comm]
    have e2 : IntKind.u64.wrap (s + c * 65536) = s + c * 65536 := u64_fit (by omega) (by omega)
    unfold wordS nx rE
    by_cases h : n ≥ 0
    · have en : IntKind.u64.wrap n = n := u64_fit h (by omega)
      have e3 : IntKind.u64.wrap (4294967296 * n) = n * 4294967296 := by rw [u64_fit (by omega) (by omega), Int.mul_comm]
      have e4 : IntKind.u64.wrap (s + c * 65536 + n * 4294967296) = X3 s c n := by rw [u64_fit (by omega) (by omega)]; rfl
      simp only [if_pos h, if_neg (show ¬ n < 0 from by omega), es, ec, e1, e2, en, e3, e4]
      simp only [show ((0 : Int) == 0) = true from rfl]
      exact core n h (by omega)
    · have e4 : IntKind.u64.wrap (s + c * 65536 + 4294967296 * 65535) = X3 s c 65535 := by rw [u64_fit (by omega) (by omega)]; unfold X3; omega
      simp only [if_neg h, if_pos (show n < 0 from by omega), es, ec, e1, e2, e4]
      simp only [show ((0 : Int) == 0) = true from rfl]
      exact core 65535 (by omega) (by omega)
  · simp only [decide_eq_false hm, if_neg hm, Bool.false_eq_true, if_false]
    exact Ev.now _
def rD (d : Int × Int × Int × Int) : Int × Int × Int × Bool := (d.1, d.2.1, d.2.2.1, d.2.2.2 == 0)
theorem rdec_f (x : Int) (h0 : 0 ≤ x) (h1 : x < 18446744073709551616) : Ev (fun k => cantleref07_Decode.f k x) (rD (decS x)) := by
  obtain ⟨⟨a0, a1⟩, ⟨b0, b1⟩, c0, c1⟩ := q_range x h0
  unfold cantleref07_Decode.f
  have r0 : wrap64 (Int.tmod x 65536) = q0 x := by rw [Int.tmod_eq_emod_of_nonneg h0, w64 (by omega) (by omega)]; rfl
  have r1 : wrap64 (Int.tmod (IntKind.u64.wrap (Int.tdiv x 65536)) 65536) = q1 x := by rw [Int.tdiv_eq_ediv_of_nonneg h0, u64_fit (by omega) (by omega), Int.tmod_eq_emod_of_nonneg (by omega), w64 (by omega) (by omega)]; rfl
  have r2 : wrap64 (Int.tmod (IntKind.u64.wrap (Int.tdiv x 4294967296)) 65536) = q2 x := by rw [Int.tdiv_eq_ediv_of_nonneg h0, u64_fit (by omega) (by omega), Int.tmod_eq_emod_of_nonneg (by omega), w64 (by omega) (by omega)]; rfl
  simp only [r0, r1, r2]
  clear r0 r1 r2
  have fin : ∀ n : Int, Ev (fun k => cantleref07_Decode.j0 k x (q0 x) (q1 x) n) (rD (if encS (q0 x) (q1 x) n = (x, 0) then (q0 x, q1 x, n, 0) else (0, 0, 0, 2))) := by
    intro n
    refine Ev.step (f := fun k => (cantleref07_Encode.f k (q0 x) (q1 x) n).bind fun bt184 => (if bt184.2 = true then (cantleref07_Decode.j1 k (bt184.1 != x) (q0 x) (q1 x) n) else (cantleref07_Decode.j1 k true (q0 x) (q1 x) n))) (fun k => by simp only [cantleref07_Decode.j0]) ?_
    refine Ev.bind (renc_f (q0 x) (q1 x) n (by omega)) ?_
    generalize encS (q0 x) (q1 x) n = E
    obtain ⟨E1, E2⟩ := E
    simp only [rE, Prod.mk.injEq, beq_iff_eq]
    by_cases e2 : E2 = 0
    · simp only [if_pos e2]
      by_cases e1 : E1 = x
      · rw [if_pos ⟨e1, e2⟩]
        refine Ev.step (f := fun _ => some _) (fun k => ?_) (Ev.now _)
        simp only [cantleref07_Decode.j1, e1, bne_self_eq_false, Bool.false_eq_true, if_false]
        rfl
      · rw [if_neg (fun h => e1 h.1)]
        refine Ev.step (f := fun _ => some _) (fun k => ?_) (Ev.now _)
        simp only [cantleref07_Decode.j1]
        rw [if_pos (by simp [e1])]; rfl
    · simp only [if_neg e2]
      rw [if_neg (fun h => e2 h.2)]
      exact Ev.step (f := fun _ => some _) (fun k => by simp only [cantleref07_Decode.j1, if_true]; rfl) (Ev.now _)
  unfold decS nxt
  by_cases h : q2 x = 65535
  · simp only [if_pos h]; exact fin (-1)
  · simp only [if_neg h]; exact fin (q2 x)
theorem SlotDecodes : cantlelaw07_SlotDecodes.Pure := by
  intro x hx
  obtain ⟨h0, h1⟩ := wf_u64 hx
  refine Ev.rounds (r := true) ?_
  unfold cantlelaw07_SlotDecodes.f
  refine Ev.bind slot_lives ?_
  simp only [if_true]
  refine Ev.bind (dec_f x h0 h1) (Ev.bind (rdec_f x h0 h1) ?_)
  unfold decS
  by_cases h : encS (q0 x) (q1 x) (nxt (q2 x)) = (x, 0)
  · simp only [if_pos h, rD]; simp; exact Ev.now _
  · simp only [if_neg h, rD]; simp; exact Ev.now _
end Go.Proofs.Ytdccgedbgajidaa.Pure
