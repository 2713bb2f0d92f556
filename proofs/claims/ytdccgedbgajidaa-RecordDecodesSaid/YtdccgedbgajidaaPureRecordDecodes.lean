/- The law RecordDecodes of the pure program: any line is decoded as the document says. Conditions: the line is short, its numbers are of their kind. -/
import Derived.Test.YtdccgedbgajidaaPRecordDecodesx8
import Derived.Test.YtdccgedbgajidaaCrc
namespace Go.Proofs.Ytdccgedbgajidaa.Pure
open Go.RowKit Go.Proofs.Ytdccgedbgajidaa.PRecordDecodes Go.Proofs.YtdccgedbgajidaaW.PrintWords Go.Proofs.YtdccgedbgajidaaW.PrintLast Go.Proofs.YtdccgedbgajidaaW.PrintMore Go.Proofs.Ytdccgedbgajidaa.Math Go.Proofs.Ytdccgedbgajidaa
/-! ### pack.Split, by numbers -/
def sp : Int → Int → List Int → Option (List Int)
  | x, _, [] => if x = 0 then some [] else none
  | x, left, w :: ws => if w < 1 ∨ w > left then none else (sp (x / 2 ^ w.toNat) (left - w) ws).map (x % 2 ^ w.toNat :: ·)
def spR (out : List Int) : Option (List Int) → List Int × Bool
  | some r => (out ++ r, true)
  | none => ([], false)
theorem spR_map (out : List Int) (a : Int) : ∀ o : Option (List Int), spR out (o.map (a :: ·)) = spR (out ++ [a]) o
  | some r => by simp [spR]
  | none => rfl
theorem sp_length : ∀ (ws : List Int) (x left : Int) (r : List Int), sp x left ws = some r → r.length = ws.length
  | [], x, left, r, h => by
    simp only [sp] at h; split at h
    · cases h; rfl
    · cases h
  | w :: ws, x, left, r, h => by
    simp only [sp] at h; split at h
    · cases h
    · obtain ⟨q, hq, rfl⟩ := Option.map_eq_some_iff.mp h
      simp [sp_length ws _ _ q hq]
theorem split_ev : ∀ (ws pre : List Int) (x left : Int) (out : List Int), 0 ≤ x → x < 18446744073709551616 → 0 ≤ left → left ≤ 64 → pre.length + ws.length ≤ 1000000 → out.length ≤ pre.length →
    Ev (fun k => pack_Split.l0 k x out left (pre ++ ws) ((pre ++ ws).length : Int) (pre.length : Int)) (spR out (sp x left ws))
  | [], pre, x, left, out, h0, h1, hl0, hl, hb, ho => by
    refine Ev.step (f := fun _ => some (spR out (sp x left []))) (fun k => ?_) (Ev.now _)
    simp only [pack_Split.l0, List.append_nil]
    rw [if_neg (by omega)]
    simp only [sp]
    split <;> simp [spR]
  | w :: ws, pre, x, left, out, h0, h1, hl0, hl, hb, ho => by
    have hlen : (pre ++ w :: ws).length = pre.length + ws.length + 1 := by simp; omega
    simp only [List.length_cons] at hb
    by_cases hw : w < 1 ∨ w > left
    · refine Ev.step (f := fun _ => some (spR out (sp x left (w :: ws)))) (fun k => ?_) (Ev.now _)
      simp only [pack_Split.l0, rd_mid, hlen]
      rw [if_pos (by omega), if_pos (by omega), if_pos (by omega)]
      simp only [sp, if_pos hw, spR]
      by_cases hw1 : w < 1
      · rw [if_pos hw1]
      · rw [if_neg hw1, if_pos (by omega)]
    · have ih := split_ev ws (pre ++ [w]) (x / 2 ^ w.toNat) (left - w) (out ++ [x % 2 ^ w.toNat])
        (Int.ediv_nonneg h0 (Int.le_of_lt (pow_pos' _))) (Int.lt_of_le_of_lt (Int.ediv_le_self _ h0) h1) (by omega) (by omega) (by simp; omega) (by simp; omega)
      have e1 : pre ++ [w] ++ ws = pre ++ w :: ws := by simp
      have e2 : ((pre ++ [w]).length : Int) = (pre.length : Int) + 1 := by simp
      rw [e1, e2] at ih
      simp only [sp, if_neg hw, spR_map]
      refine Ev.step (fun k => ?_) ih
      simp only [pack_Split.l0, rd_mid, hlen]
      rw [if_pos (by omega), if_pos (by omega), if_pos (by omega), if_neg (by omega), if_neg (by omega), w64 (n := 64 - w) (by omega) (by omega), if_pos (by omega), if_pos (by omega), if_pos (by omega), shr_u64 x w (by omega) (by omega), cut_low x w (by omega) (by omega), w64 (n := left - w) (by omega) (by omega), w64 (n := (pre.length : Int) + 1) (by omega) (by omega)]
theorem split_f (x : Int) (ws : List Int) (h0 : 0 ≤ x) (h1 : x < 18446744073709551616) (hb : ws.length ≤ 1000000) :
    Ev (fun k => pack_Split.f k x ws) (spR [] (sp x 64 ws)) := split_ev ws [] x 64 [] h0 h1 (by omega) (by omega) (by simpa using hb) (by simp)
/-! ### pack.Pack, by numbers -/
def pk : Int → Int → List S80 → Option Int
  | acc, _, [] => some acc
  | acc, at_, f :: fs => if f.f0 < 1 ∨ f.f0 > 64 - at_ ∨ f.f1 ≥ 2 ^ f.f0.toNat then none else pk (acc + f.f1 * 2 ^ at_.toNat) (at_ + f.f0) fs
def pkR : Option Int → Int × Bool
  | some r => (r, true)
  | none => (0, false)
def fit (f : S80) : Prop := (-9223372036854775808 ≤ f.f0 ∧ f.f0 ≤ 9223372036854775807) ∧ 0 ≤ f.f1 ∧ f.f1 < 18446744073709551616
theorem may_is (f : S80) (h : fit f) : pack_Field_may.f f.f0 f.f1 = some (decide (1 ≤ f.f0 ∧ f.f0 ≤ 64 ∧ f.f1 < 2 ^ f.f0.toNat)) := by
  obtain ⟨⟨_, _⟩, h0, h1⟩ := h
  unfold pack_Field_may.f
  by_cases a : 1 ≤ f.f0
  · rw [if_pos (by omega)]
    by_cases b : f.f0 ≤ 64
    · rw [if_pos b]
      by_cases c : f.f0 = 64
      · rw [if_pos c]; rw [decide_eq_true]; refine ⟨a, b, ?_⟩; rw [c]; exact h1
      · rw [if_neg c, if_pos (by omega), shr_u64 _ _ (by omega) (by omega)]
        have : (f.f1 / 2 ^ f.f0.toNat == 0) = decide (f.f1 < 2 ^ f.f0.toNat) := by
          rw [Bool.eq_iff_iff]; simp only [beq_iff_eq, decide_eq_true_eq]
          constructor
          · intro e
            rcases Int.lt_or_le f.f1 (2 ^ f.f0.toNat) with hlt | hle
            · exact hlt
            · have := Int.le_ediv_of_mul_le (pow_pos' f.f0.toNat) (by omega : 1 * 2 ^ f.f0.toNat ≤ f.f1); omega
          · intro e; exact Int.ediv_eq_zero_of_lt h0 e
        rw [this]; simp [a, b]
    · rw [if_neg b]; simp [b]
  · rw [if_neg (by omega)]; simp [a]
theorem rd28_mid (pre : List S80) (f : S80) (fs : List S80) : rd_T80 (pre ++ f :: fs) (pre.length : Int) = f := by unfold rd_T80; simp
theorem pack_ev : ∀ (fs pre : List S80) (acc at_ : Int), (∀ f ∈ fs, fit f) → 0 ≤ at_ → at_ ≤ 64 → 0 ≤ acc → acc < 2 ^ at_.toNat → pre.length + fs.length ≤ 1000000 →
    Ev (fun k => pack_Pack.l0 k acc at_ (pre ++ fs) ((pre ++ fs).length : Int) (pre.length : Int)) (pkR (pk acc at_ fs))
  | [], pre, acc, at_, hf, h0, h1, ha0, ha, hb => by
    refine Ev.step (f := fun _ => some _) (fun k => ?_) (Ev.now _)
    simp only [pack_Pack.l0, List.append_nil]; rw [if_neg (by omega)]; rfl
  | f :: fs, pre, acc, at_, hf, h0, h1, ha0, ha, hb => by
    have hlen : (pre ++ f :: fs).length = pre.length + fs.length + 1 := by simp; omega
    simp only [List.length_cons] at hb
    have hfit := hf f List.mem_cons_self
    have hmay := may_is f hfit
    have e64 : wrap64 (64 - at_) = 64 - at_ := w64 (by omega) (by omega)
    have ei : wrap64 ((pre.length : Int) + 1) = (pre.length : Int) + 1 := w64 (by omega) (by omega)
    by_cases hw : f.f0 < 1 ∨ f.f0 > 64 - at_ ∨ f.f1 ≥ 2 ^ f.f0.toNat
    · refine Ev.step (f := fun _ => some (pkR (pk acc at_ (f :: fs)))) (fun k => ?_) (Ev.now _)
      simp only [pack_Pack.l0, rd28_mid, hlen, hmay, Option.bind_some]
      rw [if_pos (by omega), if_pos (by omega), if_pos (by omega)]
      simp only [pk, if_pos hw, pkR]
      by_cases hm : 1 ≤ f.f0 ∧ f.f0 ≤ 64 ∧ f.f1 < 2 ^ f.f0.toNat
      · rw [decide_eq_true hm, if_pos rfl, e64, if_pos (by omega)]
      · rw [decide_eq_false hm]; rfl
    · obtain ⟨⟨_, _⟩, hv0, hv1⟩ := hfit
      have hv : f.f1 < 2 ^ f.f0.toNat := by omega
      have hsum : acc + f.f1 * 2 ^ at_.toNat < 2 ^ (at_ + f.f0).toNat := by
        have e : (at_ + f.f0).toNat = f.f0.toNat + at_.toNat := by omega
        rw [e, pow_add']
        have h3 : (f.f1 + 1) * 2 ^ at_.toNat ≤ 2 ^ f.f0.toNat * 2 ^ at_.toNat := Int.mul_le_mul_of_nonneg_right (by omega) (Int.le_of_lt (pow_pos' _))
        rw [Int.add_mul, Int.one_mul] at h3; omega
      have hle : (2 : Int) ^ (at_ + f.f0).toNat ≤ 2 ^ 64 := pow_le' (by omega)
      have hmul : 0 ≤ f.f1 * 2 ^ at_.toNat := Int.mul_nonneg hv0 (Int.le_of_lt (pow_pos' _))
      have ih := pack_ev fs (pre ++ [f]) (acc + f.f1 * 2 ^ at_.toNat) (at_ + f.f0) (fun g hg => hf g (List.mem_cons_of_mem _ hg)) (by omega) (by omega) (by omega) hsum (by simp; omega)
      have e1 : pre ++ [f] ++ fs = pre ++ f :: fs := by simp
      have e2 : ((pre ++ [f]).length : Int) = (pre.length : Int) + 1 := by simp
      rw [e1, e2] at ih
      simp only [pk, if_neg hw]
      refine Ev.step (fun k => ?_) ih
      have eo : Go.bits .or .u64 acc (shl .u64 f.f1 at_) = acc + f.f1 * 2 ^ at_.toNat := by
        rw [shl_u64_fit _ _ h0 h1 hv0 (by omega)]
        exact or_above acc f.f1 at_.toNat ha0 ha hv0 (by omega)
      have ea : wrap64 (at_ + f.f0) = at_ + f.f0 := w64 (by omega) (by omega)
      simp only [pack_Pack.l0, rd28_mid, hlen, hmay, Option.bind_some]
      rw [if_pos (by omega), if_pos (by omega), if_pos (by omega), if_pos (by rw [decide_eq_true]; exact ⟨by omega, by omega, hv⟩), e64, if_neg (by omega), if_pos (by omega), eo, ea, ei]
theorem pack_f (fs : List S80) (hf : ∀ f ∈ fs, fit f) (hb : fs.length ≤ 1000000) : Ev (fun k => pack_Pack.f k fs) (pkR (pk 0 0 fs)) :=
  pack_ev fs [] 0 0 hf (by omega) (by omega) (by omega) (by simp) (by simpa using hb)
/-! ### cantlelaw03.Same -/
theorem eq0_ev : ∀ (a b pa pb : List Int), a.length = b.length → pa.length = pb.length → pa.length + a.length ≤ 1000000000 →
    Ev (fun k => slices_Equal_uint64_uint64.l0 k (pa ++ a) (pb ++ b) ((pa ++ a).length : Int) (pa.length : Int)) (decide (a = b))
  | [], [], pa, pb, _, hp, hb => by
    refine Ev.step (f := fun _ => some _) (fun k => ?_) (Ev.now _)
    simp only [slices_Equal_uint64_uint64.l0, List.append_nil]; rw [if_neg (by omega)]; simp
  | x :: a, y :: b, pa, pb, hl, hp, hb => by
    have h1 : (pa ++ x :: a).length = pa.length + a.length + 1 := by simp; omega
    have h2 : (pb ++ y :: b).length = pa.length + a.length + 1 := by simp at hl ⊢; omega
    simp only [List.length_cons] at hb hl
    by_cases hxy : x = y
    · have ih := eq0_ev a b (pa ++ [x]) (pb ++ [y]) (by omega) (by simp [hp]) (by simp; omega)
      have e1 : pa ++ [x] ++ a = pa ++ x :: a := by simp
      have e1' : pb ++ [y] ++ b = pb ++ y :: b := by simp
      have e2 : ((pa ++ [x]).length : Int) = (pa.length : Int) + 1 := by simp
      rw [e1, e1', e2] at ih
      have ed : decide (x :: a = y :: b) = decide (a = b) := by subst hxy; simp
      rw [ed]
      refine Ev.step (fun k => ?_) ih
      simp only [slices_Equal_uint64_uint64.l0, h1, h2, rd_mid, rd_mid' hp]
      rw [if_pos (by omega), if_pos (by omega), if_pos (by omega), if_pos (by omega), if_pos hxy, w64 (n := (pa.length : Int) + 1) (by omega) (by omega)]
    · refine Ev.step (f := fun _ => some _) (fun k => ?_) (Ev.now _)
      simp only [slices_Equal_uint64_uint64.l0, h1, h2, rd_mid, rd_mid' hp]
      rw [if_pos (by omega), if_pos (by omega), if_pos (by omega), if_pos (by omega), if_neg hxy]
      simp [hxy]
theorem eq0_f (a b : List Int) (hb : a.length ≤ 1000000000) : Ev (fun k => slices_Equal_uint64_uint64.f k a b) (decide (a = b)) := by
  by_cases h : a.length = b.length
  · refine Ev.congr (fun k => ?_) (eq0_ev a b [] [] h rfl (by simpa using hb))
    unfold slices_Equal_uint64_uint64.f
    rw [if_pos (by omega)]; rfl
  · refine Ev.congr (f := fun _ => some _) (fun k => ?_) (Ev.now _)
    unfold slices_Equal_uint64_uint64.f
    rw [if_neg (by omega)]
    simp only [Option.some.injEq]
    symm; rw [decide_eq_false_iff_not]; intro e; subst e; exact h rfl
/-! ### crc.step32, crc.Sum32, by bits -/
theorem and1_32 (s : Nat) (h : s < 2 ^ 32) : Go.bits .and .u32 (s : Int) 1 = ((s % 2 : Nat) : Int) := by
  have := Math.bits_and .u32 rfl s 1 h (by decide)
  rw [Nat.and_one_is_mod] at this; exact this
theorem xorP_32 (s : Nat) (h : s < 2 ^ 32) : Go.bits .xor .u32 (s : Int) 3988292384 = ((s ^^^ Crc.P32 : Nat) : Int) :=
  Math.bits_xor .u32 rfl s Crc.P32 h Crc.P32_lt
def it32 : Nat → Nat → Nat
  | 0, s => s
  | d + 1, s => it32 d (Crc.z32 s)
theorem step32_ev : ∀ (d : Nat) (s : Nat) (i : Int), s < 2 ^ 32 → 0 ≤ i → 8 - i = d → Ev (fun k => crc_step32.l0 k (s : Int) i) ((it32 d s : Nat) : Int)
  | 0, s, i, hs, h0, hd => by
    refine Ev.step (f := fun _ => some _) (fun k => ?_) (Ev.now _)
    simp only [crc_step32.l0]; rw [if_neg (by omega)]; rfl
  | d + 1, s, i, hs, h0, hd => by
    have ih := step32_ev d (Crc.z32 s) (i + 1) (Crc.z32_lt hs) (by omega) (by omega)
    refine Ev.step (fun k => ?_) ih
    have e2 : ((s : Int) / 2) = ((s / 2 : Nat) : Int) := by simp
    simp only [crc_step32.l0]
    rw [if_pos (by omega), and1_32 s hs, e2, xorP_32 _ (by omega), w64 (n := i + 1) (by omega) (by omega)]
    unfold Crc.z32
    by_cases h : s % 2 = 1
    · rw [if_pos (by omega), if_pos h]
    · rw [if_neg (by omega), if_neg h]
theorem step32_f (s : Nat) (x : Int) (hs : s < 2 ^ 32) (h0 : 0 ≤ x) (h1 : x < 256) : Ev (fun k => crc_step32.f k (s : Int) x) (((Crc.lo x.toNat).foldl Crc.b32 s : Nat) : Int) := by
  obtain ⟨n, rfl⟩ := Int.eq_ofNat_of_zero_le h0
  have hn : n < 256 := by omega
  rw [Int.toNat_natCast, ← Crc.by32_bits s n hn]
  have hx : s ^^^ n < 2 ^ 32 := Nat.xor_lt_two_pow hs (by omega)
  have := step32_ev 8 (s ^^^ n) 0 hx (by omega) (by omega)
  refine Ev.congr (fun k => ?_) this
  unfold crc_step32.f
  rw [show ((n : Int) % 4294967296) = (n : Int) from by omega, Math.bits_xor .u32 rfl s n hs (by show n < 2 ^ 32; omega)]
def Oct (xs : List Int) : Prop := ∀ x ∈ xs, 0 ≤ x ∧ x < 256
def nats (xs : List Int) : List Nat := xs.map Int.toNat
theorem rdL1_mid (pre : List (List Int)) (w : List Int) (ws : List (List Int)) : rd_L1 (pre ++ w :: ws) (pre.length : Int) = w := by
  unfold rd_L1; simp
theorem sum32_row (ls : List (List Int)) (n j : Int) (r : Int) : ∀ (xs pre : List Int) (s : Nat), s < 2 ^ 32 → Oct xs → pre.length + xs.length ≤ 1000000000000 → 
    Ev (fun k => crc_Sum32.l0 k ((Crc.c32 s (nats xs) : Nat) : Int) ls n (wrap64 (j + 1))) r →
    Ev (fun k => crc_Sum32.l1 k (s : Int) ls n j (pre ++ xs) ((pre ++ xs).length : Int) (pre.length : Int)) r
  | [], pre, s, hs, ho, hb, h => by
    refine Ev.step (fun k => ?_) h
    simp only [crc_Sum32.l1, List.append_nil]; rw [if_neg (by omega)]; rfl
  | x :: xs, pre, s, hs, ho, hb, h => by
    simp only [List.length_cons] at hb
    have hlen : (pre ++ x :: xs).length = pre.length + xs.length + 1 := by simp; omega
    obtain ⟨hx0, hx1⟩ := ho x List.mem_cons_self
    have hs' : (Crc.lo x.toNat).foldl Crc.b32 s < 2 ^ 32 := Crc.f32_lt _ hs
    have ih := sum32_row ls n j r xs (pre ++ [x]) ((Crc.lo x.toNat).foldl Crc.b32 s) hs' (fun y hy => ho y (List.mem_cons_of_mem _ hy)) (by simp; omega) (by
      have e : Crc.c32 s (nats (x :: xs)) = Crc.c32 ((Crc.lo x.toNat).foldl Crc.b32 s) (nats xs) := Crc.c32_cons _ _ _
      rw [← e]; exact h)
    have e1 : pre ++ [x] ++ xs = pre ++ x :: xs := by simp
    have e2 : ((pre ++ [x]).length : Int) = (pre.length : Int) + 1 := by simp
    rw [e1, e2] at ih
    refine Ev.step (f := fun k => (crc_step32.f k (s : Int) x).bind fun t => crc_Sum32.l1 k t ls n j (pre ++ x :: xs) ((pre ++ x :: xs).length : Int) ((pre.length : Int) + 1)) (fun k => ?_) (Ev.bind (step32_f s x hs hx0 hx1) ih)
    simp only [crc_Sum32.l1, hlen, rd_mid]
    rw [if_pos (by omega), if_pos (by omega), if_pos (by omega), w64 (n := (pre.length : Int) + 1) (by omega) (by omega)]
theorem sum32_ev : ∀ (L P : List (List Int)) (s : Nat), s < 2 ^ 32 → (∀ xs ∈ L, Oct xs ∧ xs.length ≤ 1000000000) → P.length + L.length ≤ 1000000000 →
    Ev (fun k => crc_Sum32.l0 k (s : Int) (P ++ L) ((P ++ L).length : Int) (P.length : Int)) (Go.bits .xor .u32 4294967295 ((Crc.c32 s (nats L.flatten) : Nat) : Int))
  | [], P, s, hs, ho, hb => by
    refine Ev.step (f := fun _ => some _) (fun k => ?_) (Ev.now _)
    simp only [crc_Sum32.l0, List.append_nil]; rw [if_neg (by omega)]; rfl
  | xs :: L, P, s, hs, ho, hb => by
    simp only [List.length_cons] at hb
    have hlen : (P ++ xs :: L).length = P.length + L.length + 1 := by simp; omega
    obtain ⟨hx, hl⟩ := ho xs List.mem_cons_self
    have ih := sum32_ev L (P ++ [xs]) (Crc.c32 s (nats xs)) (Crc.c32_lt _ hs) (fun y hy => ho y (List.mem_cons_of_mem _ hy)) (by simp; omega)
    have e1 : P ++ [xs] ++ L = P ++ xs :: L := by simp
    have e2 : ((P ++ [xs]).length : Int) = wrap64 ((P.length : Int) + 1) := by rw [w64 (n := (P.length : Int) + 1) (by omega) (by omega)]; simp
    have e3 : Crc.c32 (Crc.c32 s (nats xs)) (nats L.flatten) = Crc.c32 s (nats (xs :: L).flatten) := by
      rw [← Crc.c32_append]; simp [nats]
    rw [e1, e2, e3] at ih
    have h1 := sum32_row (P ++ xs :: L) ((P ++ xs :: L).length : Int) (P.length : Int) _ xs [] s hs hx (by simp; omega) ih
    refine Ev.step (fun k => ?_) h1
    simp only [crc_Sum32.l0, hlen, rdL1_mid]
    rw [if_pos (by omega), if_pos (by omega), if_pos (by omega)]; rfl
theorem ones32 (s : Nat) (h : s < 2 ^ 32) : Go.bits .xor .u32 4294967295 (s : Int) = 4294967295 - s := by
  have h1 := Math.bits_xor .u32 rfl 4294967295 s (by decide) h
  have h2 : 4294967295 ^^^ s = 2 ^ 32 - (s + 1) := by
    apply Nat.eq_of_testBit_eq
    intro i
    rw [Nat.testBit_two_pow_sub_succ h, Nat.testBit_xor, show (4294967295 : Nat) = 2 ^ 32 - 1 from rfl, Nat.testBit_two_pow_sub_one]
    by_cases hi : i < 32
    · simp [hi]
    · have := Nat.testBit_lt_two_pow (Nat.lt_of_lt_of_le h (Nat.pow_le_pow_right (by decide) (by omega : 32 ≤ i)))
      simp [hi, this]
  rw [h2] at h1
  refine h1.trans ?_
  omega
def S32 (xs : List Int) : Int := 4294967295 - ((Crc.c32 4294967295 (nats xs) : Nat) : Int)
theorem sum32_f (L : List (List Int)) (ho : ∀ xs ∈ L, Oct xs ∧ xs.length ≤ 1000000000) (hb : L.length ≤ 1000000000) : Ev (fun k => crc_Sum32.f k L) (S32 L.flatten) := by
  have := sum32_ev L [] 4294967295 (by decide) ho (by simpa using hb)
  rw [ones32 _ (Crc.c32_lt _ (by decide))] at this
  exact this
theorem S32_range (xs : List Int) : 0 ≤ S32 xs ∧ S32 xs < 4294967296 := by
  have := Crc.c32_lt (s := 4294967295) (nats xs) (by decide)
  unfold S32; omega
/-! ### the document's sums of a text -/
def nb (s : ByteArray) : List Nat := s.data.toList.map UInt8.toNat
theorem nb_length (s : ByteArray) : (nb s).length = s.size := by unfold nb; rw [List.length_map, Array.length_toList]; rfl
theorem bt_nb (s : ByteArray) (i : Nat) (h : i < s.size) : bt s (i : Int) = (((nb s).getD i 0 : Nat) : Int) := by
  unfold bt
  rw [dif_pos (by simpa using h)]
  simp [nb, List.getD_eq_getElem?_getD, ByteArray.getElem_eq_getElem_data, h]
theorem nb_lt (s : ByteArray) (i : Nat) : (nb s).getD i 0 < 256 := by
  rw [List.getD_eq_getElem?_getD]
  rcases h : (nb s)[i]? with _ | x
  · simp
  · have hm := List.mem_of_getElem? h
    simp only [nb, List.mem_map] at hm
    obtain ⟨u, _, rfl⟩ := hm
    exact u.toNat_lt
theorem los_get : ∀ (l : List Nat) (i : Nat), i < 8 * l.length → (Crc.los l)[i]? = some (l.getD (i / 8) 0 / 2 ^ (i % 8) % 2)
  | [], i, h => by simp at h
  | x :: l, i, h => by
    simp only [List.length_cons] at h
    have e : Crc.los (x :: l) = Crc.lo x ++ Crc.los l := by simp [Crc.los]
    rw [e]
    by_cases hi : i < 8
    · rw [List.getElem?_append_left (by simp [Crc.lo]; omega)]
      have : i / 8 = 0 := by omega
      rw [this, show i % 8 = i from by omega]
      rcases i with _ | _ | _ | _ | _ | _ | _ | _ | i <;> first | omega | simp [Crc.lo]
    · rw [List.getElem?_append_right (by simp [Crc.lo]; omega), show i - (Crc.lo x).length = i - 8 from by simp [Crc.lo], los_get l (i - 8) (by omega)]
      rw [show (i - 8) % 8 = i % 8 from by omega, show i / 8 = (i - 8) / 8 + 1 from by omega]; rfl
theorem his_get : ∀ (l : List Nat) (i : Nat), i < 8 * l.length → (Crc.his l)[i]? = some (l.getD (i / 8) 0 / 2 ^ (7 - i % 8) % 2)
  | [], i, h => by simp at h
  | x :: l, i, h => by
    simp only [List.length_cons] at h
    have e : Crc.his (x :: l) = Crc.hi x ++ Crc.his l := by simp [Crc.his]
    rw [e]
    by_cases hi : i < 8
    · rw [List.getElem?_append_left (by simp [Crc.hi]; omega)]
      have : i / 8 = 0 := by omega
      rw [this, show i % 8 = i from by omega]
      rcases i with _ | _ | _ | _ | _ | _ | _ | _ | i <;> first | omega | simp [Crc.hi]
    · rw [List.getElem?_append_right (by simp [Crc.hi]; omega), show i - (Crc.hi x).length = i - 8 from by simp [Crc.hi], his_get l (i - 8) (by omega)]
      rw [show (i - 8) % 8 = i % 8 from by omega, show i / 8 = (i - 8) / 8 + 1 from by omega]; rfl
theorem los_length (l : List Nat) : (Crc.los l).length = 8 * l.length := by
  induction l with
  | nil => rfl
  | cons x l ih =>
    have e : Crc.los (x :: l) = Crc.lo x ++ Crc.los l := by simp [Crc.los]
    rw [e, List.length_append, ih]; simp [Crc.lo]; omega
theorem his_length (l : List Nat) : (Crc.his l).length = 8 * l.length := by
  induction l with
  | nil => rfl
  | cons x l ih =>
    have e : Crc.his (x :: l) = Crc.hi x ++ Crc.his l := by simp [Crc.his]
    rw [e, List.length_append, ih]; simp [Crc.hi]; omega
theorem drop_get {α : Type} {l : List α} {i : Nat} {a : α} (h : l[i]? = some a) : l.drop i = a :: l.drop (i + 1) := by
  obtain ⟨hl, e⟩ := List.getElem?_eq_some_iff.1 h
  rw [← e]; exact List.drop_eq_getElem_cons hl
theorem shr8 (x n : Nat) (hn : n ≤ 7) : shr .u8 (x : Int) (n : Int) = ((x / 2 ^ n : Nat) : Int) := by
  unfold shr
  rw [Int.toNat_natCast, Nat.min_eq_left (by show n ≤ 8; omega)]; simp
theorem and1_nat32 (x : Nat) (h : x < 256) : Go.bits .and .u32 (x : Int) 1 = ((x % 2 : Nat) : Int) := by
  have := Math.bits_and .u32 rfl x 1 (by show x < 2 ^ 32; omega) (by decide)
  rw [Nat.and_one_is_mod] at this; exact this
theorem and1_nat16 (x : Nat) (h : x < 256) : Go.bits .and .u16 (x : Int) 1 = ((x % 2 : Nat) : Int) := by
  have := Math.bits_and .u16 rfl x 1 (by show x < 2 ^ 16; omega) (by decide)
  rw [Nat.and_one_is_mod] at this; exact this
theorem div_pow_lt {x : Nat} (n : Nat) (h : x < 256) : x / 2 ^ n < 256 := Nat.lt_of_le_of_lt (Nat.div_le_self _ _) h
theorem nb_str (xs : List Int) (h : Oct xs) : nb (strOfNums xs) = nats xs := by
  simp only [nb, strOfNums, nats, List.map_map]
  apply List.map_congr_left
  intro x hx
  obtain ⟨h0, h1⟩ := h x hx
  simp [UInt8.toNat_ofNat']
  omega
theorem str_size (xs : List Int) : (strOfNums xs).size = xs.length := by simp [strOfNums, ByteArray.size]
theorem ref32_ev (s : ByteArray) (hb : s.size ≤ 1000000000) : ∀ (d i r : Nat), r < 2 ^ 32 → i + d = 8 * s.size →
    Ev (fun k => cantleref02_Sum32.l0 k s (r : Int) (i : Int)) (4294967295 - ((((Crc.los (nb s)).drop i).foldl Crc.b32 r : Nat) : Int))
  | 0, i, r, hr, hd => by
    rw [List.drop_of_length_le (by rw [los_length, nb_length]; omega)]
    refine Ev.step (f := fun _ => some _) (fun k => ?_) (Ev.now _)
    simp only [cantleref02_Sum32.l0, List.foldl_nil]
    rw [w64 (n := 8 * (s.size : Int)) (by omega) (by omega), if_neg (by omega), Int.emod_eq_of_lt (by omega) (by omega)]
  | d + 1, i, r, hr, hd => by
    have hi : i < 8 * (nb s).length := by rw [nb_length]; omega
    have hg := drop_get (los_get (nb s) i hi)
    rw [hg, List.foldl_cons]
    have ih := ref32_ev s hb d (i + 1) (Crc.b32 r ((nb s).getD (i / 8) 0 / 2 ^ (i % 8) % 2)) (Crc.b32_lt hr) (by omega)
    refine Ev.step (fun k => ?_) ih
    have q1 : Int.tdiv (i : Int) 8 = ((i / 8 : Nat) : Int) := by rw [Int.tdiv_eq_ediv_of_nonneg (by omega)]; omega
    have q2 : Int.tmod (i : Int) 8 = ((i % 8 : Nat) : Int) := by rw [Int.tmod_eq_emod_of_nonneg (by omega)]; omega
    have q3 : Int.tdiv (r : Int) 2 % 4294967296 = ((r / 2 : Nat) : Int) := by rw [Int.tdiv_eq_ediv_of_nonneg (by omega)]; omega
    have hx := nb_lt s (i / 8)
    have q4 : bt s ((i / 8 : Nat) : Int) = (((nb s).getD (i / 8) 0 : Nat) : Int) := bt_nb s (i / 8) (by omega)
    generalize hX : (nb s).getD (i / 8) 0 = X at *
    have q5 : (((X / 2 ^ (i % 8) : Nat) : Int)) % 4294967296 = ((X / 2 ^ (i % 8) : Nat) : Int) := by
      have hy := div_pow_lt (i % 8) hx
      generalize X / 2 ^ (i % 8) = Y at hy ⊢
      omega
    have h8 : i / 8 < s.size := by omega
    clear hg hi ih
    simp only [cantleref02_Sum32.l0]
    rw [w64 (n := 8 * (s.size : Int)) (by omega) (by omega), if_pos (by omega), q1, w64 (n := ((i / 8 : Nat) : Int)) (by omega) (by omega), if_pos (by omega), if_pos (by omega), q2, if_pos (by omega), q4, shr8 _ _ (by omega), q5, and1_nat32 _ (div_pow_lt _ hx), and1_32 r hr, q3, xorP_32 _ (by omega), w64 (n := (i : Int) + 1) (by omega) (by omega)]
    unfold Crc.b32
    by_cases h : X / 2 ^ (i % 8) % 2 = r % 2
    · rw [if_pos (by rw [h]), if_pos h]; rfl
    · rw [if_neg (fun e => h (by exact_mod_cast e)), if_neg h]; rfl
theorem ref32_f (s : ByteArray) (hb : s.size ≤ 1000000000) : Ev (fun k => cantleref02_Sum32.f k s) (4294967295 - ((Crc.c32 4294967295 (nb s) : Nat) : Int)) :=
  ref32_ev s hb (8 * s.size) 0 4294967295 (by decide) (by omega)
/-! ### a word's bytes -/
def w8from (x : Int) : Nat → List Int
  | 0 => []
  | d + 1 => x % 256 :: w8from (x / 2 ^ 8) d
def octs (l : List Int) : List Int := l.flatMap fun x => w8from x 8
theorem w8from_length : ∀ (d : Nat) (x : Int), (w8from x d).length = d
  | 0, _ => rfl
  | d + 1, x => by simp [w8from, w8from_length d]
theorem w8from_oct : ∀ (d : Nat) (x : Int), ∀ y ∈ w8from x d, 0 ≤ y ∧ y < 256
  | 0, _, y, h => by simp [w8from] at h
  | d + 1, x, y, h => by
    simp only [w8from, List.mem_cons] at h
    rcases h with rfl | h
    · omega
    · exact w8from_oct d _ y h
theorem octs_oct (l : List Int) : ∀ y ∈ octs l, 0 ≤ y ∧ y < 256 := by
  intro y h
  simp only [octs, List.mem_flatMap] at h
  obtain ⟨x, _, hx⟩ := h
  exact w8from_oct 8 x y hx
theorem octs_length (l : List Int) : (octs l).length = 8 * l.length := by
  induction l with
  | nil => rfl
  | cons x l ih =>
    have e : octs (x :: l) = w8from x 8 ++ octs l := by simp [octs]
    rw [e, List.length_append, ih, w8from_length]; simp; omega
/-! ### words' bytes: crc_octets -/
theorem crc_octets_row (ws : List Int) (n j : Int) (r : List Int) : ∀ (d : Nat) (x : Int) (i : Int) (out : List Int), 0 ≤ x → 0 ≤ i → 8 - i = d → out.length + d < 100000000000 →
    Ev (fun k => crc_octets.l0 k (out ++ w8from (x / 2 ^ (8 * i).toNat) d) ws n (wrap64 (j + 1))) r → Ev (fun k => crc_octets.l1 k out x ws n j i) r
  | 0, x, i, out, hx, h0, hd, hb, h => by
    refine Ev.step (fun k => ?_) h
    simp only [crc_octets.l1, w8from, List.append_nil]; rw [if_neg (by omega)]
  | d + 1, x, i, out, hx, h0, hd, hb, h => by
    have hs : (8 * (i + 1)).toNat = (8 * i).toNat + 8 := by omega
    have ih := crc_octets_row ws n j r d x (i + 1) (out ++ [x / 2 ^ (8 * i).toNat % 256]) hx (by omega) (by omega) (by simp; omega) (by
      rw [hs, pow_add', ← Int.ediv_ediv_of_nonneg (Int.le_of_lt (pow_pos' _))]
      have : out ++ [x / 2 ^ (8 * i).toNat % 256] ++ w8from (x / 2 ^ (8 * i).toNat / 2 ^ 8) d = out ++ w8from (x / 2 ^ (8 * i).toNat) (d + 1) := by simp [w8from]
      rw [this]; exact h)
    refine Ev.step (fun k => ?_) ih
    simp only [crc_octets.l1]
    rw [if_pos (by omega), w64 (n := 8 * i) (by omega) (by omega), if_pos (by omega), if_pos (by omega), shr_u64 x (8 * i) (by omega) (by omega), w64 (n := i + 1) (by omega) (by omega)]
theorem crc_octets_ev : ∀ (ws pre out : List Int), (∀ w ∈ ws, 0 ≤ w) → pre.length + ws.length ≤ 1000000000 → out.length ≤ 8 * pre.length →
    Ev (fun k => crc_octets.l0 k out (pre ++ ws) ((pre ++ ws).length : Int) (pre.length : Int)) (out ++ octs ws)
  | [], pre, out, hw, hb, ho => by
    refine Ev.step (f := fun _ => some _) (fun k => ?_) (Ev.now _)
    simp only [crc_octets.l0, List.append_nil]; rw [if_neg (by omega)]; simp [octs]
  | w :: ws, pre, out, hw, hb, ho => by
    simp only [List.length_cons] at hb
    have hlen : (pre ++ w :: ws).length = pre.length + ws.length + 1 := by simp; omega
    have ih := crc_octets_ev ws (pre ++ [w]) (out ++ w8from w 8) (fun y hy => hw y (List.mem_cons_of_mem _ hy)) (by simp; omega) (by simp [w8from_length]; omega)
    have e1 : pre ++ [w] ++ ws = pre ++ w :: ws := by simp
    have e2 : ((pre ++ [w]).length : Int) = wrap64 ((pre.length : Int) + 1) := by rw [w64 (n := (pre.length : Int) + 1) (by omega) (by omega)]; simp
    have e3 : out ++ w8from w 8 ++ octs ws = out ++ octs (w :: ws) := by simp [octs]
    rw [e1, e2, e3] at ih
    have h1 := crc_octets_row (pre ++ w :: ws) ((pre ++ w :: ws).length : Int) (pre.length : Int) _ 8 w 0 out (hw w List.mem_cons_self) (by omega) (by omega) (by omega) (by
      rw [show w / 2 ^ (8 * (0 : Int)).toNat = w from by simp]; exact ih)
    refine Ev.step (fun k => ?_) h1
    simp only [crc_octets.l0, hlen, rd_mid]
    rw [if_pos (by omega), if_pos (by omega), if_pos (by omega)]
theorem crc_octets_f (ws : List Int) (hw : ∀ w ∈ ws, 0 ≤ w) (hb : ws.length ≤ 1000000000) : Ev (fun k => crc_octets.f k ws) (octs ws) :=
  crc_octets_ev ws [] [] hw (by simpa using hb) (by simp)
theorem words32_f (ws : List Int) (hw : ∀ w ∈ ws, 0 ≤ w) (hb : ws.length ≤ 1000) : Ev (fun k => crc_Words32.f k ws) (S32 (octs ws)) := by
  have h := sum32_f [octs ws] (fun xs hx => by
    obtain rfl : xs = octs ws := by simpa using hx
    exact ⟨octs_oct ws, by rw [octs_length]; omega⟩) (by simp)
  rw [show [octs ws].flatten = octs ws from by simp] at h
  exact Ev.bind (crc_octets_f ws hw (by omega)) (Ev.bind h (Ev.now _))
/-! ### the document's bytes of words -/
theorem rbytes_row (ws : List Int) (n j : Int) (r : ByteArray) : ∀ (d : Nat) (x : Int) (i : Int) (out : List Int), 0 ≤ x → x < 18446744073709551616 → 0 ≤ i → 8 - i = d → out.length + d < 100000000000 →
    Ev (fun k => cantleref02_Bytes.l0 k (out ++ w8from x d) ws n (wrap64 (j + 1))) r → Ev (fun k => cantleref02_Bytes.l1 k out x ws n j i) r
  | 0, x, i, out, hx, hx1, h0, hd, hb, h => by
    refine Ev.step (fun k => ?_) h
    simp only [cantleref02_Bytes.l1, w8from, List.append_nil]; rw [if_neg (by omega)]
  | d + 1, x, i, out, hx, hx1, h0, hd, hb, h => by
    have ih := rbytes_row ws n j r d (x / 2 ^ 8) (i + 1) (out ++ [x % 256]) (by omega) (by omega) (by omega) (by omega) (by simp; omega) (by
      have : out ++ [x % 256] ++ w8from (x / 2 ^ 8) d = out ++ w8from x (d + 1) := by simp [w8from]
      rw [this]; exact h)
    refine Ev.step (fun k => ?_) ih
    have q1 : Int.tmod x 256 % 256 = x % 256 := by rw [Int.tmod_eq_emod_of_nonneg hx]; omega
    have q2 : IntKind.u64.wrap (Int.tdiv x 256) = x / 2 ^ 8 := by rw [Int.tdiv_eq_ediv_of_nonneg hx, u64_fit (by omega) (by omega)]; rfl
    simp only [cantleref02_Bytes.l1, q1, q2]
    rw [if_pos (by omega), if_pos (by omega), w64 (n := i + 1) (by omega) (by omega)]
theorem rbytes_ev : ∀ (ws pre out : List Int), (∀ w ∈ ws, 0 ≤ w ∧ w < 18446744073709551616) → pre.length + ws.length ≤ 1000000000 → out.length ≤ 8 * pre.length →
    Ev (fun k => cantleref02_Bytes.l0 k out (pre ++ ws) ((pre ++ ws).length : Int) (pre.length : Int)) (strOfNums (out ++ octs ws))
  | [], pre, out, hw, hb, ho => by
    refine Ev.step (f := fun _ => some _) (fun k => ?_) (Ev.now _)
    simp only [cantleref02_Bytes.l0, List.append_nil]; rw [if_neg (by omega)]; simp [octs]
  | w :: ws, pre, out, hw, hb, ho => by
    simp only [List.length_cons] at hb
    have hlen : (pre ++ w :: ws).length = pre.length + ws.length + 1 := by simp; omega
    have ih := rbytes_ev ws (pre ++ [w]) (out ++ w8from w 8) (fun y hy => hw y (List.mem_cons_of_mem _ hy)) (by simp; omega) (by simp [w8from_length]; omega)
    have e1 : pre ++ [w] ++ ws = pre ++ w :: ws := by simp
    have e2 : ((pre ++ [w]).length : Int) = wrap64 ((pre.length : Int) + 1) := by rw [w64 (n := (pre.length : Int) + 1) (by omega) (by omega)]; simp
    have e3 : out ++ w8from w 8 ++ octs ws = out ++ octs (w :: ws) := by simp [octs]
    rw [e1, e2, e3] at ih
    obtain ⟨hw0, hw1⟩ := hw w List.mem_cons_self
    have h1 := rbytes_row (pre ++ w :: ws) ((pre ++ w :: ws).length : Int) (pre.length : Int) _ 8 w 0 out hw0 hw1 (by omega) (by omega) (by omega) ih
    refine Ev.step (fun k => ?_) h1
    simp only [cantleref02_Bytes.l0, hlen, rd_mid]
    rw [if_pos (by omega), if_pos (by omega), if_pos (by omega)]
theorem rbytes_f (ws : List Int) (hw : ∀ w ∈ ws, 0 ≤ w ∧ w < 18446744073709551616) (hb : ws.length ≤ 1000000000) : Ev (fun k => cantleref02_Bytes.f k ws) (strOfNums (octs ws)) :=
  rbytes_ev ws [] [] hw (by simpa using hb) (by simp)
/-! ### records, by numbers -/
def mayR (s f t c : Int) : Prop := (0 ≤ s ∧ s < 65534) ∧ (0 ≤ f ∧ f < 65534) ∧ (0 ≤ t ∧ t < 65534) ∧ 1 ≤ c ∧ c ≤ 65534
instance (s f t c : Int) : Decidable (mayR s f t c) := by unfold mayR; infer_instance
theorem yes {p : Prop} [Decidable p] (h : p) : some true = some (decide p) := by rw [decide_eq_true h]
theorem no {p : Prop} [Decidable p] (h : ¬ p) : some false = some (decide p) := by rw [decide_eq_false h]
theorem block_is (b : Int) : record_block.f b = some (decide (0 ≤ b ∧ b < 65534)) := by
  unfold record_block.f
  by_cases h : b ≥ 0
  · rw [if_pos h]; congr 1; rw [decide_eq_decide]; omega
  · rw [if_neg h]; exact no (by omega)
theorem rmay_is (s f t c : Int) : record_Record_May.f s f t c = some (decide (mayR s f t c)) := by
  unfold record_Record_May.f
  simp only [block_is, Option.bind_some, decide_eq_true_eq]
  by_cases a : 0 ≤ s ∧ s < 65534
  · rw [if_pos a]
    by_cases b : 0 ≤ f ∧ f < 65534
    · rw [if_pos b]
      by_cases d : 0 ≤ t ∧ t < 65534
      · rw [if_pos d]
        by_cases e : c ≥ 1
        · rw [if_pos e]; congr 1; rw [decide_eq_decide]; unfold mayR; omega
        · rw [if_neg e]; exact no (by unfold mayR; omega)
      · rw [if_neg d]; exact no (by unfold mayR; omega)
    · rw [if_neg b]; exact no (by unfold mayR; omega)
  · rw [if_neg a]; exact no (by unfold mayR; omega)
def w0R (s f t : Int) : Int := 1 + s * 65536 + f * 4294967296 + t * 281474976710656
def headR (s f t c : Int) : List Int := [w0R s f t, c, 0, 0, 0, 0, 0]
def lineR (s f t c : Int) : List Int := headR s f t c ++ [S32 (octs (headR s f t c))]
def encR (s f t c : Int) : List Int × Int := if mayR s f t c then (lineR s f t c, 0) else ([], 1)
theorem fields_ev (r : Int) : ∀ (l pre : List Int) (fs : List S80), (∀ x ∈ l, 0 ≤ x ∧ x < 65536) → pre.length + l.length ≤ 1000 → fs.length = pre.length →
    Ev (fun k => (pack_Pack.f k (fs ++ l.map fun x => ⟨16, x⟩)).bind fun bt127 => some bt127.1) r → Ev (fun k => record_fields.l0 k fs (pre ++ l) ((pre ++ l).length : Int) (pre.length : Int)) r
  | [], pre, fs, hl, hb, hf, h => by
    refine Ev.step (fun k => ?_) h
    simp only [record_fields.l0, List.append_nil, List.map_nil]; rw [if_neg (by omega)]
  | x :: l, pre, fs, hl, hb, hf, h => by
    simp only [List.length_cons] at hb
    have hlen : (pre ++ x :: l).length = pre.length + l.length + 1 := by simp; omega
    obtain ⟨x0, x1⟩ := hl x List.mem_cons_self
    have ih := fields_ev r l (pre ++ [x]) (fs ++ [⟨16, x⟩]) (fun y hy => hl y (List.mem_cons_of_mem _ hy)) (by simp; omega) (by simp [hf]) (by simpa using h)
    have e1 : pre ++ [x] ++ l = pre ++ x :: l := by simp
    have e2 : ((pre ++ [x]).length : Int) = (pre.length : Int) + 1 := by simp
    rw [e1, e2] at ih
    refine Ev.step (fun k => ?_) ih
    simp only [record_fields.l0, hlen, rd_mid]
    rw [if_pos (by omega), if_pos (by omega), if_pos (by omega), if_pos (by omega), u64_fit x0 (by omega), w64 (n := (pre.length : Int) + 1) (by omega) (by omega)]
theorem fields_f (s f t : Int) (hs : 0 ≤ s ∧ s < 65536) (hf : 0 ≤ f ∧ f < 65536) (ht : 0 ≤ t ∧ t < 65536) : Ev (fun k => record_fields.f k [1, s, f, t]) (w0R s f t) := by
  have q : ∀ v : Int, 0 ≤ v ∧ v < 65536 → fit (⟨16, v⟩ : S80) := fun v hv => ⟨⟨by show (-9223372036854775808 : Int) ≤ 16; omega, by show (16 : Int) ≤ _; omega⟩, hv.1, by show v < _; omega⟩
  have hp : pk 0 0 [(⟨16, 1⟩ : S80), ⟨16, s⟩, ⟨16, f⟩, ⟨16, t⟩] = some (w0R s f t) := by
    simp only [pk, w0R]
    simp
    exact ⟨by omega, by omega, by omega⟩
  have pf := pack_f [(⟨16, 1⟩ : S80), ⟨16, s⟩, ⟨16, f⟩, ⟨16, t⟩] (by
    intro g hg; simp only [List.mem_cons, List.not_mem_nil, or_false] at hg
    rcases hg with rfl | rfl | rfl | rfl
    · exact q 1 (by omega)
    · exact q s hs
    · exact q f hf
    · exact q t ht) (by simp)
  rw [hp] at pf
  refine fields_ev _ [1, s, f, t] [] [] (by intro x hx; simp only [List.mem_cons, List.not_mem_nil, or_false] at hx; omega) (by simp) rfl ?_
  exact Ev.bind pf (Ev.now _)
theorem head_range (s f t c : Int) (hm : mayR s f t c) : ∀ x ∈ headR s f t c, 0 ≤ x ∧ x < 18446744073709551616 := by
  intro x hx
  unfold mayR at hm
  simp only [headR, w0R, List.mem_cons, List.not_mem_nil, or_false] at hx
  rcases hx with rfl | rfl | rfl | rfl | rfl | rfl | rfl <;> omega
theorem line_range (s f t c : Int) (hm : mayR s f t c) : ∀ x ∈ lineR s f t c, 0 ≤ x ∧ x < 18446744073709551616 := by
  intro x hx
  unfold lineR at hx
  obtain ⟨t0, t1⟩ := S32_range (octs (headR s f t c))
  rcases List.mem_append.1 hx with h | h
  · exact head_range s f t c hm x h
  · simp only [List.mem_singleton] at h; rw [h]; exact ⟨t0, Int.lt_trans t1 (by decide)⟩
theorem encR_f (s f t c : Int) : Ev (fun k => record_Encode.f k s f t c) (encR s f t c) := by
  unfold record_Encode.f encR
  simp only [rmay_is, Option.bind_some]
  by_cases hm : mayR s f t c
  · simp only [decide_eq_true hm, if_true, if_pos hm]
    have hb := hm
    unfold mayR at hb
    refine Ev.bind (fields_f s f t (by omega) (by omega) (by omega)) ?_
    have e3 : IntKind.u64.wrap c = c := u64_fit (by omega) (by omega)
    have l8 : ((List.replicate 8 (0 : Int)).length : Int) = 8 := rfl
    have set2 : ∀ a b : Int, ((List.replicate 8 (0 : Int)).set (0 : Int).toNat a).set (1 : Int).toNat b = [a, b, 0, 0, 0, 0, 0, 0] := fun a b => rfl
    simp only [l8, set2, e3, show (0 : Int) < 8 from by omega, show (1 : Int) < 8 from by omega, show (7 : Int) < 8 from by omega, show (7 : Int) ≤ 8 from by omega, if_true]
    have w7 := words32_f (headR s f t c) (fun w hw => (head_range s f t c hm w hw).1) (by simp [headR])
    refine Ev.bind w7 ?_
    obtain ⟨t0, t1⟩ := S32_range (octs (headR s f t c))
    rw [u64_fit t0 (Int.lt_trans t1 (by decide))]
    exact Ev.now _
  · simp only [decide_eq_false hm, if_neg hm, Bool.false_eq_true, if_false]
    exact Ev.now _
/-! ### the greatest -/
def AllZ (l : List Int) : Prop := ∀ x ∈ l, x = 0
instance (l : List Int) : Decidable (AllZ l) := by unfold AllZ; infer_instance
theorem max_ev (n : Int) : ∀ (l pre : List Int) (acc : Int), (∀ x ∈ l, 0 ≤ x) → 0 ≤ acc → pre.length + l.length ≤ 1000000 → ∃ m, (m = 0 ↔ acc = 0 ∧ AllZ l) ∧ Ev (fun k => slices_Max_uint64_uint64.l0 k (pre ++ l) acc (pre.length : Int)) m
  | [], pre, acc, hl, ha, hb => by
    refine ⟨acc, by simp [AllZ], Ev.step (f := fun _ => some acc) (fun k => ?_) (Ev.now _)⟩
    simp only [slices_Max_uint64_uint64.l0, List.append_nil]; rw [if_neg (by omega)]
  | x :: l, pre, acc, hl, ha, hb => by
    simp only [List.length_cons] at hb
    have hlen : (pre ++ x :: l).length = pre.length + l.length + 1 := by simp; omega
    have x0 := hl x List.mem_cons_self
    have hm0 : 0 ≤ mx acc x := by unfold mx; split <;> omega
    obtain ⟨m, hm, ih⟩ := max_ev n l (pre ++ [x]) (mx acc x) (fun y hy => hl y (List.mem_cons_of_mem _ hy)) hm0 (by simp; omega)
    have e1 : pre ++ [x] ++ l = pre ++ x :: l := by simp
    have e2 : ((pre ++ [x]).length : Int) = (pre.length : Int) + 1 := by simp
    rw [e1, e2] at ih
    refine ⟨m, ?_, Ev.step (fun k => ?_) ih⟩
    · rw [hm]
      have : mx acc x = 0 ↔ acc = 0 ∧ x = 0 := by unfold mx; split <;> omega
      rw [this]
      simp [AllZ, and_assoc]
    · simp only [slices_Max_uint64_uint64.l0, hlen, rd_mid]
      rw [if_pos (by omega), if_pos (by omega), w64 (n := (pre.length : Int) + 1) (by omega) (by omega)]
theorem max_f (l : List Int) (hl : ∀ x ∈ l, 0 ≤ x) (h8 : l.length = 8) : ∃ m, (m = 0 ↔ AllZ l) ∧ Ev (fun k => slices_Max_uint64_uint64.f k l) m := by
  match l, h8 with
  | x :: l, h8 =>
    simp only [List.length_cons] at h8
    obtain ⟨m, hm, he⟩ := max_ev 0 l [x] x (fun y hy => hl y (List.mem_cons_of_mem _ hy)) (hl x List.mem_cons_self) (by simp; omega)
    refine ⟨m, by rw [hm]; simp [AllZ], Ev.congr (fun k => ?_) he⟩
    unfold slices_Max_uint64_uint64.f
    rw [if_neg (by simp only [List.length_cons]; omega), if_pos (by simp only [List.length_cons]; omega)]
    rfl
/-! ### a line's numbers -/
def q0 (x : Int) : Int := x % 65536
def q1 (x : Int) : Int := x / 65536 % 65536
def q2 (x : Int) : Int := x / 4294967296 % 65536
def q3 (x : Int) : Int := x / 281474976710656
theorem split4 (x : Int) (h0 : 0 ≤ x) (h1 : x < 18446744073709551616) : Ev (fun k => pack_Split.f k x [16, 16, 16, 16]) ([q0 x, q1 x, q2 x, q3 x], true) := by
  have h := split_f x [16, 16, 16, 16] h0 h1 (by simp)
  have e : sp x 64 [16, 16, 16, 16] = some [q0 x, q1 x, q2 x, q3 x] := by
    simp only [sp, q0, q1, q2, q3]
    simp
    exact ⟨by omega, by omega, by omega⟩
  rw [e] at h
  exact h
def cR (l : List Int) : Int := mn (rd l 1) 65535
def goodR (l : List Int) : Prop := encR (q1 (rd l 0)) (q2 (rd l 0)) (q3 (rd l 0)) (cR l) = (l, 0)
instance (l : List Int) : Decidable (goodR l) := by unfold goodR; infer_instance
def decR (l : List Int) : Int × Int × Int × Int × Int :=
  if l.length = 8 then (if AllZ l then (0, 0, 0, 0, 0) else if goodR l then (q1 (rd l 0), q2 (rd l 0), q3 (rd l 0), cR l, 1) else (0, 0, 0, 0, 2)) else (0, 0, 0, 0, 2)
theorem eq_f (a b : List Int) (hb : a.length ≤ 1000000000) : Ev (fun k => slices_Equal_uint64_uint64.f k a b) (decide (a = b)) := eq0_f a b hb
theorem rd_nn {l : List Int} (hw : ∀ x ∈ l, 0 ≤ x ∧ x < 18446744073709551616) (i : Int) : 0 ≤ rd l i ∧ rd l i < 18446744073709551616 := by
  unfold rd
  rw [List.getD_eq_getElem?_getD]
  rcases h : l[i.toNat]? with _ | x
  · simp
  · exact hw x (List.mem_of_getElem? h)
theorem dec_bad (a b c d : Int) : Ev (fun k => record_Decode.j0 k true a b c d) (0, 0, 0, 0, 2) := Ev.step (f := fun _ => some _) (fun k => by simp only [record_Decode.j0, if_true]) (Ev.now _)
theorem dec_good (a b c d : Int) : Ev (fun k => record_Decode.j0 k false a b c d) (a, b, c, d, 1) := Ev.step (f := fun _ => some _) (fun k => by simp only [record_Decode.j0]; rw [if_neg (by simp)]) (Ev.now _)
theorem decR_f (l : List Int) (hw : ∀ x ∈ l, 0 ≤ x ∧ x < 18446744073709551616) : Ev (fun k => record_Decode.f k l) (decR l) := by
  unfold record_Decode.f decR
  obtain ⟨a0, a1⟩ := rd_nn hw 0
  obtain ⟨b0, b1⟩ := rd_nn hw 1
  by_cases h8 : l.length = 8
  · have hl : (l.length : Int) = 8 := by omega
    rw [if_pos h8]
    simp only [h8, Int.cast_ofNat_Int, show (0 : Int) < 8 from by omega, show (1 : Int) < 8 from by omega, if_true]
    obtain ⟨m, hm, hmax⟩ := max_f l (fun x hx => (hw x hx).1) h8
    refine Ev.bind hmax ?_
    by_cases hz : AllZ l
    · simp only [if_pos (hm.mpr hz), if_pos hz]
      exact Ev.now _
    · simp only [if_neg (fun e => hz (hm.mp e)), if_neg hz]
      refine Ev.bind (split4 (rd l 0) a0 a1) ?_
      generalize hA : rd l 0 = A at *
      have g1 : 0 ≤ q1 A ∧ q1 A < 65536 := by unfold q1; omega
      have g2 : 0 ≤ q2 A ∧ q2 A < 65536 := by unfold q2; omega
      have g3 : 0 ≤ q3 A ∧ q3 A < 65536 := by unfold q3; omega
      have gc : 0 ≤ cR l ∧ cR l < 65536 := by unfold cR mn; split <;> omega
      have r1 : rd [q0 A, q1 A, q2 A, q3 A] 1 = q1 A := rfl
      have r2 : rd [q0 A, q1 A, q2 A, q3 A] 2 = q2 A := rfl
      have r3 : rd [q0 A, q1 A, q2 A, q3 A] 3 = q3 A := rfl
      have l4 : (([q0 A, q1 A, q2 A, q3 A] : List Int).length : Int) = 4 := rfl
      have ec : mn (rd l 1) 65535 = cR l := rfl
      simp only [r1, r2, r3, l4, ec, show (1 : Int) < 4 from by omega, show (2 : Int) < 4 from by omega, show (3 : Int) < 4 from by omega, if_true, w64 (n := q1 A) (by omega) (by omega), w64 (n := q2 A) (by omega) (by omega), w64 (n := q3 A) (by omega) (by omega), w64 (n := cR l) (by omega) (by omega)]
      refine Ev.bind (encR_f _ _ _ _) ?_
      have hgood : goodR l ↔ encR (q1 A) (q2 A) (q3 A) (cR l) = (l, 0) := by unfold goodR; rw [hA]
      by_cases g : goodR l
      · rw [if_pos g, hgood.mp g]
        have := eq_f l l (by omega)
        rw [decide_eq_true rfl] at this
        simp only [if_true]
        refine Ev.bind this ?_
        exact dec_good _ _ _ _
      · rw [if_neg g]
        have hne : encR (q1 A) (q2 A) (q3 A) (cR l) ≠ (l, 0) := fun e => g (hgood.mpr e)
        have hEl : (encR (q1 A) (q2 A) (q3 A) (cR l)).1.length ≤ 1000000000 := by
          unfold encR lineR headR; split <;> simp
        generalize encR (q1 A) (q2 A) (q3 A) (cR l) = E at hne hEl
        obtain ⟨E1, E2⟩ := E
        by_cases e2 : E2 = 0
        · simp only [if_pos e2]
          have e1 : ¬ E1 = l := fun e => hne (by rw [e, e2])
          refine Ev.bind (eq_f E1 l hEl) ?_
          simp only [decide_eq_false e1]
          exact dec_bad _ _ _ _
        · simp only [if_neg e2]
          exact dec_bad _ _ _ _
  · have hl : ¬ (l.length : Int) = 8 := by omega
    simp only [if_neg hl, if_neg h8]
    exact Ev.now _
theorem record_lives : Ev (fun k => cantlelaw09_Lives.f k) true := Ev.of cantlelaw09_Lives.mono (k := 300) (by decide +kernel)
/-- A record's line is decoded to it. -/
theorem dec_encR (s f t c : Int) (hm : mayR s f t c) : decR (lineR s f t c) = (s, f, t, c, 1) := by
  have hb := hm
  unfold mayR at hb
  have r0 : rd (lineR s f t c) 0 = w0R s f t := rfl
  have r1 : rd (lineR s f t c) 1 = c := rfl
  have e1 : q1 (w0R s f t) = s := by unfold q1 w0R; omega
  have e2 : q2 (w0R s f t) = f := by unfold q2 w0R; omega
  have e3 : q3 (w0R s f t) = t := by unfold q3 w0R; omega
  have ec : cR (lineR s f t c) = c := by unfold cR; rw [r1]; unfold mn; split <;> omega
  have hg : goodR (lineR s f t c) := by
    unfold goodR; rw [r0, e1, e2, e3, ec]; exact if_pos hm
  have hz : ¬ AllZ (lineR s f t c) := fun h => by
    have := h (w0R s f t) (by simp [lineR, headR])
    unfold w0R at this; omega
  unfold decR
  rw [if_pos (show (lineR s f t c).length = 8 from rfl), if_neg hz, if_pos hg, r0, e1, e2, e3, ec]
/-! ### the document's records -/
theorem rmay9_is (s f t c : Int) : cantleref09_May.f s f t c = some (decide (mayR s f t c)) := by
  unfold cantleref09_May.f
  by_cases a : s < 0
  · rw [if_pos a]; exact no (by unfold mayR; omega)
  · rw [if_neg a]
    by_cases b : s > 65533
    · rw [if_pos b]; exact no (by unfold mayR; omega)
    · rw [if_neg b]
      by_cases d : f < 0
      · rw [if_pos d]; exact no (by unfold mayR; omega)
      · rw [if_neg d]
        by_cases e : f > 65533
        · rw [if_pos e]; exact no (by unfold mayR; omega)
        · rw [if_neg e]
          by_cases g : t < 0
          · rw [if_pos g]; exact no (by unfold mayR; omega)
          · rw [if_neg g]
            by_cases h : t > 65533
            · rw [if_pos h]; exact no (by unfold mayR; omega)
            · rw [if_neg h]
              by_cases i : c > 0
              · rw [if_pos i]; congr 1; rw [decide_eq_decide]; unfold mayR; omega
              · rw [if_neg i]; exact no (by unfold mayR; omega)
theorem renc9_f (s f t c : Int) (hm : mayR s f t c) : Ev (fun k => cantleref09_Encode.f k s f t c) (lineR s f t c) := by
  unfold cantleref09_Encode.f
  have hb := hm
  unfold mayR at hb
  obtain ⟨⟨s0, s1⟩, ⟨f0, f1⟩, ⟨t0, t1⟩, c0, c1⟩ := hb
  have es : IntKind.u64.wrap s = s := u64_fit s0 (by omega)
  have ef : IntKind.u64.wrap f = f := u64_fit f0 (by omega)
  have et : IntKind.u64.wrap t = t := u64_fit t0 (by omega)
  have ec : IntKind.u64.wrap c = c := u64_fit (by omega) (by omega)
  have e1 : IntKind.u64.wrap (65536 * s) = s * 65536 := by rw [u64_fit (by omega) (by omega), Int.mul_comm]
  have e2 : IntKind.u64.wrap (1 + s * 65536) = 1 + s * 65536 := u64_fit (by omega) (by omega)
  have e3 : IntKind.u64.wrap (4294967296 * f) = f * 4294967296 := by rw [u64_fit (by omega) (by omega), Int.mul_comm]
  have e4 : IntKind.u64.wrap (1 + s * 65536 + f * 4294967296) = 1 + s * 65536 + f * 4294967296 := u64_fit (by omega) (by omega)
  have e5 : IntKind.u64.wrap (281474976710656 * t) = t * 281474976710656 := by rw [u64_fit (by omega) (by omega), Int.mul_comm]
  have e6 : IntKind.u64.wrap (1 + s * 65536 + f * 4294967296 + t * 281474976710656) = w0R s f t := by rw [u64_fit (by omega) (by omega)]; rfl
  simp only [es, ef, et, ec, e1, e2, e3, e4, e5, e6, Option.bind_some]
  have hw := head_range s f t c hm
  refine Ev.bind (rbytes_f (headR s f t c) hw (by simp [headR])) ?_
  have ho := octs_oct (headR s f t c)
  have h32 := ref32_f (strOfNums (octs (headR s f t c))) (by rw [str_size, octs_length]; simp [headR])
  rw [nb_str _ ho] at h32
  refine Ev.bind h32 ?_
  have es : 4294967295 - ((Crc.c32 4294967295 (nats (octs (headR s f t c))) : Nat) : Int) = S32 (octs (headR s f t c)) := rfl
  obtain ⟨t0, t1⟩ := S32_range (octs (headR s f t c))
  rw [es, u64_fit t0 (by omega)]
  exact Ev.now _
theorem beq_dec (a b : Int) : (a == b) = decide (a = b) := by rw [Bool.eq_iff_iff, beq_iff_eq, decide_eq_true_eq]
/-- The last loop: word by word. -/
theorem cmp_ev (s f t c : Int) : ∀ (a b pa pb : List Int), a.length = b.length → pa.length = pb.length → pa.length + a.length ≤ 1000000000 →
    Ev (fun k => cantleref09_Decode.l1 k (pb ++ b) (pa ++ a) ((pa ++ a).length : Int) (pa.length : Int) s f t c) (if a = b then (s, f, t, c, 1) else (0, 0, 0, 0, 2))
  | [], [], pa, pb, _, hp, hb => by
    refine Ev.step (f := fun _ => some _) (fun k => ?_) (Ev.now _)
    simp only [cantleref09_Decode.l1, List.append_nil]; rw [if_neg (by omega)]; simp
  | x :: a, y :: b, pa, pb, hl, hp, hb => by
    simp only [List.length_cons] at hl hb
    have ha : (pa ++ x :: a).length = pa.length + a.length + 1 := by simp; omega
    have hbb : (pb ++ y :: b).length = pb.length + b.length + 1 := by simp; omega
    have r1 : rd (pa ++ x :: a) (pa.length : Int) = x := rd_mid ..
    have r2 : rd (pb ++ y :: b) (pa.length : Int) = y := by rw [hp]; exact rd_mid ..
    by_cases h : x = y
    · have ih := cmp_ev s f t c a b (pa ++ [x]) (pb ++ [y]) (by omega) (by simp [hp]) (by simp; omega)
      have e1 : pa ++ [x] ++ a = pa ++ x :: a := by simp
      have e2 : pb ++ [y] ++ b = pb ++ y :: b := by simp
      have e3 : ((pa ++ [x]).length : Int) = (pa.length : Int) + 1 := by simp
      rw [e1, e2, e3] at ih
      have e4 : (if x :: a = y :: b then ((s, f, t, c, 1) : Int × Int × Int × Int × Int) else (0, 0, 0, 0, 2)) = (if a = b then (s, f, t, c, 1) else (0, 0, 0, 0, 2)) := by simp [h]
      rw [e4]
      refine Ev.step (fun k => ?_) ih
      simp only [cantleref09_Decode.l1, r1, r2, ha, hbb]
      rw [if_pos (by omega), if_pos (by omega), if_pos (by omega), if_pos (by omega), if_pos h, w64 (n := (pa.length : Int) + 1) (by omega) (by omega)]
    · have e4 : (if x :: a = y :: b then ((s, f, t, c, 1) : Int × Int × Int × Int × Int) else (0, 0, 0, 0, 2)) = (0, 0, 0, 0, 2) := by simp [h]
      rw [e4]
      refine Ev.step (f := fun _ => some _) (fun k => ?_) (Ev.now _)
      simp only [cantleref09_Decode.l1, r1, r2, ha, hbb]
      rw [if_pos (by omega), if_pos (by omega), if_pos (by omega), if_pos (by omega), if_neg h]
/-- The word at which the count lies is good only below 2 ** 16. -/
theorem good_one (l : List Int) (g : goodR l) : mayR (q1 (rd l 0)) (q2 (rd l 0)) (q3 (rd l 0)) (rd l 1) ∧ lineR (q1 (rd l 0)) (q2 (rd l 0)) (q3 (rd l 0)) (rd l 1) = l := by
  unfold goodR encR at g
  split at g
  · rename_i hm
    simp only [Prod.mk.injEq, and_true] at g
    have e : rd l 1 = cR l := (congrArg (fun x => rd x 1) g).symm
    rw [e]
    exact ⟨hm, g⟩
  · simp at g
theorem one_good (l : List Int) (hm : mayR (q1 (rd l 0)) (q2 (rd l 0)) (q3 (rd l 0)) (rd l 1)) (h : lineR (q1 (rd l 0)) (q2 (rd l 0)) (q3 (rd l 0)) (rd l 1) = l) : goodR l ∧ cR l = rd l 1 := by
  have hb := hm
  unfold mayR at hb
  have e : cR l = rd l 1 := by unfold cR mn; split <;> omega
  refine ⟨?_, e⟩
  unfold goodR encR
  rw [e, if_pos hm, h]
/-- After the first loop. -/
theorem tail_ev (l : List Int) (h8 : l.length = 8) (hw : ∀ x ∈ l, 0 ≤ x ∧ x < 18446744073709551616) (hz : ¬ AllZ l) :
    Ev (fun k => if 1 < (l.length : Int) then (if (rd l 1) > 65535 then (some (0, 0, 0, 0, 2)) else (if 0 < (l.length : Int) then ((cantleref09_May.f (wrap64 (Int.tmod (IntKind.u64.wrap (Int.tdiv (rd l 0) 65536)) 65536)) (wrap64 (Int.tmod (IntKind.u64.wrap (Int.tdiv (rd l 0) 4294967296)) 65536)) (wrap64 (IntKind.u64.wrap (Int.tdiv (rd l 0) 281474976710656))) (wrap64 (rd l 1))).bind fun t220 => (if t220 = true then ((cantleref09_Encode.f k (wrap64 (Int.tmod (IntKind.u64.wrap (Int.tdiv (rd l 0) 65536)) 65536)) (wrap64 (Int.tmod (IntKind.u64.wrap (Int.tdiv (rd l 0) 4294967296)) 65536)) (wrap64 (IntKind.u64.wrap (Int.tdiv (rd l 0) 281474976710656))) (wrap64 (rd l 1))).bind fun t221 => (cantleref09_Decode.l1 k l t221 (t221.length : Int) 0 (wrap64 (Int.tmod (IntKind.u64.wrap (Int.tdiv (rd l 0) 65536)) 65536)) (wrap64 (Int.tmod (IntKind.u64.wrap (Int.tdiv (rd l 0) 4294967296)) 65536)) (wrap64 (IntKind.u64.wrap (Int.tdiv (rd l 0) 281474976710656))) (wrap64 (rd l 1)))) else (some (0, 0, 0, 0, 2)))) else (none))) else (none)) (decR l) := by
  obtain ⟨a0, a1⟩ := rd_nn hw 0
  obtain ⟨b0, b1⟩ := rd_nn hw 1
  have hg := good_one l
  have hh := one_good l
  have hd : decR l = if goodR l then (q1 (rd l 0), q2 (rd l 0), q3 (rd l 0), cR l, 1) else (0, 0, 0, 0, 2) := by unfold decR; rw [if_pos h8, if_neg hz]
  rw [hd, h8]
  simp only [show (1 : Int) < ((8 : Nat) : Int) from by omega, show (0 : Int) < ((8 : Nat) : Int) from by omega, if_true]
  have hl8 : l.length ≤ 1000000000 := by omega
  clear hd
  have k1 : wrap64 (Int.tmod (IntKind.u64.wrap (Int.tdiv (rd l 0) 65536)) 65536) = q1 (rd l 0) := by
    generalize rd l 0 = A at a0 a1
    rw [Int.tdiv_eq_ediv_of_nonneg a0, u64_fit (by omega) (by omega), Int.tmod_eq_emod_of_nonneg (by omega), w64 (by omega) (by omega)]; rfl
  have k2 : wrap64 (Int.tmod (IntKind.u64.wrap (Int.tdiv (rd l 0) 4294967296)) 65536) = q2 (rd l 0) := by
    generalize rd l 0 = A at a0 a1
    rw [Int.tdiv_eq_ediv_of_nonneg a0, u64_fit (by omega) (by omega), Int.tmod_eq_emod_of_nonneg (by omega), w64 (by omega) (by omega)]; rfl
  have k3 : wrap64 (IntKind.u64.wrap (Int.tdiv (rd l 0) 281474976710656)) = q3 (rd l 0) := by
    generalize rd l 0 = A at a0 a1
    rw [Int.tdiv_eq_ediv_of_nonneg a0, u64_fit (by omega) (by omega), w64 (by omega) (by omega)]; rfl
  rw [k1, k2, k3]
  clear k1 k2 k3
  generalize q1 (rd l 0) = s at hg hh
  generalize q2 (rd l 0) = f at hg hh
  generalize q3 (rd l 0) = t at hg hh
  generalize rd l 1 = c at hg hh b0 b1
  by_cases hc : c > 65535
  · have : ¬ goodR l := fun g => by have := (hg g).1; unfold mayR at this; omega
    simp only [if_pos hc, if_neg this]
    exact Ev.now _
  · simp only [if_neg hc, w64 (n := c) (by omega) (by omega), rmay9_is, Option.bind_some]
    by_cases hm : mayR s f t c
    · simp only [decide_eq_true hm, if_true]
      refine Ev.bind (renc9_f s f t c hm) ?_
      have hc := cmp_ev s f t c (lineR s f t c) l [] [] (by rw [h8]; rfl) rfl (by have : (lineR s f t c).length = 8 := rfl; simp only [List.length_nil]; omega)
      by_cases q : lineR s f t c = l
      · obtain ⟨g, e⟩ := hh hm q
        rw [if_pos q] at hc
        rw [if_pos g, e]
        exact hc
      · rw [if_neg q] at hc
        rw [if_neg (fun g => q (hg g).2)]
        exact hc
    · simp only [decide_eq_false hm, Bool.false_eq_true, if_false]
      rw [if_neg (fun g => hm (hg g).1)]
      exact Ev.now _
/-- The first loop: whether all words are 0. -/
theorem zero_ev (x0 : List Int) (r : Int × Int × Int × Int × Int) : ∀ (l pre : List Int) (z : Bool), pre.length + l.length ≤ 1000000000 →
    Ev (fun k => cantleref09_Decode.l0 k x0 (z && decide (AllZ l)) (pre ++ l) ((pre ++ l).length : Int) ((pre ++ l).length : Int)) r →
    Ev (fun k => cantleref09_Decode.l0 k x0 z (pre ++ l) ((pre ++ l).length : Int) (pre.length : Int)) r
  | [], pre, z, hb, h => by
    have : AllZ [] := fun x hx => by simp at hx
    rw [decide_eq_true this, Bool.and_true] at h
    simpa using h
  | x :: l, pre, z, hb, h => by
    simp only [List.length_cons] at hb
    have hlen : (pre ++ x :: l).length = pre.length + l.length + 1 := by simp; omega
    have e1 : pre ++ [x] ++ l = pre ++ x :: l := by simp
    have e2 : ((pre ++ [x]).length : Int) = (pre.length : Int) + 1 := by simp
    have ez : (z && decide (AllZ (x :: l))) = ((z && (x == 0)) && decide (AllZ l)) := by
      have hi : AllZ (x :: l) ↔ x = 0 ∧ AllZ l := by simp [AllZ]
      rw [Bool.and_assoc, beq_dec, ← Bool.decide_and, decide_eq_decide.mpr hi]
    rw [ez] at h
    have ih := zero_ev x0 r l (pre ++ [x]) (z && (x == 0)) (by simp; omega) (by rw [e1]; exact h)
    rw [e1, e2] at ih
    refine Ev.step (fun k => ?_) ih
    simp only [cantleref09_Decode.l0, hlen, rd_mid]
    rw [if_pos (by omega), if_pos (by omega), if_pos (by omega), w64 (n := (pre.length : Int) + 1) (by omega) (by omega)]
    cases z <;> simp
theorem rdec_f (l : List Int) (hw : ∀ x ∈ l, 0 ≤ x ∧ x < 18446744073709551616) : Ev (fun k => cantleref09_Decode.f k l) (decR l) := by
  unfold cantleref09_Decode.f
  by_cases h8 : l.length = 8
  · simp only [if_pos (show (l.length : Int) = 8 from by omega)]
    refine zero_ev l _ l [] true (by simp [h8]) ?_
    simp only [List.nil_append, Bool.true_and]
    by_cases hz : AllZ l
    · rw [decide_eq_true hz]
      refine Ev.step (f := fun _ => some _) (fun k => ?_) (Ev.now _)
      simp only [cantleref09_Decode.l0]
      rw [if_neg (by omega)]
      simp only [if_true]
      unfold decR; rw [if_pos h8, if_pos hz]
    · rw [decide_eq_false hz]
      refine Ev.step (fun k => ?_) (tail_ev l h8 hw hz)
      simp only [cantleref09_Decode.l0]
      rw [if_neg (by omega)]
      simp only [Bool.false_eq_true, if_false]
  · simp only [if_neg (show ¬ (l.length : Int) = 8 from by omega)]
    have : decR l = (0, 0, 0, 0, 2) := by unfold decR; rw [if_neg h8]
    rw [this]
    exact Ev.now _
theorem RecordDecodes : cantlelaw09_RecordDecodes.Pure := by
  intro l h1 h2 h3
  have hw : ∀ x ∈ l, 0 ≤ x ∧ x < 18446744073709551616 := fun x hx => wf_u64 (h3 x hx)
  refine Ev.rounds (r := true) ?_
  unfold cantlelaw09_RecordDecodes.f
  refine Ev.bind record_lives ?_
  simp only [if_true]
  by_cases h : (l.length : Int) > 20
  · rw [decide_eq_true h]
    refine Ev.step (f := fun k => (cantlelaw09_Lives.f k).bind fun t => some t) (fun k => by simp only [cantlelaw09_RecordDecodes.j0, if_true]) ?_
    exact Ev.bind record_lives (Ev.now _)
  · rw [decide_eq_false h]
    refine Ev.step (fun k => by simp only [cantlelaw09_RecordDecodes.j0]; rw [if_neg (by simp)]) ?_
    refine Ev.bind (decR_f l hw) ?_
    refine Ev.bind (rdec_f l hw) ?_
    simp
    exact Ev.now _
end Go.Proofs.Ytdccgedbgajidaa.Pure
