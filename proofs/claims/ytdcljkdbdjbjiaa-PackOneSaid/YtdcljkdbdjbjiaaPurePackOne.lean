/- The law PackOne of the pure program: one field of any width holds just what is below its power. Conditions: the numbers are of their kinds. -/
import Derived.Test.YtdcljkdbdjbjiaaPPackOnex2
import Derived.Test.YtdcljkdbdjbjiaaMath
namespace Go.Proofs.Ytdcljkdbdjbjiaa.Pure
open Go.RowKit Go.Proofs.Ytdcljkdbdjbjiaa.PPackOne Go.Proofs.YtdcljkdbdjbjiaaW.PrintWords Go.Proofs.YtdcljkdbdjbjiaaW.PrintLast Go.Proofs.Ytdcljkdbdjbjiaa.Math
/-! ### pack.Split, by numbers -/
def sp : Int → Int → List Int → Option (List Int)
  | x, _, [] => if x = 0 then some [] else none
  | x, left, w :: ws => if w < 1 ∨ w > left then none else (sp (x / 2 ^ w.toNat) (left - w) ws).map (x % 2 ^ w.toNat :: ·)
def spR (out : List Int) : Option (List Int) → List Int × Bool
  | some r => (out ++ r, true)
  | none => ([], false)
theorem spR_map (out : List Int) (a : Int) : ∀ o : Option (List Int), spR out (o.map (a :: ·)) = spR (out ++ [a]) o
  | some r => by simp [spR]
  | none => rfl
theorem sp_length : ∀ (ws : List Int) (x left : Int) (r : List Int), sp x left ws = some r → r.length = ws.length
  | [], x, left, r, h => by
    simp only [sp] at h; split at h
    · cases h; rfl
    · cases h
  | w :: ws, x, left, r, h => by
    simp only [sp] at h; split at h
    · cases h
    · obtain ⟨q, hq, rfl⟩ := Option.map_eq_some_iff.mp h
      simp [sp_length ws _ _ q hq]
theorem split_ev : ∀ (ws pre : List Int) (x left : Int) (out : List Int), 0 ≤ x → x < 18446744073709551616 → 0 ≤ left → left ≤ 64 → pre.length + ws.length ≤ 1000000 → out.length ≤ pre.length →
    Ev (fun k => pack_Split.l0 k x out left (pre ++ ws) ((pre ++ ws).length : Int) (pre.length : Int)) (spR out (sp x left ws))
  | [], pre, x, left, out, h0, h1, hl0, hl, hb, ho => by
    refine Ev.step (f := fun _ => some (spR out (sp x left []))) (fun k => ?_) (Ev.now _)
    simp only [pack_Split.l0, List.append_nil]
    rw [if_neg (by omega)]
    simp only [sp]
    split <;> simp [spR]
  | w :: ws, pre, x, left, out, h0, h1, hl0, hl, hb, ho => by
    have hlen : (pre ++ w :: ws).length = pre.length + ws.length + 1 := by simp; omega
    simp only [List.length_cons] at hb
    by_cases hw : w < 1 ∨ w > left
    · refine Ev.step (f := fun _ => some (spR out (sp x left (w :: ws)))) (fun k => ?_) (Ev.now _)
      simp only [pack_Split.l0, rd_mid, hlen]
      rw [if_pos (by omega), if_pos (by omega), if_pos (by omega)]
      simp only [sp, if_pos hw, spR]
      by_cases hw1 : w < 1
      · rw [if_pos hw1]
      · rw [if_neg hw1, if_pos (by omega)]
    · have ih := split_ev ws (pre ++ [w]) (x / 2 ^ w.toNat) (left - w) (out ++ [x % 2 ^ w.toNat])
        (Int.ediv_nonneg h0 (Int.le_of_lt (pow_pos' _))) (Int.lt_of_le_of_lt (Int.ediv_le_self _ h0) h1) (by omega) (by omega) (by simp; omega) (by simp; omega)
      have e1 : pre ++ [w] ++ ws = pre ++ w :: ws := by simp
      have e2 : ((pre ++ [w]).length : Int) = (pre.length : Int) + 1 := by simp
      rw [e1, e2] at ih
      simp only [sp, if_neg hw, spR_map]
      refine Ev.step (fun k => ?_) ih
      simp only [pack_Split.l0, rd_mid, hlen]
      rw [if_pos (by omega), if_pos (by omega), if_pos (by omega), if_neg (by omega), if_neg (by omega), w64 (n := 64 - w) (by omega) (by omega), if_pos (by omega), if_pos (by omega), if_pos (by omega), shr_u64 x w (by omega) (by omega), cut_low x w (by omega) (by omega), w64 (n := left - w) (by omega) (by omega), w64 (n := (pre.length : Int) + 1) (by omega) (by omega)]
theorem split_f (x : Int) (ws : List Int) (h0 : 0 ≤ x) (h1 : x < 18446744073709551616) (hb : ws.length ≤ 1000000) :
    Ev (fun k => pack_Split.f k x ws) (spR [] (sp x 64 ws)) := split_ev ws [] x 64 [] h0 h1 (by omega) (by omega) (by simpa using hb) (by simp)
/-! ### pack.Pack, by numbers -/
def pk : Int → Int → List S28 → Option Int
  | acc, _, [] => some acc
  | acc, at_, f :: fs => if f.f0 < 1 ∨ f.f0 > 64 - at_ ∨ f.f1 ≥ 2 ^ f.f0.toNat then none else pk (acc + f.f1 * 2 ^ at_.toNat) (at_ + f.f0) fs
def pkR : Option Int → Int × Bool
  | some r => (r, true)
  | none => (0, false)
def fit (f : S28) : Prop := (-9223372036854775808 ≤ f.f0 ∧ f.f0 ≤ 9223372036854775807) ∧ 0 ≤ f.f1 ∧ f.f1 < 18446744073709551616
theorem may_is (f : S28) (h : fit f) : pack_Field_may.f f.f0 f.f1 = some (decide (1 ≤ f.f0 ∧ f.f0 ≤ 64 ∧ f.f1 < 2 ^ f.f0.toNat)) := by
  obtain ⟨⟨_, _⟩, h0, h1⟩ := h
  unfold pack_Field_may.f
  by_cases a : 1 ≤ f.f0
  · rw [if_pos (by omega)]
    by_cases b : f.f0 ≤ 64
    · rw [if_pos b]
      by_cases c : f.f0 = 64
      · rw [if_pos c]; rw [decide_eq_true]; refine ⟨a, b, ?_⟩; rw [c]; exact h1
      · rw [if_neg c, if_pos (by omega), shr_u64 _ _ (by omega) (by omega)]
        have : (f.f1 / 2 ^ f.f0.toNat == 0) = decide (f.f1 < 2 ^ f.f0.toNat) := by
          rw [Bool.eq_iff_iff]; simp only [beq_iff_eq, decide_eq_true_eq]
          constructor
          · intro e
            rcases Int.lt_or_le f.f1 (2 ^ f.f0.toNat) with hlt | hle
            · exact hlt
            · have := Int.le_ediv_of_mul_le (pow_pos' f.f0.toNat) (by omega : 1 * 2 ^ f.f0.toNat ≤ f.f1); omega
          · intro e; exact Int.ediv_eq_zero_of_lt h0 e
        rw [this]; simp [a, b]
    · rw [if_neg b]; simp [b]
  · rw [if_neg (by omega)]; simp [a]
theorem rd28_mid (pre : List S28) (f : S28) (fs : List S28) : rd_T28 (pre ++ f :: fs) (pre.length : Int) = f := by unfold rd_T28; simp
theorem pack_ev : ∀ (fs pre : List S28) (acc at_ : Int), (∀ f ∈ fs, fit f) → 0 ≤ at_ → at_ ≤ 64 → 0 ≤ acc → acc < 2 ^ at_.toNat → pre.length + fs.length ≤ 1000000 →
    Ev (fun k => pack_Pack.l0 k acc at_ (pre ++ fs) ((pre ++ fs).length : Int) (pre.length : Int)) (pkR (pk acc at_ fs))
  | [], pre, acc, at_, hf, h0, h1, ha0, ha, hb => by
    refine Ev.step (f := fun _ => some _) (fun k => ?_) (Ev.now _)
    simp only [pack_Pack.l0, List.append_nil]; rw [if_neg (by omega)]; rfl
  | f :: fs, pre, acc, at_, hf, h0, h1, ha0, ha, hb => by
    have hlen : (pre ++ f :: fs).length = pre.length + fs.length + 1 := by simp; omega
    simp only [List.length_cons] at hb
    have hfit := hf f List.mem_cons_self
    have hmay := may_is f hfit
    have e64 : wrap64 (64 - at_) = 64 - at_ := w64 (by omega) (by omega)
    have ei : wrap64 ((pre.length : Int) + 1) = (pre.length : Int) + 1 := w64 (by omega) (by omega)
    by_cases hw : f.f0 < 1 ∨ f.f0 > 64 - at_ ∨ f.f1 ≥ 2 ^ f.f0.toNat
    · refine Ev.step (f := fun _ => some (pkR (pk acc at_ (f :: fs)))) (fun k => ?_) (Ev.now _)
      simp only [pack_Pack.l0, rd28_mid, hlen, hmay, Option.bind_some]
      rw [if_pos (by omega), if_pos (by omega), if_pos (by omega)]
      simp only [pk, if_pos hw, pkR]
      by_cases hm : 1 ≤ f.f0 ∧ f.f0 ≤ 64 ∧ f.f1 < 2 ^ f.f0.toNat
      · rw [decide_eq_true hm, if_pos rfl, e64, if_pos (by omega)]
      · rw [decide_eq_false hm]; rfl
    · obtain ⟨⟨_, _⟩, hv0, hv1⟩ := hfit
      have hv : f.f1 < 2 ^ f.f0.toNat := by omega
      have hsum : acc + f.f1 * 2 ^ at_.toNat < 2 ^ (at_ + f.f0).toNat := by
        have e : (at_ + f.f0).toNat = f.f0.toNat + at_.toNat := by omega
        rw [e, pow_add']
        have h3 : (f.f1 + 1) * 2 ^ at_.toNat ≤ 2 ^ f.f0.toNat * 2 ^ at_.toNat := Int.mul_le_mul_of_nonneg_right (by omega) (Int.le_of_lt (pow_pos' _))
        rw [Int.add_mul, Int.one_mul] at h3; omega
      have hle : (2 : Int) ^ (at_ + f.f0).toNat ≤ 2 ^ 64 := pow_le' (by omega)
      have hmul : 0 ≤ f.f1 * 2 ^ at_.toNat := Int.mul_nonneg hv0 (Int.le_of_lt (pow_pos' _))
      have ih := pack_ev fs (pre ++ [f]) (acc + f.f1 * 2 ^ at_.toNat) (at_ + f.f0) (fun g hg => hf g (List.mem_cons_of_mem _ hg)) (by omega) (by omega) (by omega) hsum (by simp; omega)
      have e1 : pre ++ [f] ++ fs = pre ++ f :: fs := by simp
      have e2 : ((pre ++ [f]).length : Int) = (pre.length : Int) + 1 := by simp
      rw [e1, e2] at ih
      simp only [pk, if_neg hw]
      refine Ev.step (fun k => ?_) ih
      have eo : Go.bits .or .u64 acc (shl .u64 f.f1 at_) = acc + f.f1 * 2 ^ at_.toNat := by
        rw [shl_u64_fit _ _ h0 h1 hv0 (by omega)]
        exact or_above acc f.f1 at_.toNat ha0 ha hv0 (by omega)
      have ea : wrap64 (at_ + f.f0) = at_ + f.f0 := w64 (by omega) (by omega)
      simp only [pack_Pack.l0, rd28_mid, hlen, hmay, Option.bind_some]
      rw [if_pos (by omega), if_pos (by omega), if_pos (by omega), if_pos (by rw [decide_eq_true]; exact ⟨by omega, by omega, hv⟩), e64, if_neg (by omega), if_pos (by omega), eo, ea, ei]
theorem pack_f (fs : List S28) (hf : ∀ f ∈ fs, fit f) (hb : fs.length ≤ 1000000) : Ev (fun k => pack_Pack.f k fs) (pkR (pk 0 0 fs)) :=
  pack_ev fs [] 0 0 hf (by omega) (by omega) (by omega) (by simp) (by simpa using hb)
theorem lives_ev : Ev (fun k => cantlelaw03_Lives.f k) true := Ev.of cantlelaw03_Lives.mono (k := 20) (by decide +kernel)
def one (w x : Int) : Prop := 1 ≤ w ∧ w ≤ 64 ∧ x < 2 ^ w.toNat
theorem pk_one (w x : Int) : pk 0 0 [(⟨w, x⟩ : S28)] = if w < 1 ∨ w > 64 ∨ x ≥ 2 ^ w.toNat then none else some x := by
  simp only [pk]
  rw [show (64 : Int) - 0 = 64 from rfl, show (0 : Int) + x * 2 ^ (0 : Int).toNat = x from by simp]
theorem sp_one (w x : Int) (h0 : 0 ≤ x) : sp x 64 [w] = if w < 1 ∨ w > 64 ∨ x ≥ 2 ^ w.toNat then none else some [x] := by
  simp only [sp]
  have hp := pow_pos' w.toNat
  by_cases a : w < 1 ∨ w > 64
  · rw [if_pos a, if_pos (by omega)]
  · rw [if_neg a]
    by_cases b : x ≥ 2 ^ w.toNat
    · rw [if_pos (Or.inr (Or.inr b))]
      have : x / 2 ^ w.toNat ≠ 0 := by
        have := Int.le_ediv_of_mul_le hp (by omega : 1 * 2 ^ w.toNat ≤ x); omega
      rw [if_neg this]; rfl
    · rw [if_pos (Int.ediv_eq_zero_of_lt h0 (by omega)), if_neg (show ¬ (w < 1 ∨ w > 64 ∨ x ≥ 2 ^ w.toNat) from by omega), Int.emod_eq_of_lt h0 (by omega)]; rfl
theorem PackOne : cantlelaw03_PackOne.Pure := by
  intro w x hw hx
  obtain ⟨w0, w1⟩ := wf_i64 hw
  obtain ⟨x0, x1⟩ := wf_u64 hx
  refine Ev.rounds (r := true) ?_
  unfold cantlelaw03_PackOne.f
  refine Ev.bind lives_ev ?_
  simp only [if_true]
  have hp := pack_f [(⟨w, x⟩ : S28)] (by intro f hf; simp only [List.mem_singleton] at hf; subst hf; exact ⟨⟨w0, w1⟩, x0, x1⟩) (by simp)
  have hs := split_f x [w] x0 x1 (by simp)
  rw [pk_one] at hp
  rw [sp_one w x x0] at hs
  refine Ev.bind hp ?_
  have core : ∀ b : Bool, b = decide (¬ (w < 1 ∨ w > 64 ∨ x ≥ 2 ^ w.toNat)) → Ev (fun k => cantlelaw03_PackOne.j0 k w x (pkR (if w < 1 ∨ w > 64 ∨ x ≥ 2 ^ w.toNat then none else some x)).1 (pkR (if w < 1 ∨ w > 64 ∨ x ≥ 2 ^ w.toNat then none else some x)).2 b) true := by
    intro b hb
    subst hb
    by_cases h : w < 1 ∨ w > 64 ∨ x ≥ 2 ^ w.toNat
    · simp only [if_pos h, pkR, decide_eq_false (not_not_intro h)]
      rw [if_pos h] at hs
      refine Ev.step (f := fun k => cantlelaw03_PackOne.j1 k w x false false) (fun k => by simp [cantlelaw03_PackOne.j0]) ?_
      refine Ev.step (f := fun k => (pack_Split.f k x [w]).bind fun bt132 => (if (bt132.2 == false) = true then (if bt132.2 = true then (if (bt132.1.length : Int) = 1 then (if 0 < (bt132.1.length : Int) then (some ((rd bt132.1 0) == x)) else (none)) else (some false)) else (some true)) else (some false))) (fun k => by simp only [cantlelaw03_PackOne.j1]; rw [if_neg (by simp)]) (Ev.bind hs ?_)
      simp only [spR]
      exact Ev.now _
    · simp only [if_neg h, pkR, decide_eq_true h]
      rw [if_neg h] at hs
      refine Ev.step (f := fun k => cantlelaw03_PackOne.j1 k w x true false) (fun k => by simp [cantlelaw03_PackOne.j0]) ?_
      refine Ev.step (f := fun k => (pack_Split.f k x [w]).bind fun bt132 => (if (bt132.2 == true) = true then (if bt132.2 = true then (if (bt132.1.length : Int) = 1 then (if 0 < (bt132.1.length : Int) then (some ((rd bt132.1 0) == x)) else (none)) else (some false)) else (some true)) else (some false))) (fun k => by simp only [cantlelaw03_PackOne.j1]; rw [if_neg (by simp)]) (Ev.bind hs ?_)
      simp only [spR, List.nil_append]
      have : rd [x] 0 = x := rfl
      simp only [this]
      simp
      exact Ev.now _
  by_cases a : w ≥ 1
  · simp only [if_pos a]
    by_cases b : w ≤ 64
    · simp only [if_pos b]
      by_cases c : w = 64
      · simp only [if_pos c]
        refine core true ?_
        symm; rw [decide_eq_true_eq]
        have : (2 : Int) ^ w.toNat = 18446744073709551616 := by rw [c]; rfl
        omega
      · simp only [if_neg c, if_pos (show (0 : Int) ≤ w from by omega)]
        refine core _ ?_
        have hp2 : (2 : Int) ^ w.toNat ≤ 2 ^ 63 := pow_le' (by omega)
        have hp3 := pow_pos' w.toNat
        have e : shl .u64 1 w = 2 ^ w.toNat := by
          rw [shl_u64_fit 1 w (by omega) (by omega) (by omega) (by omega)]; omega
        rw [e, decide_eq_decide]; omega
    · simp only [if_neg b]
      refine core false ?_
      symm; rw [decide_eq_false_iff_not]; omega
  · simp only [if_neg a]
    refine core false ?_
    symm; rw [decide_eq_false_iff_not]; omega
end Go.Proofs.Ytdcljkdbdjbjiaa.Pure
