/- The law PackSplits of the pure program: of any word and any widths both splits tell the same, and what is split is packed to it. Conditions: the numbers are of their kinds. -/
import Derived.Test.YtdcljkdbdjbjiaaPPackSplitsx2
import Derived.Test.YtdcljkdbdjbjiaaMath
namespace Go.Proofs.Ytdcljkdbdjbjiaa.Pure
open Go.RowKit Go.Proofs.Ytdcljkdbdjbjiaa.PPackSplits Go.Proofs.YtdcljkdbdjbjiaaW.PrintWords Go.Proofs.YtdcljkdbdjbjiaaW.PrintLast Go.Proofs.Ytdcljkdbdjbjiaa.Math
/-! ### pack.Split, by numbers -/
def sp : Int → Int → List Int → Option (List Int)
  | x, _, [] => if x = 0 then some [] else none
  | x, left, w :: ws => if w < 1 ∨ w > left then none else (sp (x / 2 ^ w.toNat) (left - w) ws).map (x % 2 ^ w.toNat :: ·)
def spR (out : List Int) : Option (List Int) → List Int × Bool
  | some r => (out ++ r, true)
  | none => ([], false)
theorem spR_map (out : List Int) (a : Int) : ∀ o : Option (List Int), spR out (o.map (a :: ·)) = spR (out ++ [a]) o
  | some r => by simp [spR]
  | none => rfl
theorem sp_length : ∀ (ws : List Int) (x left : Int) (r : List Int), sp x left ws = some r → r.length = ws.length
  | [], x, left, r, h => by
    simp only [sp] at h; split at h
    · cases h; rfl
    · cases h
  | w :: ws, x, left, r, h => by
    simp only [sp] at h; split at h
    · cases h
    · obtain ⟨q, hq, rfl⟩ := Option.map_eq_some_iff.mp h
      simp [sp_length ws _ _ q hq]
theorem split_ev : ∀ (ws pre : List Int) (x left : Int) (out : List Int), 0 ≤ x → x < 18446744073709551616 → 0 ≤ left → left ≤ 64 → pre.length + ws.length ≤ 1000000 → out.length ≤ pre.length →
    Ev (fun k => pack_Split.l0 k x out left (pre ++ ws) ((pre ++ ws).length : Int) (pre.length : Int)) (spR out (sp x left ws))
  | [], pre, x, left, out, h0, h1, hl0, hl, hb, ho => by
    refine Ev.step (f := fun _ => some (spR out (sp x left []))) (fun k => ?_) (Ev.now _)
    simp only [pack_Split.l0, List.append_nil]
    rw [if_neg (by omega)]
    simp only [sp]
    split <;> simp [spR]
  | w :: ws, pre, x, left, out, h0, h1, hl0, hl, hb, ho => by
    have hlen : (pre ++ w :: ws).length = pre.length + ws.length + 1 := by simp; omega
    simp only [List.length_cons] at hb
    by_cases hw : w < 1 ∨ w > left
    · refine Ev.step (f := fun _ => some (spR out (sp x left (w :: ws)))) (fun k => ?_) (Ev.now _)
      simp only [pack_Split.l0, rd_mid, hlen]
      rw [if_pos (by omega), if_pos (by omega), if_pos (by omega)]
      simp only [sp, if_pos hw, spR]
      by_cases hw1 : w < 1
      · rw [if_pos hw1]
      · rw [if_neg hw1, if_pos (by omega)]
    · have ih := split_ev ws (pre ++ [w]) (x / 2 ^ w.toNat) (left - w) (out ++ [x % 2 ^ w.toNat])
        (Int.ediv_nonneg h0 (Int.le_of_lt (pow_pos' _))) (Int.lt_of_le_of_lt (Int.ediv_le_self _ h0) h1) (by omega) (by omega) (by simp; omega) (by simp; omega)
      have e1 : pre ++ [w] ++ ws = pre ++ w :: ws := by simp
      have e2 : ((pre ++ [w]).length : Int) = (pre.length : Int) + 1 := by simp
      rw [e1, e2] at ih
      simp only [sp, if_neg hw, spR_map]
      refine Ev.step (fun k => ?_) ih
      simp only [pack_Split.l0, rd_mid, hlen]
      rw [if_pos (by omega), if_pos (by omega), if_pos (by omega), if_neg (by omega), if_neg (by omega), w64 (n := 64 - w) (by omega) (by omega), if_pos (by omega), if_pos (by omega), if_pos (by omega), shr_u64 x w (by omega) (by omega), cut_low x w (by omega) (by omega), w64 (n := left - w) (by omega) (by omega), w64 (n := (pre.length : Int) + 1) (by omega) (by omega)]
theorem split_f (x : Int) (ws : List Int) (h0 : 0 ≤ x) (h1 : x < 18446744073709551616) (hb : ws.length ≤ 1000000) :
    Ev (fun k => pack_Split.f k x ws) (spR [] (sp x 64 ws)) := split_ev ws [] x 64 [] h0 h1 (by omega) (by omega) (by simpa using hb) (by simp)
/-! ### the document's Power and Split -/
theorem power_ev (n : Int) (hn : n ≤ 64) : ∀ (d : Nat) (i : Int), 0 ≤ i → i ≤ n → n - i = d → ∀ x : Int, x = 2 ^ i.toNat → n < 64 → Ev (fun k => cantleref03_Power.l0 k x n i) (2 ^ n.toNat)
  | 0, i, h0, hi, hd, x, hx, _ => by
    have : i = n := by omega
    subst this; subst hx
    refine Ev.step (f := fun _ => some _) (fun k => ?_) (Ev.now _)
    simp only [cantleref03_Power.l0]; rw [if_neg (by omega)]
  | d + 1, i, h0, hi, hd, x, hx, hn' => by
    have ih := power_ev n hn d (i + 1) (by omega) (by omega) (by omega) (2 * x) (by subst hx; rw [show (i + 1).toNat = i.toNat + 1 from by omega, Int.pow_succ, Int.mul_comm]) hn'
    refine Ev.step (fun k => ?_) ih
    have hx63 : x < 2 ^ 63 := by subst hx; exact pow_lt' (by omega)
    have hx0 : 0 < x := by subst hx; exact pow_pos' _
    simp only [cantleref03_Power.l0]; rw [if_pos (by omega), u64_fit (by omega) (by omega), w64 (n := i + 1) (by omega) (by omega)]
theorem power_f (n : Int) (h0 : 0 ≤ n) (hn : n < 64) : Ev (fun k => cantleref03_Power.f k n) (2 ^ n.toNat) :=
  power_ev n (by omega) n.toNat 0 (by omega) h0 (by omega) 1 rfl hn
theorem rsplit_ev : ∀ (ws pre : List Int) (x left : Int) (out : List Int), 0 ≤ x → x < 18446744073709551616 → 0 ≤ left → left ≤ 64 → pre.length + ws.length ≤ 1000000 → out.length ≤ pre.length →
    Ev (fun k => cantleref03_Split.l0 k x out left (pre ++ ws) ((pre ++ ws).length : Int) (pre.length : Int)) (spR out (sp x left ws))
  | [], pre, x, left, out, h0, h1, hl0, hl, hb, ho => by
    refine Ev.step (f := fun _ => some (spR out (sp x left []))) (fun k => ?_) (Ev.now _)
    simp only [cantleref03_Split.l0, List.append_nil]
    rw [if_neg (by omega)]
    simp only [sp]
    by_cases hx : x = 0
    · rw [if_neg (by omega), if_pos hx]; simp [spR]
    · rw [if_pos (by omega), if_neg hx]; simp [spR]
  | w :: ws, pre, x, left, out, h0, h1, hl0, hl, hb, ho => by
    have hlen : (pre ++ w :: ws).length = pre.length + ws.length + 1 := by simp; omega
    simp only [List.length_cons] at hb
    by_cases hw : w < 1 ∨ w > left
    · have hj : Ev (fun k => cantleref03_Split.j1 k x out left w (pre ++ w :: ws) ((pre ++ w :: ws).length : Int) (pre.length : Int) true) (spR out (sp x left (w :: ws))) := by
        refine Ev.step (f := fun _ => some (spR out (sp x left (w :: ws)))) (fun k => ?_) (Ev.now _)
        simp only [cantleref03_Split.j1, sp, if_pos hw, spR, if_true]
      refine Ev.step (fun k => ?_) hj
      simp only [cantleref03_Split.l0, rd_mid, hlen]
      rw [if_pos (by omega), if_pos (by omega), if_pos (by omega)]
      by_cases hw1 : w < 1
      · rw [if_pos hw1]
      · rw [if_neg hw1, decide_eq_true (by omega)]
    · have ih := rsplit_ev ws (pre ++ [w]) (x / 2 ^ w.toNat) (left - w) (out ++ [x % 2 ^ w.toNat])
        (Int.ediv_nonneg h0 (Int.le_of_lt (pow_pos' _))) (Int.lt_of_le_of_lt (Int.ediv_le_self _ h0) h1) (by omega) (by omega) (by simp; omega) (by simp; omega)
      have e1 : pre ++ [w] ++ ws = pre ++ w :: ws := by simp
      have e2 : ((pre ++ [w]).length : Int) = (pre.length : Int) + 1 := by simp
      rw [e1, e2] at ih
      simp only [sp, if_neg hw, spR_map]
      have hj : Ev (fun k => cantleref03_Split.j1 k x out left w (pre ++ w :: ws) ((pre ++ w :: ws).length : Int) (pre.length : Int) false) (spR (out ++ [x % 2 ^ w.toNat]) (sp (x / 2 ^ w.toNat) (left - w) ws)) := by
        by_cases h64 : w = 64
        · subst h64
          have ez : x / 2 ^ (64 : Int).toNat = 0 := Int.ediv_eq_zero_of_lt h0 h1
          have em : x % 2 ^ (64 : Int).toNat = x := Int.emod_eq_of_lt h0 h1
          rw [ez, em] at ih ⊢
          refine Ev.step (fun k => ?_) ih
          simp only [cantleref03_Split.j1]
          rw [if_neg (by simp), if_pos trivial, if_pos (by omega), w64 (n := left - 64) (by omega) (by omega), w64 (n := (pre.length : Int) + 1) (by omega) (by omega)]
        · have hp := power_f w (by omega) (by omega)
          have hpos := pow_pos' w.toNat
          have hk : ∀ k, cantleref03_Split.j1 (k + 1) x out left w (pre ++ w :: ws) ((pre ++ w :: ws).length : Int) (pre.length : Int) false = (cantleref03_Power.f k w).bind fun t129 => (if t129 = 0 then none else (if out.length < 17592186044416 then ((cantleref03_Power.f k w).bind fun t133 => (if t133 = 0 then none else (cantleref03_Split.l0 k (IntKind.u64.wrap (Int.tdiv x t133)) (out ++ [Int.tmod x t129]) (wrap64 (left - w)) (pre ++ w :: ws) ((pre ++ w :: ws).length : Int) (wrap64 ((pre.length : Int) + 1))))) else none)) := by
            intro k
            simp only [cantleref03_Split.j1]
            rw [if_neg (by simp), if_neg h64]
          refine Ev.step hk (Ev.bind hp ?_)
          refine Ev.congr (f := fun k => (cantleref03_Power.f k w).bind fun t133 => (if t133 = 0 then none else (cantleref03_Split.l0 k (IntKind.u64.wrap (Int.tdiv x t133)) (out ++ [Int.tmod x (2 ^ w.toNat)]) (wrap64 (left - w)) (pre ++ w :: ws) ((pre ++ w :: ws).length : Int) (wrap64 ((pre.length : Int) + 1))))) (fun k => ?_) ?_
          · rw [if_neg (by omega), if_pos (by omega)]
          · refine Ev.bind hp ?_
            refine Ev.congr (fun k => ?_) ih
            rw [if_neg (by omega), Int.tdiv_eq_ediv_of_nonneg h0, Int.tmod_eq_emod_of_nonneg h0, u64_fit (Int.ediv_nonneg h0 (Int.le_of_lt hpos)) (Int.lt_of_le_of_lt (Int.ediv_le_self _ h0) h1), w64 (n := left - w) (by omega) (by omega), w64 (n := (pre.length : Int) + 1) (by omega) (by omega)]
      refine Ev.step (fun k => ?_) hj
      simp only [cantleref03_Split.l0, rd_mid, hlen]
      rw [if_pos (by omega), if_pos (by omega), if_pos (by omega), if_neg (by omega), decide_eq_false (by omega)]
theorem rsplit_f (x : Int) (ws : List Int) (h0 : 0 ≤ x) (h1 : x < 18446744073709551616) (hb : ws.length ≤ 1000000) :
    Ev (fun k => cantleref03_Split.f k x ws) (spR [] (sp x 64 ws)) := rsplit_ev ws [] x 64 [] h0 h1 (by omega) (by omega) (by simpa using hb) (by simp)
/-! ### cantlelaw03.Same -/
theorem same_ev : ∀ (a b pa pb : List Int), a.length = b.length → pa.length = pb.length → pa.length + a.length ≤ 1000000000 →
    Ev (fun k => cantlelaw03_Same.l0 k (pa ++ a) (pb ++ b) ((pa ++ a).length : Int) (pa.length : Int)) (decide (a = b))
  | [], [], pa, pb, _, hp, hb => by
    refine Ev.step (f := fun _ => some _) (fun k => ?_) (Ev.now _)
    simp only [cantlelaw03_Same.l0, List.append_nil]; rw [if_neg (by omega)]; simp
  | x :: a, y :: b, pa, pb, hl, hp, hb => by
    have h1 : (pa ++ x :: a).length = pa.length + a.length + 1 := by simp; omega
    have h2 : (pb ++ y :: b).length = pa.length + a.length + 1 := by simp at hl ⊢; omega
    simp only [List.length_cons] at hb hl
    by_cases hxy : x = y
    · have ih := same_ev a b (pa ++ [x]) (pb ++ [y]) (by omega) (by simp [hp]) (by simp; omega)
      have e1 : pa ++ [x] ++ a = pa ++ x :: a := by simp
      have e1' : pb ++ [y] ++ b = pb ++ y :: b := by simp
      have e2 : ((pa ++ [x]).length : Int) = (pa.length : Int) + 1 := by simp
      rw [e1, e1', e2] at ih
      have ed : decide (x :: a = y :: b) = decide (a = b) := by subst hxy; simp
      rw [ed]
      refine Ev.step (fun k => ?_) ih
      simp only [cantlelaw03_Same.l0, h1, h2, rd_mid, rd_mid' hp]
      rw [if_pos (by omega), if_pos (by omega), if_pos (by omega), if_pos (by omega), if_pos hxy, w64 (n := (pa.length : Int) + 1) (by omega) (by omega)]
    · refine Ev.step (f := fun _ => some _) (fun k => ?_) (Ev.now _)
      simp only [cantlelaw03_Same.l0, h1, h2, rd_mid, rd_mid' hp]
      rw [if_pos (by omega), if_pos (by omega), if_pos (by omega), if_pos (by omega), if_neg hxy]
      simp [hxy]
theorem same_f (a b : List Int) (hb : a.length ≤ 1000000000) : Ev (fun k => cantlelaw03_Same.f k a b) (decide (a = b)) := by
  by_cases h : a.length = b.length
  · refine Ev.congr (fun k => ?_) (same_ev a b [] [] h rfl (by simpa using hb))
    unfold cantlelaw03_Same.f
    rw [if_pos (by omega)]; rfl
  · refine Ev.congr (f := fun _ => some _) (fun k => ?_) (Ev.now _)
    unfold cantlelaw03_Same.f
    rw [if_neg (by omega)]
    simp only [Option.some.injEq]
    symm; rw [decide_eq_false_iff_not]; intro e; subst e; exact h rfl
/-! ### pack.Pack, by numbers -/
def pk : Int → Int → List S28 → Option Int
  | acc, _, [] => some acc
  | acc, at_, f :: fs => if f.f0 < 1 ∨ f.f0 > 64 - at_ ∨ f.f1 ≥ 2 ^ f.f0.toNat then none else pk (acc + f.f1 * 2 ^ at_.toNat) (at_ + f.f0) fs
def pkR : Option Int → Int × Bool
  | some r => (r, true)
  | none => (0, false)
def fit (f : S28) : Prop := (-9223372036854775808 ≤ f.f0 ∧ f.f0 ≤ 9223372036854775807) ∧ 0 ≤ f.f1 ∧ f.f1 < 18446744073709551616
theorem may_is (f : S28) (h : fit f) : pack_Field_may.f f.f0 f.f1 = some (decide (1 ≤ f.f0 ∧ f.f0 ≤ 64 ∧ f.f1 < 2 ^ f.f0.toNat)) := by
  obtain ⟨⟨_, _⟩, h0, h1⟩ := h
  unfold pack_Field_may.f
  by_cases a : 1 ≤ f.f0
  · rw [if_pos (by omega)]
    by_cases b : f.f0 ≤ 64
    · rw [if_pos b]
      by_cases c : f.f0 = 64
      · rw [if_pos c]; rw [decide_eq_true]; refine ⟨a, b, ?_⟩; rw [c]; exact h1
      · rw [if_neg c, if_pos (by omega), shr_u64 _ _ (by omega) (by omega)]
        have : (f.f1 / 2 ^ f.f0.toNat == 0) = decide (f.f1 < 2 ^ f.f0.toNat) := by
          rw [Bool.eq_iff_iff]; simp only [beq_iff_eq, decide_eq_true_eq]
          constructor
          · intro e
            rcases Int.lt_or_le f.f1 (2 ^ f.f0.toNat) with hlt | hle
            · exact hlt
            · have := Int.le_ediv_of_mul_le (pow_pos' f.f0.toNat) (by omega : 1 * 2 ^ f.f0.toNat ≤ f.f1); omega
          · intro e; exact Int.ediv_eq_zero_of_lt h0 e
        rw [this]; simp [a, b]
    · rw [if_neg b]; simp [b]
  · rw [if_neg (by omega)]; simp [a]
theorem rd28_mid (pre : List S28) (f : S28) (fs : List S28) : rd_T28 (pre ++ f :: fs) (pre.length : Int) = f := by unfold rd_T28; simp
theorem pack_ev : ∀ (fs pre : List S28) (acc at_ : Int), (∀ f ∈ fs, fit f) → 0 ≤ at_ → at_ ≤ 64 → 0 ≤ acc → acc < 2 ^ at_.toNat → pre.length + fs.length ≤ 1000000 →
    Ev (fun k => pack_Pack.l0 k acc at_ (pre ++ fs) ((pre ++ fs).length : Int) (pre.length : Int)) (pkR (pk acc at_ fs))
  | [], pre, acc, at_, hf, h0, h1, ha0, ha, hb => by
    refine Ev.step (f := fun _ => some _) (fun k => ?_) (Ev.now _)
    simp only [pack_Pack.l0, List.append_nil]; rw [if_neg (by omega)]; rfl
  | f :: fs, pre, acc, at_, hf, h0, h1, ha0, ha, hb => by
    have hlen : (pre ++ f :: fs).length = pre.length + fs.length + 1 := by simp; omega
    simp only [List.length_cons] at hb
    have hfit := hf f List.mem_cons_self
    have hmay := may_is f hfit
    have e64 : wrap64 (64 - at_) = 64 - at_ := w64 (by omega) (by omega)
    have ei : wrap64 ((pre.length : Int) + 1) = (pre.length : Int) + 1 := w64 (by omega) (by omega)
    by_cases hw : f.f0 < 1 ∨ f.f0 > 64 - at_ ∨ f.f1 ≥ 2 ^ f.f0.toNat
    · refine Ev.step (f := fun _ => some (pkR (pk acc at_ (f :: fs)))) (fun k => ?_) (Ev.now _)
      simp only [pack_Pack.l0, rd28_mid, hlen, hmay, Option.bind_some]
      rw [if_pos (by omega), if_pos (by omega), if_pos (by omega)]
      simp only [pk, if_pos hw, pkR]
      by_cases hm : 1 ≤ f.f0 ∧ f.f0 ≤ 64 ∧ f.f1 < 2 ^ f.f0.toNat
      · rw [decide_eq_true hm, if_pos rfl, e64, if_pos (by omega)]
      · rw [decide_eq_false hm]; rfl
    · obtain ⟨⟨_, _⟩, hv0, hv1⟩ := hfit
      have hv : f.f1 < 2 ^ f.f0.toNat := by omega
      have hsum : acc + f.f1 * 2 ^ at_.toNat < 2 ^ (at_ + f.f0).toNat := by
        have e : (at_ + f.f0).toNat = f.f0.toNat + at_.toNat := by omega
        rw [e, pow_add']
        have h3 : (f.f1 + 1) * 2 ^ at_.toNat ≤ 2 ^ f.f0.toNat * 2 ^ at_.toNat := Int.mul_le_mul_of_nonneg_right (by omega) (Int.le_of_lt (pow_pos' _))
        rw [Int.add_mul, Int.one_mul] at h3; omega
      have hle : (2 : Int) ^ (at_ + f.f0).toNat ≤ 2 ^ 64 := pow_le' (by omega)
      have hmul : 0 ≤ f.f1 * 2 ^ at_.toNat := Int.mul_nonneg hv0 (Int.le_of_lt (pow_pos' _))
      have ih := pack_ev fs (pre ++ [f]) (acc + f.f1 * 2 ^ at_.toNat) (at_ + f.f0) (fun g hg => hf g (List.mem_cons_of_mem _ hg)) (by omega) (by omega) (by omega) hsum (by simp; omega)
      have e1 : pre ++ [f] ++ fs = pre ++ f :: fs := by simp
      have e2 : ((pre ++ [f]).length : Int) = (pre.length : Int) + 1 := by simp
      rw [e1, e2] at ih
      simp only [pk, if_neg hw]
      refine Ev.step (fun k => ?_) ih
      have eo : Go.bits .or .u64 acc (shl .u64 f.f1 at_) = acc + f.f1 * 2 ^ at_.toNat := by
        rw [shl_u64_fit _ _ h0 h1 hv0 (by omega)]
        exact or_above acc f.f1 at_.toNat ha0 ha hv0 (by omega)
      have ea : wrap64 (at_ + f.f0) = at_ + f.f0 := w64 (by omega) (by omega)
      simp only [pack_Pack.l0, rd28_mid, hlen, hmay, Option.bind_some]
      rw [if_pos (by omega), if_pos (by omega), if_pos (by omega), if_pos (by rw [decide_eq_true]; exact ⟨by omega, by omega, hv⟩), e64, if_neg (by omega), if_pos (by omega), eo, ea, ei]
theorem pack_f (fs : List S28) (hf : ∀ f ∈ fs, fit f) (hb : fs.length ≤ 1000000) : Ev (fun k => pack_Pack.f k fs) (pkR (pk 0 0 fs)) :=
  pack_ev fs [] 0 0 hf (by omega) (by omega) (by omega) (by simp) (by simpa using hb)
/-! ### what is split is packed -/
def zipF : List Int → List Int → List S28
  | w :: ws, v :: vs => ⟨w, v⟩ :: zipF ws vs
  | _, _ => []
theorem zip_fit : ∀ (ws : List Int) (x left : Int) (vs : List Int), 0 ≤ x → x < 18446744073709551616 → 0 ≤ left → left ≤ 64 → sp x left ws = some vs → ∀ f ∈ zipF ws vs, fit f
  | [], x, left, vs, _, _, _, _, _ => by intro f hf; cases hf
  | w :: ws, x, left, vs, h0, h1, hl0, hl, h => by
    simp only [sp] at h
    split at h
    · cases h
    · rename_i hw
      obtain ⟨q, hq, rfl⟩ := Option.map_eq_some_iff.mp h
      intro f hf
      simp only [zipF, List.mem_cons] at hf
      rcases hf with rfl | hf
      · exact ⟨⟨by show _ ≤ w; omega, by show w ≤ _; omega⟩, Int.emod_nonneg _ (Int.ne_of_gt (pow_pos' _)), Int.lt_of_lt_of_le (Int.emod_lt_of_pos _ (pow_pos' _)) (pow_le' (b := 64) (by omega))⟩
      · exact zip_fit ws _ _ q (Int.ediv_nonneg h0 (Int.le_of_lt (pow_pos' _))) (Int.lt_of_le_of_lt (Int.ediv_le_self _ h0) h1) (by omega) (by omega) hq f hf
theorem pk_zip : ∀ (ws : List Int) (x left : Int) (vs : List Int) (acc : Int), 0 ≤ x → 0 ≤ left → left ≤ 64 → sp x left ws = some vs → pk acc (64 - left) (zipF ws vs) = some (acc + x * 2 ^ (64 - left).toNat)
  | [], x, left, vs, acc, _, _, _, h => by
    simp only [sp] at h
    split at h
    · rename_i hx; subst hx; simp [zipF, pk]
    · cases h
  | w :: ws, x, left, vs, acc, h0, hl0, hl, h => by
    simp only [sp] at h
    split at h
    · cases h
    · rename_i hw
      obtain ⟨q, hq, rfl⟩ := Option.map_eq_some_iff.mp h
      have hm := Int.emod_lt_of_pos x (pow_pos' w.toNat)
      simp only [zipF, pk]
      rw [if_neg (by omega)]
      have ih := pk_zip ws (x / 2 ^ w.toNat) (left - w) q (acc + x % 2 ^ w.toNat * 2 ^ (64 - left).toNat) (Int.ediv_nonneg h0 (Int.le_of_lt (pow_pos' _))) (by omega) (by omega) hq
      have e1 : 64 - (left - w) = 64 - left + w := by omega
      rw [e1] at ih
      rw [ih]
      have e2 : (64 - left + w).toNat = w.toNat + (64 - left).toNat := by omega
      have e3 := Int.mul_ediv_add_emod x (2 ^ w.toNat)
      rw [e2, pow_add']
      congr 1
      rw [Int.add_assoc]; congr 1
      rw [← Int.mul_assoc, ← Int.add_mul]; congr 1
      rw [Int.mul_comm]; omega
theorem fields_ev (x : Int) (gs : List Int) : ∀ (ws vs pw pv : List Int) (fs : List S28) (r : Bool), ws.length = vs.length → pw.length = pv.length → fs.length = pw.length → pw.length + ws.length ≤ 1000000 →
    Ev (fun k => (pack_Pack.f k (fs ++ zipF ws vs)).bind fun bt150 => (if bt150.2 = true then (some (bt150.1 == x)) else (some false))) r →
    Ev (fun k => cantlelaw03_PackSplits.l0 k x (pv ++ vs) fs (pw ++ ws) ((pw ++ ws).length : Int) (pw.length : Int)) r
  | [], [], pw, pv, fs, r, _, _, _, hb, h => by
    refine Ev.step (fun k => ?_) h
    simp only [cantlelaw03_PackSplits.l0, List.append_nil, zipF]; rw [if_neg (by omega)]
  | w :: ws, v :: vs, pw, pv, fs, r, hl, hp, hfs, hb, h => by
    simp only [List.length_cons] at hb hl
    have h1 : (pw ++ w :: ws).length = pw.length + ws.length + 1 := by simp; omega
    have h2 : (pv ++ v :: vs).length = pw.length + ws.length + 1 := by simp; omega
    have ih := fields_ev x gs ws vs (pw ++ [w]) (pv ++ [v]) (fs ++ [⟨w, v⟩]) r (by omega) (by simp [hp]) (by simp [hfs]) (by simp; omega) (by simpa [zipF] using h)
    have e1 : pw ++ [w] ++ ws = pw ++ w :: ws := by simp
    have e1' : pv ++ [v] ++ vs = pv ++ v :: vs := by simp
    have e2 : ((pw ++ [w]).length : Int) = (pw.length : Int) + 1 := by simp
    rw [e1, e1', e2] at ih
    refine Ev.step (fun k => ?_) ih
    simp only [cantlelaw03_PackSplits.l0, h1, h2, rd_mid, rd_mid' hp]
    rw [if_pos (by omega), if_pos (by omega), if_pos (by omega), if_pos (by omega), if_pos (by omega), w64 (n := (pw.length : Int) + 1) (by omega) (by omega)]
theorem lives_ev : Ev (fun k => cantlelaw03_Lives.f k) true := Ev.of cantlelaw03_Lives.mono (k := 20) (by decide +kernel)
theorem PackSplits : cantlelaw03_PackSplits.Pure := by
  intro x ws hx _ _ _
  obtain ⟨h0, h1⟩ := wf_u64 hx
  refine Ev.rounds (r := true) ?_
  unfold cantlelaw03_PackSplits.f
  refine Ev.bind lives_ev ?_
  simp only [if_true]
  by_cases hlen : (ws.length : Int) > 70
  · rw [decide_eq_true hlen]
    refine Ev.step (f := fun k => (cantlelaw03_Lives.f k).bind fun t135 => some t135) (fun k => by simp only [cantlelaw03_PackSplits.j0, if_true]) ?_
    exact Ev.bind lives_ev (Ev.now _)
  · rw [decide_eq_false hlen]
    have hb : ws.length ≤ 1000000 := by omega
    refine Ev.step (fun k => by simp only [cantlelaw03_PackSplits.j0]; rw [if_neg (by simp)]) ?_
    refine Ev.bind (split_f x ws h0 h1 hb) ?_
    refine Ev.bind (rsplit_f x ws h0 h1 hb) ?_
    simp only [bne_self_eq_false, Bool.false_eq_true, if_false]
    cases hs : sp x 64 ws with
    | none =>
      simp only [spR]
      refine Ev.bind (same_f [] [] (by simp)) ?_
      simp only [decide_true, Bool.not_true]
      refine Ev.step (f := fun _ => some true) (fun k => by simp [cantlelaw03_PackSplits.j1]) (Ev.now _)
    | some vs =>
      have hvl := sp_length ws x 64 vs hs
      simp only [spR, List.nil_append]
      refine Ev.bind (same_f vs vs (by omega)) ?_
      simp only [decide_true, Bool.not_true]
      refine Ev.step (f := fun k => cantlelaw03_PackSplits.l0 k x vs [] ws (ws.length : Int) 0) (fun k => by simp [cantlelaw03_PackSplits.j1]) ?_
      refine fields_ev x vs ws vs [] [] [] true hvl.symm rfl rfl (by simpa using hb) ?_
      have hz : (zipF ws vs).length ≤ 1000000 := by
        have : ∀ (ws vs : List Int), (zipF ws vs).length ≤ ws.length := by
          intro ws
          induction ws with
          | nil => intro vs; simp [zipF]
          | cons w ws ih => intro vs; cases vs with
            | nil => simp [zipF]
            | cons v vs => simp [zipF]; exact ih vs
        have := this ws vs; omega
      have hp := pack_f ([] ++ zipF ws vs) (zip_fit ws x 64 vs h0 h1 (by omega) (by omega) hs) hz
      refine Ev.bind hp ?_
      have := pk_zip ws x 64 vs 0 h0 (by omega) (by omega) hs
      simp only [List.nil_append]
      simp at this
      rw [this]
      simp only [pkR, if_true, beq_self_eq_true]
      exact Ev.now _
end Go.Proofs.Ytdcljkdbdjbjiaa.Pure
